/-
  The library's Clone and Delete at a slice of airways: the same airways in memory of the call's own; the row without one airway.
-/
import Derived.Test.YtgiokjflfadeeaaOwnA
import Derived.Deep.RegionLaw
import Derived.Lib.SliceRun
import Derived.Test.YtgiokjflfadeeaaNum
import Derived.RowKit3
import Derived.ProofKit
import Derived.OpenShut
import Derived.Lib.SmallJoins
namespace Go.Proofs.Ytgiokjflfadeeaa
open Go.RowKit
set_option linter.unusedVariables false

theorem valsA_app (xs ys : List AW) : valsA (xs ++ ys) = valsA xs ++ valsA ys := by simp [valsA]
theorem valsA_cell {xs : List AW} {j : Nat} {u : Value} (h : (valsA xs)[j]? = some u) : u.oneCell' = true := by
  have hm := List.mem_of_getElem? h
  unfold valsA at hm
  rw [List.mem_flatMap] at hm
  obtain ⟨x, _, hx⟩ := hm
  simp [fieldsA] at hx
  rcases hx with rfl | rfl | rfl | rfl | rfl | rfl | rfl <;> rfl
theorem airs_cells {w : World} {b off : Nat} {xs : List AW} (h : ∀ k, k < xs.length → AirAt w b (off + k * 7) (atA xs k)) (j : Nat) (u : Value) (hj : (valsA xs)[j]? = some u) : w.cell? ⟨b, off + j, none⟩ = some u := by
  have hl : j < (valsA xs).length := (List.getElem?_eq_some_iff.1 hj).1
  rw [valsA_len] at hl
  have hd := Nat.div_add_mod j 7
  have hm := Nat.mod_lt j (show 0 < 7 by omega)
  generalize j / 7 = k at hd
  generalize j % 7 = i at hd hm
  have hk : k < xs.length := by omega
  have e : j = k * 7 + i := by omega
  subst e
  rw [valsA_at xs k i hk hm] at hj
  obtain ⟨c0, c1, c2, c3, c4, c5, c6⟩ := h k hk
  rw [← Nat.add_assoc]
  rcases (by omega : i = 0 ∨ i = 1 ∨ i = 2 ∨ i = 3 ∨ i = 4 ∨ i = 5 ∨ i = 6) with rfl | rfl | rfl | rfl | rfl | rfl | rfl <;> simp [fieldsA] at hj <;> subst hj <;> assumption
section
variable {ops : Array Oper} {rest : List Oper} {o : Oper} {a : Act} {Q : Exit → Act → World → Prop}
/-- append of a whole slice of airways to an own row -/
theorem push_airs (hgd : o.guard = none) (s x : Operand)
    (ho : o.op = .call { callee := .builtin .append, args := #[s, x], argTypes := #[26, 26] })
    (W : World) (B : Nat) (v : Value) (xs zs : List AW) (hs : a.eval s = v) (hown : OwnA W B v xs) (b off m c : Nat) (hx : a.eval x = .slice (some ⟨b, off, none⟩) m c) (hm : zs.length = m) (hz : ∀ k, k < zs.length → AirAt W b (off + k * 7) (atA zs k))
    (h40 : xs.length + zs.length < 1099511627776) (hB : B ≤ W.heap.size)
    (h : ∀ v' w', OwnA w' B v' (xs ++ zs) → W.grownBy w' v.ownBlock → (v'.ownBlock = v.ownBlock ∨ v'.ownBlock = some W.heap.size) → (v' = .slice none 0 0 ↔ v = .slice none 0 0 ∧ m = 0) → wpList Try.prog ops Q rest (a.put o.dst v') w') :
    wpList Try.prog ops Q (o :: rest) a W := by
  refine wpList_plain hgd fun K hK => ?_
  obtain ⟨i, hi, hz0, hz1, hz2⟩ := info_parts info_a
  obtain ⟨v', w', hrun, h2, h3, h4, h5⟩ := run_append_own_at (P := Try.prog) W B 26 o.type 51 i (.agg #[.string ⟨#[]⟩, .int .i64 0, .int .i64 0, .int .i64 0, .int .i64 0, .int .i64 0, .int .i64 0]) 7 64 Try.underlying26 hi hz0 hz1 hz2 rfl (by decide) v xs.length (valsA xs) hown
    ⟨b, off, none⟩ m c (valsA zs) (by rw [valsA_len, hm]) (by
      intro j u hj
      rw [Addr.add_lit]
      exact airs_cells hz j u hj) (by intro u hu; obtain ⟨j, hj⟩ := List.mem_iff_getElem?.1 hu; exact valsA_cell hj) (by unfold maxLen; omega) (by omega) hB
  unfold Oper.wp execOp
  simp only [ho, resolve, invoke, builtin, Sem.run_bind, Sem.run_pure, Result.andThen_ok, List.map_toArray, List.map_cons, List.map_nil, hs, hx, hrun]
  refine hK _ _ (h v' w' ?_ h3 h5 h4)
  unfold OwnA
  rw [valsA_app, List.length_append, hm]
  exact h2
end
theorem OwnA.lit0 (w : World) (B : Nat) (hB : B ≤ w.heap.size) : OwnA (w.alloc (.cells #[] 51)) B (.slice (some ⟨w.heap.size, 0, none⟩) 0 0) [] :=
  World.ownsRow_lit w #[] 0 hB (by simp [maxLen]) (by simp)
/-- the copy -/
theorem cloneA_any (b off c : Nat) (xs : List AW) (n : Nat) (w : World) (hn : xs.length = n) (h20 : n ≤ 1048576) (hx : ∀ k, k < xs.length → AirAt w b (off + k * 7) (atA xs k)) (hb : b < w.heap.size) :
    Calls Try.prog 35 #[.slice (some ⟨b, off, none⟩) n c] w fun e w' => ∃ v, e = .returned v ∧ OwnA w' w.heap.size v xs ∧ v ≠ .slice none 0 0 ∧ Below w.heap.size w w' := by
  have HX := Lib.hid hx
  have HN := Lib.hid hn
  have q22 : ∀ (w : World) (a : Option Addr) (n c n' c' : Nat), (binOp .eql 26 (.slice a n c) (.slice none n' c')).run Try.prog w = .ok (.bool a.isNone) w := fun w a n c n' c' => Lib.run_eql_slice_nil w _ _ a n c n' c' Try.underlying26
  clear hx hn
  go_enter Try.func35, Try.ntmps35
  go_wp2_with (at_builtin; go_must (refine push_airs rfl (.tmp 5) (.tmp 6) rfl _ w.heap.size (.slice (some ⟨w.heap.size, 0, none⟩) 0 0) [] xs rfl (OwnA.lit0 w w.heap.size (Nat.le_refl _)) b off n c rfl HN.out (fun k hk => (HX.out k hk).below ((Below.refl w.heap.size w).alloc (Nat.le_refl _) _) hb) (by rw [HN.out]; simp; omega) (by simp) ?_; intro v' w1 ho1 hg1 hl1 hnil; have HO := Lib.hid ho1; have HG := Lib.hid hg1; have HV := Lib.hid hnil; clear ho1 hg1 hl1 hnil))
  go_ret
  have hgr := HG.out
  rw [show (Value.slice (some (⟨w.heap.size, 0, none⟩ : Addr)) 0 0).ownBlock = some w.heap.size from rfl] at hgr
  refine ⟨_, rfl, HO.out, fun e => ?_, below_grown ((Below.refl w.heap.size w).alloc (Nat.le_refl _) _) hgr (fun g e => by injection e with e; omega) (by simp)⟩
  obtain ⟨e1, _⟩ := HV.out.1 e
  cases e1
section
variable {P : Program}
/-- append where there is room, the whole block told -/
theorem step_append_row {ops : Array Oper} {o : Oper} {a : Act} {w : World} {K : Act → World → Prop} {Q : Exit → Act → World → Prop} {E : Prop}
    (hg : o.guard = none) (s x : Operand) (t : TypeId) (hop : o.op = Op.call { callee := Callee.builtin Builtin.append, args := #[s, x], argTypes := #[t, t] })
    (e : TypeId) (i : TypeInfo) (size : Nat) (h1 : P.underlying t = some (.slice e)) (h2 : P.info? e = some i) (h4 : i.size = size)
    (g n cap : Nat) (hs : a.eval s = .slice (some ⟨g, 0, none⟩) n cap) (cur : Array Value) (hh : w.heap[g]? = some (.cells cur e (0, 0)))
    (ad : Addr) (m c : Nat) (news : List Value) (hx : a.eval x = .slice (some ad) m c) (hn : news.length = m * size) (hc : ∀ j u, news[j]? = some u → w.cell? (ad.add j) = some u) (h1c : ∀ u ∈ news, u.oneCell' = true)
    (hroom : n + m ≤ cap) (hfit : n * size + news.length ≤ cur.size)
    (hK : K (a.put o.dst (.slice (some ⟨g, 0, none⟩) (n + m) cap)) (w.setRow g (cur.toList.take (n * size) ++ news ++ cur.toList.drop (n * size + news.length)).toArray)) :
    if Region.wanted o (yielded ops a.tmps) = true then Oper.wp P o a w K Q else E := by
  have hw : Region.wanted o (yielded ops a.tmps) = true := by simp [Region.wanted, hg]
  rw [if_pos hw]
  subst h4
  have hrun := run_append_room (P := P) w t o.type e i h1 h2 g n cap cur hh ad m c news hn hc h1c hroom hfit
  unfold Oper.wp
  rw [List.append_assoc] at hK
  simp [execOp, hop, resolve, invoke, builtin, hs, hx, hrun, Result.andThen]
  exact hK
end
def zeroA : List Value := [.string ⟨#[]⟩, .int .i64 0, .int .i64 0, .int .i64 0, .int .i64 0, .int .i64 0, .int .i64 0]
theorem clear_air (w : World) (ty : TypeId) (g o c : Nat) (cur : Array Value) (hh : w.heap[g]? = some (.cells cur 51 (0, 0))) (hf : o + 7 ≤ cur.size) :
    (Builtin.clear_ #[26] ty #[.slice (some ⟨g, o, none⟩) 1 c]).run Try.prog w = .ok (.tuple #[]) (w.setRow g (cur.toList.take o ++ zeroA ++ cur.toList.drop (o + 7)).toArray) := by
  obtain ⟨i, hi, hz0, hz1, hz2⟩ := info_parts info_a
  have hzv : ∀ w, (zeroValue 51).run Try.prog w = .ok (.agg zeroA.toArray) w := fun w => by simp [zeroValue, typeInfo, hi, hz0, zeroA]
  have hzc : (Builtin.zeroCells (Value.cells (.agg zeroA.toArray)) 1).toList = zeroA := by kernel_rfl
  have hst := run_storeCells_at Try.prog g o 51 zeroA 0 cur w hh (by simpa [zeroA] using hf) (by intro u hu; simp [zeroA] at hu; rcases hu with rfl | rfl | rfl | rfl | rfl | rfl | rfl <;> rfl)
  simp only [Nat.add_zero] at hst
  simp [Builtin.clear_, run_underlying Try.underlying26, hzv, hzc, hst]
  rfl
theorem setRow_below {w : World} {g B : Nat} (cs : Array Value) (hB : B ≤ g) : Below B w (w.setRow g cs) :=
  ⟨rfl, rfl, rfl, by simp [World.setRow], fun k hk => by simp only [World.setRow]; rw [Array.getElem?_modify, if_neg (by omega)]⟩
theorem setRow_grown (w : World) (g : Nat) (cs : Array Value) : w.grownBy (w.setRow g cs) (some g) :=
  ⟨rfl, rfl, rfl, by simp [World.setRow], fun k hk hne => by simp only [World.setRow]; rw [Array.getElem?_modify, if_neg (fun e => hne (by rw [e]))]⟩
theorem valsA_take (xs : List AW) (k : Nat) : valsA (xs.take k) = (valsA xs).take (k * 7) := by
  induction xs generalizing k with
  | nil => simp [valsA]
  | cons x t ih =>
    cases k with
    | zero => simp [valsA]
    | succ k =>
      show fieldsA x ++ valsA (t.take k) = (fieldsA x ++ valsA t).take ((k + 1) * 7)
      rw [ih, List.take_append, fieldsA_len, List.take_of_length_le (l := fieldsA x) (by rw [fieldsA_len]; omega), show (k + 1) * 7 - 7 = k * 7 by omega]
theorem valsA_drop (xs : List AW) (k : Nat) : valsA (xs.drop k) = (valsA xs).drop (k * 7) := by
  induction xs generalizing k with
  | nil => simp [valsA]
  | cons x t ih =>
    cases k with
    | zero => simp
    | succ k =>
      show valsA (t.drop k) = (fieldsA x ++ valsA t).drop ((k + 1) * 7)
      rw [ih, List.drop_append, fieldsA_len, List.drop_of_length_le (l := fieldsA x) (by rw [fieldsA_len]; omega), show (k + 1) * 7 - 7 = k * 7 by omega]
      rfl
theorem take_app {α : Type} (xs ys : List α) (k : Nat) (h : k = xs.length) : (xs ++ ys).take k = xs := by rw [h, List.take_left]
set_option maxHeartbeats 1000000 in
set_option maxRecDepth 100000 in
/-- one airway is taken out of an own row -/
theorem deleteJ_any (g c i j n B : Nat) (xs : List AW) (w : World) (hn : xs.length = n) (hi : i < n) (hj : j = i + 1) (h20 : n ≤ 1048576) (ho : OwnA w B (.slice (some ⟨g, 0, none⟩) n c) xs) :
    Calls Try.prog 34 #[.slice (some ⟨g, 0, none⟩) n c, .int .i64 (i : Int), .int .i64 (j : Int)] w fun e w' => e = .returned (.slice (some ⟨g, 0, none⟩) (n - 1) c) ∧ OwnA w' B (.slice (some ⟨g, 0, none⟩) (n - 1) c) (xs.eraseIdx i) ∧ w.grownBy w' (some g) := by
  subst hn
  obtain ⟨hl, h | ⟨g', cap, cur, hv, hbg, hh, hnc, hcm, hsz, htake⟩⟩ := ho
  · cases h.1
  injection hv with e1 _ e3
  injection e1 with e1; injection e1 with e1
  subst e1 e3
  obtain ⟨n, hn⟩ : ∃ n, n = xs.length := ⟨_, rfl⟩
  rw [← hn] at hi h20 hnc htake hl ⊢
  obtain ⟨ti, hti, hz0, hz1, hz2⟩ := info_parts info_a
  obtain ⟨news, hnews⟩ : ∃ news, news = (valsA xs).drop (j * 7) := ⟨_, rfl⟩
  have hlen : news.length = (n - j) * 7 := by rw [hnews, List.length_drop, valsA_len, ← hn]; omega
  obtain ⟨A, hA, hsrc⟩ : ∃ A : Addr, (if c = j then (some (⟨g, 0, none⟩ : Addr)) else some ⟨g, j * 7, none⟩) = some A ∧ Hid (∀ t u, news[t]? = some u → w.drew.cell? (A.add t) = some u) := by
    by_cases h : c = j
    · refine ⟨⟨g, 0, none⟩, by simp [h], fun t u hu => ?_⟩
      have h0 : news.length = 0 := by rw [hlen]; omega
      rw [List.length_eq_zero_iff.1 h0] at hu
      simp at hu
    · refine ⟨⟨g, j * 7, none⟩, by simp [h], fun t u hu => ?_⟩
      have ht : t < news.length := (List.getElem?_eq_some_iff.1 hu).1
      rw [Addr.add_lit]
      show w.cell? _ = _
      rw [cell_of_row w g _ cur _ _ hh]
      rw [hnews, List.getElem?_drop, ← htake, List.getElem?_take, if_pos (by omega), Array.getElem?_toList] at hu
      exact hu
  obtain ⟨cur1, hcur1⟩ : ∃ cur1, cur1 = (cur.toList.take (i * 7) ++ news ++ cur.toList.drop (i * 7 + news.length)).toArray := ⟨_, rfl⟩
  obtain ⟨W1, hW1⟩ : ∃ W1, W1 = w.drew.setRow g cur1 := ⟨_, rfl⟩
  have hh1 : W1.heap[g]? = some (.cells cur1 51 (0, 0)) := by rw [hW1]; exact setRow_heap w.drew g cur cur1 _ _ hh
  have hs1 : cur1.size = c * 7 := by
    rw [hcur1]; simp [hlen]; omega
  have hcl := fun ty => clear_air W1 ty g ((n - 1) * 7) (c - (n - 1)) cur1 hh1 (by omega)
  obtain ⟨cur2, hcur2⟩ : ∃ cur2, cur2 = (cur1.toList.take ((n - 1) * 7) ++ zeroA ++ cur1.toList.drop ((n - 1) * 7 + 7)).toArray := ⟨_, rfl⟩
  rw [← hcur2] at hcl
  replace hcl : ∀ ty, (Builtin.clear_ #[26] ty #[.slice (some ⟨g, (i + (n - j)) * 7, none⟩) (n - (i + (n - j))) (c - (i + (n - j)))]).run Try.prog W1 = .ok (.tuple #[]) (W1.setRow g cur2) := fun ty => by
    rw [show n - (i + (n - j)) = 1 by omega, show i + (n - j) = n - 1 by omega]
    exact hcl ty
  have s1 : Hid (news.length = (n - j) * 7) := hlen
  have s2 : Hid (∀ u ∈ news, u.oneCell' = true) := fun u hu => by
    rw [hnews] at hu
    obtain ⟨j, hj⟩ := List.mem_iff_getElem?.1 (List.mem_of_mem_drop hu)
    exact valsA_cell hj
  have hic : i ≤ c := by omega
  have hjc : j ≤ c := by omega
  have hij : i < j := by omega
  have hjn : j ≤ n := by omega
  have HJ := Lib.hid hj
  have HW := Lib.hid hW1
  have HC1 := Lib.hid hcur1
  have HH := Lib.hid (show w.drew.heap[g]? = some (.cells cur 51 (0, 0)) from hh)
  have hfit : i * 7 + news.length ≤ cur.size := by omega
  have HN := Lib.hid hn
  have HH1 := Lib.hid hh1
  have HTK := Lib.hid htake
  have HNW := Lib.hid hnews
  have HC2 := Lib.hid hcur2
  clear hW1 hcur1 hh hh1 htake hl hlen hnews hn hcur2 hj
  go_enter Try.func34, Try.ntmps34
  go_wp2_with fail
  go_region_law (refine step_append_row rfl (.tmp 22) (.tmp 25) 26 rfl 51 ti 7 Try.underlying26 hti hz1 g i c (by simp [Act.eval, Act.put]) cur HH.out A (n - j) (c - j) news (by simp [Act.eval, Act.put]) s1.out hsrc.out s2.out (by omega) hfit ?_; rw [← HC1.out, ← HW.out])
  go_wp2_with fail
  go_ret
  have hj := HJ.out
  have hxl : xs.length = n := HN.out.symm
  have hel : (xs.eraseIdx i).length = n - 1 := by rw [List.length_eraseIdx]; rw [if_pos (by omega), hxl]
  have hcs : cur.toList.length = c * 7 := by rw [Array.length_toList]; exact hsz
  have hcs1 : cur1.toList.length = c * 7 := by rw [Array.length_toList]; exact hs1
  have ht1 : cur1.toList.take ((n - 1) * 7) = valsA (xs.eraseIdx i) := by
    rw [List.eraseIdx_eq_take_drop_succ, valsA_app, valsA_take, valsA_drop, ← hj, ← HNW.out, ← HTK.out, HC1.out]
    rw [List.take_take, show min (i * 7) (n * 7) = i * 7 by omega]
    show List.take _ (_ ++ _ ++ _) = _
    exact take_app _ _ _ (by rw [List.length_append, List.length_take, hcs, s1.out]; omega)
  have hs2 : cur2.size = c * 7 := by
    rw [HC2.out, List.size_toArray, List.length_append, List.length_append, List.length_take, List.length_drop, hcs1]
    simp [zeroA]; omega
  have hres : (Value.slice (some (⟨g, 0, none⟩ : Addr)) (i + (n - j)) c) = .slice (some ⟨g, 0, none⟩) (n - 1) c := by rw [show i + (n - j) = n - 1 by omega]
  refine ⟨by rw [← hres]; rfl, ?_, ?_⟩
  · unfold OwnA
    rw [hel]
    refine ⟨by rw [valsA_len, hel], .inr ⟨g, c, cur2, rfl, hbg, setRow_heap W1 g cur1 cur2 _ _ HH1.out, by omega, hcm, hs2, ?_⟩⟩
    rw [HC2.out]
    show List.take _ (_ ++ _ ++ _) = _
    rw [← ht1, List.append_assoc]
    exact take_app _ _ _ (by rw [List.length_take, hcs1]; omega)
  · have h1 := setRow_grown w.drew g cur1
    rw [← HW.out] at h1
    have h2 := World.grownBy.trans h1 (setRow_grown W1 g cur2)
    exact ⟨h2.os, h2.tape, h2.output, h2.size, h2.block⟩
theorem deleteA_any (g c i n B : Nat) (xs : List AW) (w : World) (hn : xs.length = n) (hi : i < n) (h20 : n ≤ 1048576) (ho : OwnA w B (.slice (some ⟨g, 0, none⟩) n c) xs) :
    Calls Try.prog 34 #[.slice (some ⟨g, 0, none⟩) n c, .int .i64 (i : Int), .int .i64 ((i : Int) + 1)] w fun e w' => e = .returned (.slice (some ⟨g, 0, none⟩) (n - 1) c) ∧ OwnA w' B (.slice (some ⟨g, 0, none⟩) (n - 1) c) (xs.eraseIdx i) ∧ w.grownBy w' (some g) :=
  deleteJ_any g c i (i + 1) n B xs w hn hi rfl h20 ho
end Go.Proofs.Ytgiokjflfadeeaa
