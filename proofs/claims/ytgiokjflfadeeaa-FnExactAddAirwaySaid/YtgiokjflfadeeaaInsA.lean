/-
  The library's Insert at an own row of airways, one airway put in.
-/
import Derived.Test.YtgiokjflfadeeaaOwnC
import Derived.Test.YtgiokjflfadeeaaAddT
import Derived.Lib.Overlaps
import Derived.Lib.AppendZerosOnto
import Derived.Laws.CopyRow
import Derived.Test.YtgiokjflfadeeaaNum
import Derived.RowKit3
import Derived.ProofKit
import Derived.OpenShut
import Derived.Lib.SmallJoins
namespace Go.Proofs.Ytgiokjflfadeeaa
open Go.RowKit
set_option linter.unusedVariables false

section
variable {P : Program} {ops : Array Oper} {rest : List Oper} {o : Oper} {a : Act} {K : Act → World → Prop} {Q : Exit → Act → World → Prop} {E : Prop}
theorem wpList_copyR (w : World) (hgd : o.guard = none) (d s : Operand) (t t' : TypeId) (ho : o.op = .call { callee := .builtin .copy, args := #[d, s], argTypes := #[t, t'] }) (v u : Value) (hd : a.eval d = v) (hs : a.eval s = u) {v' : Value} {w' : World}
    (hr : (Builtin.copy_ #[t, t'] o.type #[v, u]).run P w = .ok v' w') (h : wpList P ops Q rest (a.put o.dst v') w') : wpList P ops Q (o :: rest) a w := by
  refine wpList_plain hgd fun K hK => ?_
  unfold Oper.wp execOp
  simp only [ho, resolve, invoke, builtin, Sem.run_bind, Sem.run_pure, Result.andThen_ok, List.map_toArray, List.map_cons, List.map_nil, hd, hs, hr]
  exact hK _ _ h
theorem wpList_appendR (w : World) (hgd : o.guard = none) (d s : Operand) (t t' : TypeId) (ho : o.op = .call { callee := .builtin .append, args := #[d, s], argTypes := #[t, t'] }) (v u : Value) (hd : a.eval d = v) (hs : a.eval s = u) {v' : Value} {w' : World}
    (hr : (Builtin.append_ #[t, t'] o.type #[v, u]).run P w = .ok v' w') (h : wpList P ops Q rest (a.put o.dst v') w') : wpList P ops Q (o :: rest) a w := by
  refine wpList_plain hgd fun K hK => ?_
  unfold Oper.wp execOp
  simp only [ho, resolve, invoke, builtin, Sem.run_bind, Sem.run_pure, Result.andThen_ok, List.map_toArray, List.map_cons, List.map_nil, hd, hs, hr]
  exact hK _ _ h
theorem step_copyR {w : World} (hg : o.guard = none) (d x : Operand) (dT sT : TypeId) (hop : o.op = Op.call { callee := Callee.builtin Builtin.copy, args := #[d, x], argTypes := #[dT, sT] })
    (v u : Value) (hd : a.eval d = v) (hx : a.eval x = u) {v' : Value} {w' : World} (hr : (Builtin.copy_ #[dT, sT] o.type #[v, u]).run P w = .ok v' w') (hK : K (a.put o.dst v') w') :
    if Region.wanted o (yielded ops a.tmps) = true then Oper.wp P o a w K Q else E := by
  have hw : Region.wanted o (yielded ops a.tmps) = true := by simp [Region.wanted, hg]
  rw [if_pos hw]
  unfold Oper.wp
  simp [execOp, hop, resolve, invoke, builtin, hd, hx, hr, Result.andThen]
  exact hK
end
theorem copy_air (w : World) (ty : TypeId) (g o dLen dCap : Nat) (b : Addr) (sLen sCap m : Nat) (cur : Array Value) (cs : List Value) (hg : w.heap[g]? = some (.cells cur 51 (0, 0)))
    (hm : m = Nat.min sLen dLen) (hn : cs.length = m * 7) (hsrc : ∀ j v, cs[j]? = some v → w.cell? (b.add j) = some v) (hfit : o + cs.length ≤ cur.size) (h1 : ∀ v ∈ cs, v.oneCell' = true) :
    (Builtin.copy_ #[26, 26] ty #[.slice (some ⟨g, o, none⟩) dLen dCap, .slice (some b) sLen sCap]).run Try.prog w = .ok (goInt m) (w.setRow g (cur.toList.take o ++ cs ++ cur.toList.drop (o + cs.length)).toArray) := by
  obtain ⟨i, hi, hz0, hz1, hz2⟩ := info_parts info_a
  have hl := run_firstCells_some (P := Try.prog) w 7 m b sLen sCap cs hn hsrc
  have hst := run_storeCells_at Try.prog g o 51 cs 0 cur w hg (by simpa using hfit) h1
  simp only [Nat.add_zero] at hst
  subst hm
  simp [Builtin.copy_, run_underlying Try.underlying26, Builtin.lenOf, sizeOf, typeInfo, hi, hz1, hl, hst]
def InsPost (xs : List AW) (y : AW) (i B : Nat) (row : Option Nat) (w : World) (e : Ending) (w' : World) : Prop := ∃ v, e = .returned v ∧ OwnA w' B v (insA xs y i) ∧ w.grownBy w' row
set_option maxHeartbeats 1000000 in
set_option maxRecDepth 100000 in
/-- at the end -/
theorem insEnd_any (v : Value) (gv n B : Nat) (A : Option Addr) (c : Nat) (xs : List AW) (y : AW) (w : World) (hv : v = .slice A n c) (hn : xs.length = n) (h20 : n ≤ 1048576) (ho : OwnA w B v xs) (hB : B ≤ w.heap.size)
    (hy : w.heap[gv]? = some (.cells (fieldsA y).toArray 51 (0, 0))) :
    Calls Try.prog 53 #[v, .int .i64 (n : Int), .slice (some ⟨gv, 0, none⟩) 1 1] w (InsPost xs y n B v.ownBlock w) := by
  have HN := Lib.hid hn
  have HO := Lib.hid ho
  have hza : ∀ k, k < [y].length → AirAt w gv (0 + k * 7) (atA [y] k) := fun k hk => by
    have : k = 0 := by simpa using hk
    subst this
    have hc : ∀ i, i < 7 → w.cell? ⟨gv, 0 + 0 * 7 + i, none⟩ = (fieldsA y)[i]? := fun i hi => by
      rw [cell_of_row w gv _ _ _ _ hy]
      simp
    exact ⟨hc 0 (by omega), hc 1 (by omega), hc 2 (by omega), hc 3 (by omega), hc 4 (by omega), hc 5 (by omega), hc 6 (by omega)⟩
  have HZ := Lib.hid hza
  have hnc : n ≤ c := by
    rcases ho.2 with ⟨e, h0⟩ | ⟨g, cap, cur, e, _, _, h1, _⟩
    · rw [hv] at e; cases e; omega
    · rw [hv] at e; cases e; omega
  have hsub : insA xs y n = xs ++ [y] := by unfold insA; rw [List.take_of_length_le (by omega), List.drop_of_length_le (by omega), List.append_nil]
  have HS := Lib.hid hsub
  subst hv
  clear ho hn hza hsub hy
  go_enter Try.func53, Try.ntmps53
  go_wp2_with (at_builtin; go_must (refine push_airs rfl (.tmp 23) (.tmp 24) rfl _ B (.slice A n c) xs [y] rfl HO.out gv 0 1 1 rfl rfl HZ.out (by rw [HN.out]; simp; omega) hB ?_; intro v' w1 ho1 hg1 hl1 hnil; have HO1 := Lib.hid ho1; have HG := Lib.hid hg1; clear ho1 hg1 hl1 hnil))
  all_goals
    go_ret
    first
      | exact ⟨_, rfl, by rw [HS.out]; exact HO1.out, HG.out⟩
      | (subst h; exact ⟨_, rfl, by rw [HS.out]; exact HO1.out, HG.out⟩)
theorem valsA_mem {xs : List AW} {u : Value} (h : u ∈ valsA xs) : u.oneCell' = true := by
  obtain ⟨j, hj⟩ := List.mem_iff_getElem?.1 h
  exact valsA_cell hj
theorem fieldsA_mem {y : AW} {u : Value} (h : u ∈ fieldsA y) : u.oneCell' = true := by
  simp [fieldsA] at h; rcases h with rfl | rfl | rfl | rfl | rfl | rfl | rfl <;> rfl
theorem row_cell {w : World} {g : Nat} {cur : Array Value} {t : TypeId} {m : Nat} {vs : List Value} (hh : w.heap[g]? = some (.cells cur t (0, 0))) (ht : cur.toList.take m = vs) (o j : Nat) (u : Value) (hj : (vs.drop o)[j]? = some u) : w.cell? ⟨g, o + j, none⟩ = some u := by
  rw [cell_of_row w g _ cur _ _ hh]
  rw [List.getElem?_drop, ← ht, List.getElem?_take] at hj
  split at hj
  · rw [Array.getElem?_toList] at hj; exact hj
  · cases hj
set_option maxHeartbeats 2000000 in
set_option maxRecDepth 100000 in
/-- in the middle, with room -/
theorem insShift_any (g gv c i n B : Nat) (xs : List AW) (y : AW) (w : World) (hn : xs.length = n) (hi : i < n) (h20 : n ≤ 1048576) (hroom : n + 1 ≤ c) (ho : OwnA w B (.slice (some ⟨g, 0, none⟩) n c) xs) (hne : gv ≠ g)
    (hy : w.heap[gv]? = some (.cells (fieldsA y).toArray 51 (0, 0))) :
    Calls Try.prog 53 #[.slice (some ⟨g, 0, none⟩) n c, .int .i64 (i : Int), .slice (some ⟨gv, 0, none⟩) 1 1] w (InsPost xs y i B (some g) w) := by
  subst hn
  obtain ⟨hl, h | ⟨g', cap, cur, hv, hbg, hh, hnc, hcm, hsz, htake⟩⟩ := ho
  · cases h.1
  injection hv with e1 _ e3
  injection e1 with e1; injection e1 with e1
  subst e1 e3
  obtain ⟨n, hn⟩ : ∃ n, n = xs.length := ⟨_, rfl⟩
  rw [← hn] at hi h20 hnc htake hl hroom ⊢
  obtain ⟨j, hj⟩ : ∃ j, j = i + 1 := ⟨_, rfl⟩
  have hcs : cur.toList.length = c * 7 := by rw [Array.length_toList]; exact hsz
  have hd : (valsA (xs.drop i)).length = (n - i) * 7 := by rw [valsA_len, List.length_drop, hn]
  have hf7 : (fieldsA y).length = 7 := rfl
  -- the first copy
  obtain ⟨cur1, hcur1⟩ : ∃ cur1, cur1 = (cur.toList.take (j * 7) ++ valsA (xs.drop i) ++ cur.toList.drop (j * 7 + (valsA (xs.drop i)).length)).toArray := ⟨_, rfl⟩
  have hcp1 : ∀ ty dc sc, (Builtin.copy_ #[26, 26] ty #[.slice (some ⟨g, j * 7, none⟩) (n + 1 - j) dc, .slice (some ⟨g, i * 7, none⟩) (n + 1 - i) sc]).run Try.prog w.drew = .ok (goInt ((n - i : Nat) : Int)) (w.drew.setRow g cur1) := fun ty dc sc => by
    rw [hcur1]
    exact copy_air w.drew ty g (j * 7) (n + 1 - j) dc ⟨g, i * 7, none⟩ (n + 1 - i) sc (n - i) cur (valsA (xs.drop i)) hh (by simp only [Nat.min_def]; split <;> omega) hd
      (fun t u hu => by rw [Addr.add_lit]; rw [valsA_drop] at hu; exact row_cell (w := w) hh htake (i * 7) t u hu) (by rw [hd]; omega) (fun u hu => valsA_mem hu)
  have hs1 : cur1.size = c * 7 := by
    rw [hcur1, List.size_toArray, List.length_append, List.length_append, List.length_take, List.length_drop, hcs, hd]; omega
  have hcs1 : cur1.toList.length = c * 7 := by rw [Array.length_toList]; exact hs1
  obtain ⟨W1, hW1⟩ : ∃ W1, W1 = w.drew.setRow g cur1 := ⟨_, rfl⟩
  have hh1 : W1.heap[g]? = some (.cells cur1 51 (0, 0)) := by rw [hW1]; exact setRow_heap w.drew g cur cur1 _ _ hh
  have hy1 : W1.heap[gv]? = some (.cells (fieldsA y).toArray 51 (0, 0)) := by rw [hW1]; rw [(setRow_grown w.drew g cur1).block gv (Array.getElem?_eq_some_iff.1 hy).1 (fun e => by injection e with e; exact hne e)]; exact hy
  -- the second copy
  obtain ⟨cur2, hcur2⟩ : ∃ cur2, cur2 = (cur1.toList.take (i * 7) ++ fieldsA y ++ cur1.toList.drop (i * 7 + (fieldsA y).length)).toArray := ⟨_, rfl⟩
  have hcp2 : ∀ ty dc, (Builtin.copy_ #[26, 26] ty #[.slice (some ⟨g, i * 7, none⟩) (n + 1 - i) dc, .slice (some ⟨gv, 0, none⟩) 1 1]).run Try.prog W1 = .ok (goInt 1) (W1.setRow g cur2) := fun ty dc => by
    rw [hcur2]
    exact copy_air W1 ty g (i * 7) (n + 1 - i) dc ⟨gv, 0, none⟩ 1 1 1 cur1 (fieldsA y) hh1 (by simp only [Nat.min_def]; split <;> omega) rfl
      (fun t u hu => by rw [Addr.add_lit]; rw [cell_of_row W1 gv _ _ _ _ hy1]; simpa using hu) (by rw [hf7]; omega) (fun u hu => fieldsA_mem hu)
  have hs2 : cur2.size = c * 7 := by
    rw [hcur2, List.size_toArray, List.length_append, List.length_append, List.length_take, List.length_drop, hcs1, hf7]; omega
  have ht2 : cur2.toList.take ((n + 1) * 7) = valsA (insA xs y i) := by
    unfold insA
    rw [valsA_app, valsA_app, valsA_take]
    have e1 : valsA [y] = fieldsA y := by simp [valsA]
    rw [e1]
    have a1 : (cur1.toList.take (i * 7)) = (valsA xs).take (i * 7) := by
      rw [hcur1, ← htake]
      show List.take _ (_ ++ _ ++ _) = _
      rw [List.append_assoc, List.take_append_of_le_length (by rw [List.length_take, hcs]; omega), List.take_take, List.take_take]
      congr 1
      omega
    have a2 : (cur1.toList.drop (i * 7 + 7)).take ((n - i) * 7) = valsA (xs.drop i) := by
      rw [hcur1]
      show List.take _ (List.drop _ (_ ++ _ ++ _)) = _
      rw [List.append_assoc, List.drop_append, List.drop_of_length_le (by rw [List.length_take, hcs]; omega), List.nil_append, List.length_take, hcs, show i * 7 + 7 - min (j * 7) (c * 7) = 0 by omega, List.drop_zero]
      exact take_app _ _ _ hd.symm
    rw [hcur2]
    show List.take _ (_ ++ _ ++ _) = _
    rw [List.append_assoc, List.take_append, List.take_of_length_le (by rw [List.length_take, hcs1]; omega), a1, List.length_take, valsA_len, ← hn, show min (i * 7) (n * 7) = i * 7 by omega]
    congr 1
    rw [List.take_append, List.take_of_length_le (by rw [hf7]; omega), hf7, show (n + 1) * 7 - i * 7 - 7 = (n - i) * 7 by omega, a2]
  have hov : ∀ lb cb, (callFunc 70 #[.slice (some ⟨gv, 0, none⟩) 1 1, .slice (some ⟨g, j * 7, none⟩) lb cb]).run Try.prog w = .ok (.value (.bool false)) w := fun lb cb => by
    rw [run_callFunc_extern Try.func70 (by kernel_rfl) (by kernel_rfl) (by kernel_rfl) (e := Extern.SlicesOverlaps.overlaps #[26, 26] #[4]) (by kernel_rfl),
      Lib.run_overlaps_apart w 26 4 51 Try.underlying26 7 Try.sizeOf51 ⟨gv, 0, none⟩ ⟨g, j * 7, none⟩ 1 1 lb cb hne 51 51 7 (c * 7) (by simp [World.shape?, hy, fieldsA]) (by simp [World.shape?, hh, hsz]) (by omega) (by simp [World.frozen?, hy]) (by simp [World.frozen?, hy])]
    rfl
  have HW := Lib.hid hW1
  have HT2 := Lib.hid ht2
  have HH1 := Lib.hid hh1
  have HS2 := Lib.hid hs2
  rw [← hW1] at hcp1
  have HN := Lib.hid hn
  have hin : i ≤ n := by omega
  have hb2 : ¬ (c = j) := by omega
  have hb4 : ¬ (c = i) := by omega
  have hz2 : ¬ ((i : Int) = (n : Int)) := by omega
  have htn : ((i : Int) + 1).toNat = j := by omega
  have hb3 : (i : Int) ≤ (n : Int) + 1 := by omega
  have hw1 : IntKind.i64.wrap ((i : Int) + 1) = (i : Int) + 1 := by rw [IntKind.wrap_i64]; omega
  have hb1 : (0 : Int) ≤ (i : Int) + 1 := by omega
  have hb5 : (i : Int) + 1 ≤ (n : Int) + 1 := by omega
  have HJ := Lib.hid hj
  clear hcur1 hcur2 hW1 hh1 hy1 ht2 htake hl hh hy hcs hd hs1 hcs1 hs2 hsz hn hj
  go_enter Try.func53, Try.ntmps53
  go_wp2_with (simp only [hov])
  go_region_law (refine step_copyR rfl (.tmp 73) (.tmp 76) 26 26 rfl (.slice (some ⟨g, j * 7, none⟩) (n + 1 - j) (c - j)) (.slice (some ⟨g, i * 7, none⟩) (n + 1 - i) (c - i)) (by simp [Act.eval, Act.put]) (by simp [Act.eval, Act.put]) (hcp1 3 (c - j) (c - i)) ?_)
  go_wp2_with (at_builtin; refine wpList_copyR _ rfl (.tmp 80) (.tmp 81) 26 26 rfl _ _ rfl rfl (hcp2 _ _) ?_)
  go_ret
  have hil : (insA xs y i).length = n + 1 := by rw [insA_len, ← HN.out]
  refine ⟨_, rfl, ?_, ?_⟩
  · unfold OwnA
    rw [hil]
    exact ⟨by rw [valsA_len, hil], .inr ⟨g, c, cur2, rfl, hbg, setRow_heap W1 g cur1 cur2 _ _ HH1.out, hroom, hcm, HS2.out, HT2.out⟩⟩
  · have h1 := setRow_grown w.drew g cur1
    rw [← HW.out] at h1
    have h2 := World.grownBy.trans h1 (setRow_grown W1 g cur2)
    exact ⟨h2.os, h2.tape, h2.output, h2.size, h2.block⟩
set_option maxHeartbeats 2000000 in
set_option maxRecDepth 100000 in
/-- in the middle, without room: a new row -/
theorem insGrow_any (g gv c i n B : Nat) (xs : List AW) (y : AW) (w : World) (hn : xs.length = n) (hi : i < n) (h20 : n ≤ 1048576) (hroom : c < n + 1) (ho : OwnA w B (.slice (some ⟨g, 0, none⟩) n c) xs) (hB : B ≤ w.heap.size)
    (hy : w.heap[gv]? = some (.cells (fieldsA y).toArray 51 (0, 0))) :
    Calls Try.prog 53 #[.slice (some ⟨g, 0, none⟩) n c, .int .i64 (i : Int), .slice (some ⟨gv, 0, none⟩) 1 1] w (InsPost xs y i B (some g) w) := by
  subst hn
  obtain ⟨hl, h | ⟨g', cap, cur, hv, hbg, hh, hnc, hcm, hsz, htake⟩⟩ := ho
  · cases h.1
  injection hv with e1 _ e3
  injection e1 with e1; injection e1 with e1
  subst e1 e3
  obtain ⟨n, hn⟩ : ∃ n, n = xs.length := ⟨_, rfl⟩
  rw [← hn] at hi h20 hnc htake hl hroom ⊢
  obtain ⟨j, hj⟩ : ∃ j, j = i + 1 := ⟨_, rfl⟩
  have hgl : g < w.heap.size := (Array.getElem?_eq_some_iff.1 hh).1
  have hgvl : gv < w.heap.size := (Array.getElem?_eq_some_iff.1 hy).1
  have hcs : cur.toList.length = c * 7 := by rw [Array.length_toList]; exact hsz
  have hd : (valsA (xs.drop i)).length = (n - i) * 7 := by rw [valsA_len, List.length_drop, hn]
  have hti : (valsA (xs.take i)).length = i * 7 := by rw [valsA_len, List.length_take, ← hn]; omega
  have hf7 : (fieldsA y).length = 7 := rfl
  obtain ⟨ti, hinf, hz0, hz1, hz2⟩ := info_parts info_a
  -- the new row
  have hold : (Builtin.firstCells ti.size i (.slice (some ⟨g, 0, none⟩) i c)).run Try.prog w.drew = .ok (valsA (xs.take i)).toArray w.drew := by
    rw [hz1]
    exact run_firstCells_some w.drew 7 i ⟨g, 0, none⟩ i c (valsA (xs.take i)) hti (fun t u hu => by
      rw [Addr.add_lit]
      rw [valsA_take, List.getElem?_take] at hu
      split at hu
      · exact row_cell (w := w) hh htake 0 t u (by simpa using hu)
      · cases hu)
  have hik : i + (n + 1 - i) = n + 1 := by omega
  obtain ⟨G, hG⟩ : ∃ G, G = grownCap w (n + 1) c 51 := ⟨_, rfl⟩
  obtain ⟨ROW, hROW⟩ : ∃ ROW : Array Value, ROW = (valsA (xs.take i)).toArray ++ Builtin.zeroCells (Value.cells (.agg #[.string ⟨#[]⟩, .int .i64 0, .int .i64 0, .int .i64 0, .int .i64 0, .int .i64 0, .int .i64 0])) (n + 1 - i) ++ Builtin.zeroCells (Value.cells (.agg #[.string ⟨#[]⟩, .int .i64 0, .int .i64 0, .int .i64 0, .int .i64 0, .int .i64 0, .int .i64 0])) (G - (n + 1)) := ⟨_, rfl⟩
  have hrz : ∀ ty, (Builtin.append_ #[26, 3] ty #[.slice (some ⟨g, 0, none⟩) i c, .int .i64 ((n : Int) + 1 - (i : Int))]).run Try.prog w =
      .ok (.slice (some ⟨w.heap.size, 0, none⟩) (n + 1) G) (w.drew.alloc (.cells ROW 51)) := fun ty => by
    have h := Lib.run_append_grow_zeros w 26 3 ty 51 ti _ .i64 .i64 Try.underlying26 Try.underlying3 hinf hz0 (some ⟨g, 0, none⟩) i c (valsA (xs.take i)) hold (n + 1 - i) (by omega) (by omega) (by omega) (by omega) (by rw [hz2]; omega) (by rw [hz2, hik]; exact growslice_fits hroom (by omega))
    rw [hik, ← hG, ← hROW] at h
    rw [show (n : Int) + 1 - (i : Int) = ((n + 1 - i : Nat) : Int) by omega]
    exact h
  have hGn : n + 1 ≤ G := by rw [hG]; exact grownCap_ge w _ _ _
  have hGm : G ≤ maxLen := by rw [hG]; exact grownCap_le_maxLen w _ _ _ (by unfold maxLen; omega)
  have hRl : ROW.size = G * 7 := by
    rw [hROW]
    simp [size_zeroCells, Value.cells, hti]
    omega
  have hRls : ROW.toList.length = G * 7 := by rw [Array.length_toList]; exact hRl
  have hRt : ROW.toList.take (i * 7) = valsA (xs.take i) := by
    rw [hROW]
    simp only [Array.toList_append, List.append_assoc]
    exact take_app _ _ _ hti.symm
  obtain ⟨W1, hW1⟩ : ∃ W1, W1 = w.drew.alloc (.cells ROW 51) := ⟨_, rfl⟩
  have hh1 : W1.heap[w.heap.size]? = some (.cells ROW 51 (0, 0)) := by rw [hW1]; exact Array.getElem?_push_size
  have hb1 : Below w.heap.size w W1 := by rw [hW1]; exact (Below.refl w.heap.size w).drew.alloc (Nat.le_refl _) _
  have hg1 : W1.heap[g]? = some (.cells cur 51 (0, 0)) := (hb1.block g hgl).trans hh
  have hy1 : W1.heap[gv]? = some (.cells (fieldsA y).toArray 51 (0, 0)) := (hb1.block gv hgvl).trans hy
  -- the first copy
  obtain ⟨cur2, hcur2⟩ : ∃ cur2, cur2 = (ROW.toList.take (i * 7) ++ fieldsA y ++ ROW.toList.drop (i * 7 + (fieldsA y).length)).toArray := ⟨_, rfl⟩
  have hcpA : ∀ W : World, W.heap = W1.heap → ∀ ty dc, (Builtin.copy_ #[26, 26] ty #[.slice (some ⟨w.heap.size, i * 7, none⟩) (n + 1 - i) dc, .slice (some ⟨gv, 0, none⟩) 1 1]).run Try.prog W = .ok (goInt 1) (W.setRow w.heap.size cur2) := fun W hW ty dc => by
    rw [hcur2]
    exact copy_air W ty w.heap.size (i * 7) (n + 1 - i) dc ⟨gv, 0, none⟩ 1 1 1 ROW (fieldsA y) (by rw [hW]; exact hh1) (by simp only [Nat.min_def]; split <;> omega) rfl
      (fun t u hu => by rw [Addr.add_lit]; rw [cell_of_row W gv _ _ _ _ (by rw [hW]; exact hy1)]; simpa using hu) (by rw [hf7]; omega) (fun u hu => fieldsA_mem hu)
  have hs2 : cur2.size = G * 7 := by
    rw [hcur2, List.size_toArray, List.length_append, List.length_append, List.length_take, List.length_drop, hRls, hf7]; omega
  have hcs2 : cur2.toList.length = G * 7 := by rw [Array.length_toList]; exact hs2
  obtain ⟨W2, hW2⟩ : ∃ W2, W2 = W1.setRow w.heap.size cur2 := ⟨_, rfl⟩
  have hh2 : W2.heap[w.heap.size]? = some (.cells cur2 51 (0, 0)) := by rw [hW2]; exact setRow_heap W1 _ ROW cur2 _ _ hh1
  have hg2 : W2.heap[g]? = some (.cells cur 51 (0, 0)) := by rw [hW2]; rw [(setRow_grown W1 w.heap.size cur2).block g (Array.getElem?_eq_some_iff.1 hg1).1 (fun e => by injection e with e; omega)]; exact hg1
  -- the second copy
  obtain ⟨cur3, hcur3⟩ : ∃ cur3, cur3 = (cur2.toList.take (j * 7) ++ valsA (xs.drop i) ++ cur2.toList.drop (j * 7 + (valsA (xs.drop i)).length)).toArray := ⟨_, rfl⟩
  have hcpB : ∀ W : World, W.heap = W2.heap → ∀ ty dc sc, (Builtin.copy_ #[26, 26] ty #[.slice (some ⟨w.heap.size, j * 7, none⟩) (n + 1 - j) dc, .slice (some ⟨g, i * 7, none⟩) (n - i) sc]).run Try.prog W = .ok (goInt ((n - i : Nat) : Int)) (W.setRow w.heap.size cur3) := fun W hW ty dc sc => by
    rw [hcur3]
    exact copy_air W ty w.heap.size (j * 7) (n + 1 - j) dc ⟨g, i * 7, none⟩ (n - i) sc (n - i) cur2 (valsA (xs.drop i)) (by rw [hW]; exact hh2) (by simp only [Nat.min_def]; split <;> omega) hd
      (fun t u hu => by rw [Addr.add_lit]; rw [valsA_drop] at hu; exact row_cell (w := W) (by rw [hW]; exact hg2) htake (i * 7) t u hu) (by rw [hd]; omega) (fun u hu => valsA_mem hu)
  have hs3 : cur3.size = G * 7 := by
    rw [hcur3, List.size_toArray, List.length_append, List.length_append, List.length_take, List.length_drop, hcs2, hd]; omega
  have ht3 : cur3.toList.take ((n + 1) * 7) = valsA (insA xs y i) := by
    unfold insA
    rw [valsA_app, valsA_app]
    have e1 : valsA [y] = fieldsA y := by simp [valsA]
    rw [e1]
    have a1 : cur2.toList.take (j * 7) = valsA (xs.take i) ++ fieldsA y := by
      rw [hcur2]
      show List.take _ (_ ++ _ ++ _) = _
      rw [hRt]
      exact take_app _ _ _ (by rw [List.length_append, hti, hf7]; omega)
    rw [hcur3]
    show List.take _ (_ ++ _ ++ _) = _
    rw [a1]
    rw [take_app _ _ _ (by rw [List.length_append, List.length_append, hti, hf7, hd]; omega), List.append_assoc]
  have HT3 := Lib.hid ht3
  have HS3 := Lib.hid hs3
  have HW1 := Lib.hid hW1
  have HW2 := Lib.hid hW2
  have HH2 := Lib.hid hh2
  have HB1 := Lib.hid hb1
  have HN := Lib.hid hn
  have hin : i ≤ n := by omega
  have hb2 : ¬ (G = j) := by omega
  have hb4 : ¬ (G = i) := by omega
  have hb6 : ¬ (c = i) := by omega
  have hz2 : ¬ ((i : Int) = (n : Int)) := by omega
  have htn : ((i : Int) + 1).toNat = j := by omega
  have hb3 : (i : Int) ≤ (n : Int) + 1 := by omega
  have hw1 : IntKind.i64.wrap ((i : Int) + 1) = (i : Int) + 1 := by rw [IntKind.wrap_i64]; omega
  have hb1' : (0 : Int) ≤ (i : Int) + 1 := by omega
  have hb5 : (i : Int) + 1 ≤ (n : Int) + 1 := by omega
  have HJ := Lib.hid hj
  have HGN := Lib.hid hGn
  have HGM := Lib.hid hGm
  clear hcur3 hcur2 hh1 hy1 hg1 hg2 hh2 ht3 htake hl hh hy hcs hd hRl hRls hRt hs2 hcs2 hs3 hsz hn hj hROW hG hold hb1 hinf hz0 hz1
  go_enter Try.func53, Try.ntmps53
  go_wp2_with (first
    | (at_builtin; refine wpList_appendR _ rfl (.tmp 34) (.tmp 39) 26 3 rfl _ _ rfl rfl (hrz _) ?_)
    | (at_builtin; refine wpList_copyR _ rfl (.tmp 43) (.tmp 44) 26 26 rfl _ _ rfl rfl (hcpA _ (by rw [HW1.out]; rfl) _ _) ?_))
  go_region_law (refine step_copyR rfl (.tmp 50) (.tmp 53) 26 26 rfl (.slice (some ⟨w.heap.size, j * 7, none⟩) (n + 1 - j) (G - j)) (.slice (some ⟨g, i * 7, none⟩) (n - i) (c - i)) (by simp [Act.eval, Act.put]) (by simp [Act.eval, Act.put]) (hcpB _ (by rw [HW2.out, HW1.out]; rfl) 3 (G - j) (c - i)) ?_)
  go_wp2_with fail
  go_ret
  have hil : (insA xs y i).length = n + 1 := by rw [insA_len, ← HN.out]
  have hex : ∀ W : World, W.os = w.os → W.tape = w.tape → W.output = w.output → W.heap = W2.heap → OwnA (W.setRow w.heap.size cur3) B (.slice (some ⟨w.heap.size, 0, none⟩) (n + 1) G) (insA xs y i) ∧ w.grownBy (W.setRow w.heap.size cur3) (some g) := fun W e1 e2 e3 e4 => by
    refine ⟨?_, ?_⟩
    · unfold OwnA
      rw [hil]
      exact ⟨by rw [valsA_len, hil], .inr ⟨w.heap.size, G, cur3, rfl, hB, setRow_heap W _ cur2 cur3 _ _ (by rw [e4]; exact HH2.out), HGN.out, HGM.out, HS3.out, HT3.out⟩⟩
    · have h1 := HB1.out
      have h2 : Below w.heap.size W1 W2 := by rw [HW2.out]; exact setRow_below cur2 (Nat.le_refl _)
      have h3 : Below w.heap.size W (W.setRow w.heap.size cur3) := setRow_below cur3 (Nat.le_refl _)
      exact ⟨h3.os.trans e1, h3.tape.trans e2, h3.output.trans e3, Nat.le_trans (Nat.le_trans h1.size h2.size) (by rw [← e4]; exact h3.size), fun k hk _ => (h3.block k hk).trans ((by rw [e4]; exact (h2.block k hk).trans (h1.block k hk)))⟩
  obtain ⟨p1, p2⟩ := hex (((w.alloc (.cells ROW 51)).drew.setRow w.heap.size cur2).drew) rfl rfl rfl (by rw [HW2.out, HW1.out]; rfl)
  exact ⟨_, rfl, p1, p2⟩
/-- Insert, whatever room there is -/
theorem insertA_any (v : Value) (A : Option Addr) (c gv i n B : Nat) (xs : List AW) (y : AW) (w : World) (hv : v = .slice A n c) (hn : xs.length = n) (hi : i ≤ n) (h20 : n ≤ 1048576) (ho : OwnA w B v xs) (hB : B ≤ w.heap.size) (hne : v.ownBlock ≠ some gv)
    (hy : w.heap[gv]? = some (.cells (fieldsA y).toArray 51 (0, 0))) :
    Calls Try.prog 53 #[v, .int .i64 (i : Int), .slice (some ⟨gv, 0, none⟩) 1 1] w (InsPost xs y i B v.ownBlock w) := by
  by_cases hin : i = n
  · subst hin
    exact insEnd_any v gv i B A c xs y w hv hn h20 ho hB hy
  · obtain ⟨g, c', cur, hv', _, hg, hh, _⟩ := ho.block (by omega)
    rw [hn] at hv'
    rw [hv'] at ho hne ⊢
    have hne' : gv ≠ g := fun e => hne (by rw [e]; rfl)
    by_cases hroom : n + 1 ≤ c'
    · exact insShift_any g gv c' i n B xs y w hn (by omega) h20 hroom ho hne' hy
    · exact insGrow_any g gv c' i n B xs y w hn (by omega) h20 (by omega) ho hB hy
end Go.Proofs.Ytgiokjflfadeeaa
