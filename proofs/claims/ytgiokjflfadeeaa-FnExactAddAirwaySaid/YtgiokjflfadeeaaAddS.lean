/-
  AddAirway: the reference's contract.
-/
import Derived.Test.YtgiokjflfadeeaaMineRes
import Derived.Test.YtgiokjflfadeeaaBsearch
import Derived.Test.YtgiokjflfadeeaaInsA
import Derived.Test.YtgiokjflfadeeaaNum
import Derived.RowKit3
import Derived.ProofKit
import Derived.OpenShut
import Derived.Lib.SmallJoins
namespace Go.Proofs.Ytgiokjflfadeeaa
open Go.RowKit
set_option linter.unusedVariables false

section
variable {ops : Array Oper} {o : Oper} {a : Act} {K : Act → World → Prop} {Q : Exit → Act → World → Prop} {E : Prop}
theorem step_push_airs (hgd : o.guard = none) (s x : Operand)
    (ho : o.op = .call { callee := .builtin .append, args := #[s, x], argTypes := #[26, 26] })
    (W : World) (B : Nat) (v : Value) (xs zs : List AW) (hs : a.eval s = v) (hown : OwnA W B v xs) (b off m c : Nat) (hx : a.eval x = .slice (some ⟨b, off, none⟩) m c) (hm : zs.length = m) (hz : ∀ k, k < zs.length → AirAt W b (off + k * 7) (atA zs k))
    (h40 : xs.length + zs.length < 1099511627776) (hB : B ≤ W.heap.size)
    (h : ∀ v' w', OwnA w' B v' (xs ++ zs) → W.grownBy w' v.ownBlock → (v'.ownBlock = v.ownBlock ∨ v'.ownBlock = some W.heap.size) → K (a.put o.dst v') w') :
    if Region.wanted o (yielded ops a.tmps) = true then Oper.wp Try.prog o a W K Q else E := by
  have hw : Region.wanted o (yielded ops a.tmps) = true := by simp [Region.wanted, hgd]
  rw [if_pos hw]
  obtain ⟨i, hi, hz0, hz1, hz2⟩ := info_parts info_a
  obtain ⟨v', w', hrun, h2, h3, h4, h5⟩ := run_append_own_at (P := Try.prog) W B 26 o.type 51 i (.agg #[.string ⟨#[]⟩, .int .i64 0, .int .i64 0, .int .i64 0, .int .i64 0, .int .i64 0, .int .i64 0]) 7 64 Try.underlying26 hi hz0 hz1 hz2 rfl (by decide) v xs.length (valsA xs) hown
    ⟨b, off, none⟩ m c (valsA zs) (by rw [valsA_len, hm]) (by
      intro j u hj
      rw [Addr.add_lit]
      exact airs_cells hz j u hj) (by intro u hu; exact valsA_mem hu) (by unfold maxLen; omega) (by omega) hB
  unfold Oper.wp
  simp only [execOp, ho, resolve, invoke, builtin, Sem.run_bind, Sem.run_pure, Result.andThen_ok, List.map_toArray, List.map_cons, List.map_nil, hs, hx, hrun]
  refine h v' w' ?_ h3 h5
  unfold OwnA
  rw [valsA_app, List.length_append, hm]
  exact h2
end
theorem MC.pair {w : World} {g : Nat} {j : Int} {v : Value} (h : MC w g j v) : w.cell? ⟨g, 0, none⟩ = some (.int .i64 j) ∧ w.cell? ⟨g, 1, none⟩ = some v := ⟨h.c0, h.c1⟩
theorem MC.put {w : World} {g h o : Nat} {j : Int} {v x : Value} (hm : MC w g j v) (hne : g ≠ h) : MC (w.setCell ⟨h, o, none⟩ x) g j v := by
  constructor
  · rw [World.cell?_setCell_other]
    · exact hm.c0
    · intro e; injection e with e; exact hne e.symm
  · rw [World.cell?_setCell_other]
    · exact hm.c1
    · intro e; injection e with e; exact hne e.symm
theorem ob_eq {x o n c g : Nat} (h : (Value.slice (some (⟨x, o, none⟩ : Addr)) n c).ownBlock = some g) : x = g := by
  injection h
theorem ad_zero {j : Int} {xs : List AW} {y : AW} {cd : Int} {w w' : World} (h : addC j xs y = cd) (hz : cd ≠ 0) (hb : Below w.heap.size w w') : MinePost (addJ j xs y) (addX j xs y) (addC j xs y) w (.returned (.tuple #[.agg #[.int .i64 0, .slice none 0 0], .int .i64 cd])) w' :=
  mine_ret (add_code h hz) (OwnA.nil _ _) hb
set_option maxHeartbeats 4000000 in
set_option maxRecDepth 100000 in
theorem adS_any (j : Int) (b off c : Nat) (xs : List AW) (n : Nat) (y : AW) (w : World) (hn : xs.length = n) (h20 : n ≤ 1048576) (hs : ∀ k, k < n → (atA xs k).a.size ≤ maxLen) (hy : y.a.size ≤ maxLen) (hc : n ≤ c) (hbw : b < w.heap.size) (hx : ∀ k, k < xs.length → AirAt w b (off + k * 7) (atA xs k)) :
    Calls Try.prog 25 #[.agg #[.int .i64 j, .slice (some ⟨b, off, none⟩) n c], y.val] w (MinePost (addJ j xs y) (addX j xs y) (addC j xs y) w) := by
  unfold AW.val
  obtain ⟨W0, hW0⟩ : ∃ W0, W0 = ((w.alloc (.cells #[.int .i64 j, .slice (some ⟨b, off, none⟩) n c] 28)).alloc (.cells #[.string y.a, .int .i64 y.u, .int .i64 y.v, .int .i64 y.l, .int .i64 y.s, .int .i64 y.f, .int .i64 y.k] 51)).alloc (.cells #[.int .i64 0, .slice none 0 0] 28) := ⟨_, rfl⟩
  have b0 : Below w.heap.size w W0 := by rw [hW0]; exact by ((repeat (first | with_reducible exact Below.refl _ _ | with_reducible apply below_drewN | with_reducible apply Below.drew | (with_reducible refine Below.alloc ?_ ?_ _) | (with_reducible refine Below.setCell ?_ ?_ _) | (with_reducible refine Below.trans ?_ (hb4.mono ?_)) | (with_reducible refine Below.trans ?_ (hb3.mono ?_)) | (with_reducible refine Below.trans ?_ (hb2.mono ?_)))); all_goals (first | (simp <;> omega) | (have h2s := hb2.size; (try simp at h2s); (try simp); omega) | (have h2s := hb2.size; have h3s := hb3.size; (try simp at h2s); (try simp at h3s); (try simp); omega) | (have h2s := hb2.size; have h3s := hb3.size; have h4s := hb4.size; (try simp at h2s); (try simp at h3s); (try simp at h4s); (try simp); omega)))
  have RS0 := Lib.hid (show ResM W0 (w.heap.size + 2) by rw [hW0]; have h := resM_new ((w.alloc (.cells #[.int .i64 j, .slice (some ⟨b, off, none⟩) n c] 28)).alloc (.cells #[.string y.a, .int .i64 y.u, .int .i64 y.v, .int .i64 y.l, .int .i64 y.s, .int .i64 y.f, .int .i64 y.k] 51)) 28; simpa using h)
  have M0 := Lib.hid (show MC W0 w.heap.size j (.slice (some ⟨b, off, none⟩) n c) by rw [hW0]; exact ⟨by simp [go_sem], by simp [go_sem]⟩)
  have Y0 := Lib.hid (show AirAt W0 (w.heap.size + 1) 0 y by rw [hW0]; constructor <;> simp [go_sem])
  have HXA := Lib.hid (show ∀ k, k < xs.length → AirAt W0 b (off + k * 7) (atA xs k) from fun k hk => (hx k hk).below b0 hbw)
  have hg : w.heap.size + 2 < W0.heap.size := by rw [hW0]; simp
  have hbW : b < W0.heap.size := by omega
  have HX := Lib.hid (show Airs W0 (some ⟨b, off, none⟩) xs from .inr ⟨b, off, rfl, hbW, HXA.out⟩)
  have HN := Lib.hid hn
  have HS := Lib.hid hs
  have HB0 := Lib.hid b0
  clear hx hn hs b0
  go_enter Try.func25, Try.ntmps25
  go_wp2_with fail
  rw [← hW0]
  clear hW0
  refine (l04Ok_any w.heap.size j _ c xs n _ HN.out h20 HS.out HX.out M0.out.c0 M0.out.c1).mono ?_
  cases hmb : mineB j xs with
  | false =>
    rintro e w1 ⟨rfl, q, rfl⟩
    have hb : Below W0.heap.size W0 (W0.drewN q) := below_drewN (Below.refl _ _) q
    obtain ⟨⟨x0, r0⟩, ⟨x1, r1⟩, hfz⟩ := RS0.out.next hb
    have HB := Lib.hid (stepB HB0.out hb)
    have HRR := Lib.hid (addC_1 (y := y) (.inl hmb))
    clear hb hmb
    generalize W0.drewN q = w1 at r0 r1 hfz HB ⊢
    go_wp2_with fail
    obtain ⟨g0, g1⟩ := mcells2 r0 r1 (v0 := .int .i64 0) (v1 := .slice none 0 0)
    simp [bodyPost, results, Try.results25, go_sem, g0, g1]
    exact ad_zero HRR.out (by omega) (set2_below HB.out (by omega))
  | true =>
    rintro e w1 ⟨rfl, q, rfl⟩
    have hb : Below W0.heap.size W0 (W0.drewN q) := below_drewN (Below.refl _ _) q
    have RS1 := Lib.hid (RS0.out.next hb)
    have HB := Lib.hid (stepB HB0.out hb)
    have M1 := Lib.hid (M0.out.next hb)
    have Y1 := Lib.hid (Y0.out.below hb (by omega))
    have HX1 := Lib.hid (HX.out.next hb)
    have HXA1 := Lib.hid (show ∀ k, k < xs.length → AirAt (W0.drewN q) b (off + k * 7) (atA xs k) from fun k hk => (HXA.out k hk).below hb hbW)
    have hsz := hb.size
    have HMB := Lib.hid hmb
    clear hb hmb
    generalize W0.drewN q = w1 at RS1 HB M1 Y1 HX1 HXA1 hsz ⊢
    go_wp2_with fail
    refine (l03OkAW_any (w.heap.size + 1) 0 y _ hy Y1.out).mono ?_
    cases hoy : y.okB with
    | false =>
      rintro e w2 ⟨rfl, q2, rfl⟩
      have hb : Below w1.heap.size w1 (w1.drewN q2) := below_drewN (Below.refl _ _) q2
      obtain ⟨⟨x0, r0⟩, ⟨x1, r1⟩, hfz⟩ := RS1.out.next hb
      have HB2 := Lib.hid (stepB HB.out hb)
      have HRR := Lib.hid (addC_1 (j := j) (xs := xs) (y := y) (.inr hoy))
      clear hb hoy
      generalize w1.drewN q2 = w2 at r0 r1 hfz HB2 ⊢
      go_wp2_with fail
      obtain ⟨g0, g1⟩ := mcells2 r0 r1 (v0 := .int .i64 0) (v1 := .slice none 0 0)
      simp [bodyPost, results, Try.results25, go_sem, g0, g1]
      exact ad_zero HRR.out (by omega) (set2_below HB2.out (by omega))
    | true =>
      rintro e w2 ⟨rfl, q2, rfl⟩
      have hb : Below w1.heap.size w1 (w1.drewN q2) := below_drewN (Below.refl _ _) q2
      have RS2 := Lib.hid (RS1.out.next hb)
      have HB2 := Lib.hid (stepB HB.out hb)
      have M2 := Lib.hid (M1.out.next hb)
      have Y2 := Lib.hid (Y1.out.below hb (by omega))
      have HX2 := Lib.hid (HX1.out.next hb)
      have HXA2 := Lib.hid (show ∀ k, k < xs.length → AirAt (w1.drewN q2) b (off + k * 7) (atA xs k) from fun k hk => (HXA1.out k hk).below hb (by omega))
      have hsz2 := hb.size
      have HOY := Lib.hid hoy
      clear hb hoy
      generalize w1.drewN q2 = w2 at RS2 HB2 M2 Y2 HX2 HXA2 hsz2 ⊢
      obtain ⟨y0, y1, y2, y3, y4, y5, y6⟩ := airZero Y2.out
      go_wp2_with fail
      refine (l04Find_any w.heap.size j _ c xs n y.a _ HN.out h20 HX2.out M2.out.c1).mono ?_; rintro e w3 ⟨rfl, rfl⟩
      by_cases hf : 0 ≤ findF xs y.a
      · obtain ⟨⟨x0, r0⟩, ⟨x1, r1⟩, hfz⟩ := RS2.out
        have HRR := Lib.hid (addC_4 HMB.out HOY.out hf)
        go_wp2_with fail
        obtain ⟨g0, g1⟩ := mcells2 r0 r1 (v0 := .int .i64 0) (v1 := .slice none 0 0)
        simp [bodyPost, results, Try.results25, go_sem, g0, g1]
        exact ad_zero HRR.out (by omega) (set2_below HB2.out (by omega))
      · have HF := Lib.hid (show findF xs y.a < 0 by omega)
        have hf' : ¬ findF xs y.a ≥ 0 := hf
        have hj16 : 1 ≤ j ∧ j ≤ 16 := by
          have h := HMB.out
          unfold mineB at h
          simp only [Bool.and_eq_true] at h
          exact inB_true.1 h.1
        cases he : endsB j y with
        | false =>
          have HRR := Lib.hid (addC_2 HMB.out HOY.out (by have := HF.out; omega) he)
          obtain ⟨⟨x0, r0⟩, ⟨x1, r1⟩, hfz⟩ := RS2.out
          cases hu : inB y.u 0 (j - 1) with
          | false =>
            clear he hf
            go_wp2_with fail
            refine (l04Junction_is _ j _ _ M2.out.c0 hj16 false hu).mono ?_; rintro e w3 ⟨rfl, rfl⟩
            go_wp2_with fail
            obtain ⟨g0, g1⟩ := mcells2 r0 r1 (v0 := .int .i64 0) (v1 := .slice none 0 0)
            simp [bodyPost, results, Try.results25, go_sem, g0, g1]
            exact ad_zero HRR.out (by omega) (set2_below HB2.out (by omega))
          | true =>
            have hv : inB y.v 0 (j - 1) = false := by unfold endsB at he; rw [hu] at he; simpa using he
            clear he hf
            go_wp2_with fail
            refine (l04Junction_is _ j _ _ M2.out.c0 hj16 true hu).mono ?_; rintro e w3 ⟨rfl, rfl⟩
            go_wp2_with fail
            refine (l04Junction_is _ j _ _ M2.out.c0 hj16 false hv).mono ?_; rintro e w3 ⟨rfl, rfl⟩
            go_wp2_with fail
            obtain ⟨g0, g1⟩ := mcells2 r0 r1 (v0 := .int .i64 0) (v1 := .slice none 0 0)
            simp [bodyPost, results, Try.results25, go_sem, g0, g1]
            exact ad_zero HRR.out (by omega) (set2_below HB2.out (by omega))
        | true =>
          have huv : inB y.u 0 (j - 1) = true ∧ inB y.v 0 (j - 1) = true := by unfold endsB at he; simpa using he
          have HE := Lib.hid he
          have HU := Lib.hid huv
          clear he hf huv
          go_wp2_with fail
          refine (l04Junction_is _ j _ _ M2.out.c0 hj16 true HU.out.1).mono ?_; rintro e w3 ⟨rfl, rfl⟩
          go_wp2_with fail
          refine (l04Junction_is _ j _ _ M2.out.c0 hj16 true HU.out.2).mono ?_; rintro e w3 ⟨rfl, rfl⟩
          have m1 := M2.out.c1
          by_cases hl : n = 24
          · have HRR := Lib.hid (addC_5 HMB.out HOY.out (by have := HF.out; omega) HE.out (by rw [HN.out]; exact hl))
            have hli : (n : Int) = 24 := by omega
            obtain ⟨⟨x0, r0⟩, ⟨x1, r1⟩, hfz⟩ := RS2.out
            go_wp2_with fail
            obtain ⟨g0, g1⟩ := mcells2 r0 r1 (v0 := .int .i64 0) (v1 := .slice none 0 0)
            simp [bodyPost, results, Try.results25, go_sem, g0, g1]
            exact ad_zero HRR.out (by omega) (set2_below HB2.out (by omega))
          · have HRR := Lib.hid (add_yes (addC_0 HMB.out HOY.out (by have := HF.out; omega) HE.out (by rw [HN.out]; exact hl)))
            have hli : ¬ (n : Int) = 24 := by omega
            clear y0 y1 y2 y3 y4 y5 y6
            go_wp2_with fail
            clear m1
            go_loopw [6] (fun t wr => ∃ k : Nat, k ≤ n ∧ t = .int .i64 (k : Int) ∧ (∀ i, i < k → ltS (atA xs i).a y.a = true) ∧ Below w2.heap.size w2 wr) (fun t _ => n - (intOf t).toNat)
            case atStart => exact ⟨0, Nat.zero_le _, rfl, fun i hi => absurd hi (by omega), Below.refl _ _⟩
            case round =>
              obtain ⟨k, hk, rfl, ha, hb⟩ := hrel
              have HA := Lib.hid ha
              have HB3 := Lib.hid hb
              have m1 := (M2.out.next hb).c1
              obtain ⟨y0, _, _, _, _, _, _⟩ := airZero (Y2.out.below hb (by omega))
              clear ha hb
              by_cases hlt : k < n ∧ ltS (atA xs k).a y.a = true
              · obtain ⟨hkn, hlk⟩ := hlt
                have hki : (k : Int) < n := by omega
                have c0 := ((HXA2.out k (by rw [HN.out]; exact hkn)).below HB3.out (by omega)).c0
                have hlk' : Op.bytesLess (atA xs k).a.toList y.a.toList = true := hlk
                have HLK := Lib.hid hlk
                clear hlk
                go_wp2_with fail
                go_quiet (fail)
                go_wp2_with fail
                go_roundw
                case rel => exact ⟨k + 1, by omega, by go_num, fun i hi => by
                  by_cases e : i = k
                  · rw [e]; exact HLK.out
                  · exact HA.out i (by omega), below_drewN HB3.out _⟩
                case measure => simp [intOf]; omega
              · have hpos : k = posL y.a xs := pos_is ⟨by rw [HN.out]; exact hk, HA.out, fun h => by
                  cases hq : ltS (atA xs k).a y.a with
                  | false => rfl
                  | true => exact absurd ⟨by rw [← HN.out]; exact h, hq⟩ hlt⟩
                have HP := Lib.hid hpos
                clear hpos
                have hxk : xs.length = n := HN.out
                have HTL := Lib.hid (show (xs.take k).length = k by rw [List.length_take]; omega)
                have HTL2 := Lib.hid (show (xs.take k ++ [y]).length = k + 1 by rw [List.length_append, HTL.out]; rfl)
                have HTL3 := Lib.hid (show (xs.take k ++ [y] ++ xs.drop k).length = n + 1 by rw [List.length_append, HTL2.out, List.length_drop]; omega)
                have HT := Lib.hid (show ∀ W : World, Below w2.heap.size w2 W → ∀ i, i < (xs.take k).length → AirAt W b (off + i * 7) (atA (xs.take k) i) from fun W hW i hi => by
                  have hi' : i < k := by rw [HTL.out] at hi; exact hi
                  have e : atA (xs.take k) i = atA xs i := by rw [atA_is _ i hi, atA_is xs i (by omega), List.getElem_take]
                  rw [e]
                  exact (HXA2.out i (by omega)).below hW (by omega))
                obtain ⟨b2, off2, hA2, hdc⟩ : ∃ b2 off2, (if c = k then (some (⟨b, off, none⟩ : Addr)) else some ⟨b, off + k * 7, none⟩) = some ⟨b2, off2, none⟩ ∧ (∀ W : World, Below w2.heap.size w2 W → ∀ i, i < (xs.drop k).length → AirAt W b2 (off2 + i * 7) (atA (xs.drop k) i)) := by
                  by_cases h : c = k
                  · exact ⟨b, off, by rw [if_pos h], fun W hW i hi => absurd hi (by rw [List.length_drop]; omega)⟩
                  · refine ⟨b, off + k * 7, by rw [if_neg h], fun W hW i hi => ?_⟩
                    have hi' : k + i < xs.length := by rw [List.length_drop] at hi; omega
                    have e : atA (xs.drop k) i = atA xs (k + i) := by rw [atA_is _ i hi, atA_is xs (k + i) hi', List.getElem_drop]
                    rw [e, show off + k * 7 + i * 7 = off + (k + i) * 7 by omega]
                    exact (HXA2.out (k + i) hi').below hW (by omega)
                have HAD := Lib.hid hA2
                have HDC := Lib.hid hdc
                clear hdc
                have hkc : k ≤ c := by omega
                have hki2 : (k : Int) ≤ c := by omega
                have hki3 : (k : Int) ≤ n := by omega
                clear hA2 hxk
                have hbr := HB3.out.size
                have m1a : ∀ q, ((wr.drewN q).alloc (.cells #[] 51)).cell? ⟨w.heap.size, 1, none⟩ = some (.slice (some ⟨b, off, none⟩) n c) := fun q => (((below_drewN (Below.refl wr.heap.size wr) q).alloc (Nat.le_refl _) _).cell (by simp; omega)).trans m1
                by_cases hkn : k < n
                · have hki : (k : Int) < n := by omega
                  have hlk : ltS (atA xs k).a y.a = false := by
                    cases hq : ltS (atA xs k).a y.a with
                    | false => rfl
                    | true => exact absurd ⟨hkn, hq⟩ hlt
                  have hlk' : Op.bytesLess (atA xs k).a.toList y.a.toList = false := hlk
                  have c0 := ((HXA2.out k (by rw [HN.out]; exact hkn)).below HB3.out (by omega)).c0
                  clear hlk hlt
                  go_wp2_with fail
                  go_quiet (fail)
                  go_wp2_with (first
                    | (at_builtin; refine push_airs rfl (.tmp 54) (.tmp 58) rfl _ w2.heap.size (.slice (some ⟨wr.heap.size, 0, none⟩) 0 0) [] (xs.take k) rfl (OwnA.lit0 _ w2.heap.size hbr) b off k c rfl HTL.out (HT.out _ ((below_drewN HB3.out _).alloc hbr _)) (by rw [HTL.out]; simp; omega) (Nat.le_trans hbr (by simp)) ?_; intro v' w4 ho4 hg4 hl4 hn4; rw [List.nil_append] at ho4; obtain ⟨A6, c6, ev6, _⟩ := ho4.reads; rw [HTL.out] at ev6; subst ev6; have HB4 := Lib.hid (below_grown ((below_drewN HB3.out _).alloc hbr _) hg4 (fun g e => by have := ob_eq e; omega) (Nat.le_trans hbr (by simp))); have HO4 := Lib.hid ho4; obtain ⟨y0', y1', y2', y3', y4', y5', y6'⟩ := airZero (Y2.out.below HB4.out (by omega)); have hs24 := HB4.out.size; clear ho4 hg4 hl4 hn4)
                    | (at_builtin; refine push_air rfl (.tmp 60) (.tmp 62) rfl w4 w2.heap.size (.slice A6 k c6) (xs.take k) y rfl HO4.out w4.heap.size rfl rfl (by rw [HTL.out]; omega) hs24 ?_; intro v' w5 ho5 hg5 hl5; obtain ⟨A7, c7, ev7, _⟩ := ho5.reads; rw [HTL2.out] at ev7; subst ev7; have HB5 := Lib.hid (below_grown (HB4.out.alloc hs24 _) hg5 (fun g e => (HO4.out.lt e).1) (Nat.le_trans hs24 (by simp))); have HO5 := Lib.hid ho5; clear ho5 hg5 hl5))
                  have M5 := Lib.hid (M2.out.next HB5.out)
                  have RS5 := Lib.hid (RS2.out.next HB5.out)
                  have hs25 := HB5.out.size
                  have hA2 := HAD.out
                  have hdl : (xs.drop k).length = n - k := by rw [List.length_drop, HN.out]
                  have HDL := Lib.hid hdl
                  clear hdl y0' y1' y2' y3' y4' y5' y6'
                  go_region_held3 (fun w' => w'.cell? ⟨w.heap.size, 0, none⟩ = some (.int .i64 j) ∧ w'.cell? ⟨w.heap.size, 1, none⟩ = some (.slice (some ⟨b, off, none⟩) n c)) (first | exact M5.out.pair | exact M6.out.pair | exact (M6.out.put (by omega)).pair | exact ((M6.out.put (by omega)).put (by omega)).pair)
                    ((refine step_push_airs rfl (.tmp 66) (.tmp 70) rfl w5.drew w2.heap.size (.slice A7 (k + 1) c7) (xs.take k ++ [y]) (xs.drop k) (by simp [Act.eval]) HO5.out b2 off2 (n - k) (c - k) (by simp [Act.eval]) HDL.out (HDC.out _ HB5.out.drew) (by rw [HTL2.out, HDL.out]; omega) hs25 ?_; intro v' w6 ho6 hg6 hl6; obtain ⟨A8, c8, ev8, _⟩ := ho6.reads; rw [HTL3.out] at ev8; subst ev8; have HB6 := Lib.hid (below_grown HB5.out.drew hg6 (fun g e => (HO5.out.lt e).1) hs25); have HO6 := Lib.hid ho6; have M6 := Lib.hid (M2.out.next HB6.out); obtain ⟨⟨x0, r0⟩, ⟨x1, r1⟩, hfz⟩ := RS2.out.next HB6.out; clear ho6 hg6 hl6))
                  go_wp2_with fail
                  obtain ⟨g0, g1⟩ := mcells2 r0 r1 (v0 := .int .i64 j) (v1 := .slice A8 (n + 1) c8)
                  simp [bodyPost, results, Try.results25, go_sem, g0, g1]
                  refine mine_ret (by rw [HRR.out.1, HRR.out.2.1, HRR.out.2.2]; exact ⟨rfl, by rw [← HP.out]; unfold insA; rw [List.append_assoc], rfl⟩) (((HO6.out.set (by omega)).set (by omega)).mono (by omega)) (set2_below (stepB HB2.out HB6.out) (by omega))
                · have hki : ¬ (k : Int) < n := by omega
                  clear hlt
                  go_wp2_with fail
                  go_quiet (fail)
                  go_wp2_with (first
                    | (at_builtin; refine push_airs rfl (.tmp 54) (.tmp 58) rfl _ w2.heap.size (.slice (some ⟨wr.heap.size, 0, none⟩) 0 0) [] (xs.take k) rfl (OwnA.lit0 _ w2.heap.size hbr) b off k c rfl HTL.out (HT.out _ ((below_drewN HB3.out _).alloc hbr _)) (by rw [HTL.out]; simp; omega) (Nat.le_trans hbr (by simp)) ?_; intro v' w4 ho4 hg4 hl4 hn4; rw [List.nil_append] at ho4; obtain ⟨A6, c6, ev6, _⟩ := ho4.reads; rw [HTL.out] at ev6; subst ev6; have HB4 := Lib.hid (below_grown ((below_drewN HB3.out _).alloc hbr _) hg4 (fun g e => by have := ob_eq e; omega) (Nat.le_trans hbr (by simp))); have HO4 := Lib.hid ho4; obtain ⟨y0', y1', y2', y3', y4', y5', y6'⟩ := airZero (Y2.out.below HB4.out (by omega)); have hs24 := HB4.out.size; clear ho4 hg4 hl4 hn4)
                    | (at_builtin; refine push_air rfl (.tmp 60) (.tmp 62) rfl w4 w2.heap.size (.slice A6 k c6) (xs.take k) y rfl HO4.out w4.heap.size rfl rfl (by rw [HTL.out]; omega) hs24 ?_; intro v' w5 ho5 hg5 hl5; obtain ⟨A7, c7, ev7, _⟩ := ho5.reads; rw [HTL2.out] at ev7; subst ev7; have HB5 := Lib.hid (below_grown (HB4.out.alloc hs24 _) hg5 (fun g e => (HO4.out.lt e).1) (Nat.le_trans hs24 (by simp))); have HO5 := Lib.hid ho5; clear ho5 hg5 hl5))
                  have M5 := Lib.hid (M2.out.next HB5.out)
                  have RS5 := Lib.hid (RS2.out.next HB5.out)
                  have hs25 := HB5.out.size
                  have hA2 := HAD.out
                  have hdl : (xs.drop k).length = n - k := by rw [List.length_drop, HN.out]
                  have HDL := Lib.hid hdl
                  clear hdl y0' y1' y2' y3' y4' y5' y6'
                  go_region_held3 (fun w' => w'.cell? ⟨w.heap.size, 0, none⟩ = some (.int .i64 j) ∧ w'.cell? ⟨w.heap.size, 1, none⟩ = some (.slice (some ⟨b, off, none⟩) n c)) (first | exact M5.out.pair | exact M6.out.pair | exact (M6.out.put (by omega)).pair | exact ((M6.out.put (by omega)).put (by omega)).pair)
                    ((refine step_push_airs rfl (.tmp 66) (.tmp 70) rfl w5.drew w2.heap.size (.slice A7 (k + 1) c7) (xs.take k ++ [y]) (xs.drop k) (by simp [Act.eval]) HO5.out b2 off2 (n - k) (c - k) (by simp [Act.eval]) HDL.out (HDC.out _ HB5.out.drew) (by rw [HTL2.out, HDL.out]; omega) hs25 ?_; intro v' w6 ho6 hg6 hl6; obtain ⟨A8, c8, ev8, _⟩ := ho6.reads; rw [HTL3.out] at ev8; subst ev8; have HB6 := Lib.hid (below_grown HB5.out.drew hg6 (fun g e => (HO5.out.lt e).1) hs25); have HO6 := Lib.hid ho6; have M6 := Lib.hid (M2.out.next HB6.out); obtain ⟨⟨x0, r0⟩, ⟨x1, r1⟩, hfz⟩ := RS2.out.next HB6.out; clear ho6 hg6 hl6))
                  go_wp2_with fail
                  obtain ⟨g0, g1⟩ := mcells2 r0 r1 (v0 := .int .i64 j) (v1 := .slice A8 (n + 1) c8)
                  simp [bodyPost, results, Try.results25, go_sem, g0, g1]
                  refine mine_ret (by rw [HRR.out.1, HRR.out.2.1, HRR.out.2.2]; exact ⟨rfl, by rw [← HP.out]; unfold insA; rw [List.append_assoc], rfl⟩) (((HO6.out.set (by omega)).set (by omega)).mono (by omega)) (set2_below (stepB HB2.out HB6.out) (by omega))
end Go.Proofs.Ytgiokjflfadeeaa
