/-
  AddAirway: the program's contract.
-/
import Derived.Test.YtgiokjflfadeeaaAddS
import Derived.Test.YtgiokjflfadeeaaNum
import Derived.RowKit3
import Derived.ProofKit
import Derived.OpenShut
import Derived.Lib.SmallJoins
namespace Go.Proofs.Ytgiokjflfadeeaa
open Go.RowKit
set_option linter.unusedVariables false

theorem a_next {w w1 : World} {y : AW} {j : Int} {v : Value} {g h : Nat} (hb : Below w.heap.size w w1) (hS : w.cell? ⟨g, 0, none⟩ = some (.int .i64 j) ∧ w.cell? ⟨g, 1, none⟩ = some v ∧ w.cell? ⟨h, 0, none⟩ = some (.string y.a) ∧ w.cell? ⟨h, 1, none⟩ = some (.int .i64 y.u) ∧ w.cell? ⟨h, 2, none⟩ = some (.int .i64 y.v) ∧ w.cell? ⟨h, 3, none⟩ = some (.int .i64 y.l) ∧ w.cell? ⟨h, 4, none⟩ = some (.int .i64 y.s) ∧ w.cell? ⟨h, 5, none⟩ = some (.int .i64 y.f) ∧ w.cell? ⟨h, 6, none⟩ = some (.int .i64 y.k)) : w1.cell? ⟨g, 0, none⟩ = some (.int .i64 j) ∧ w1.cell? ⟨g, 1, none⟩ = some v ∧ w1.cell? ⟨h, 0, none⟩ = some (.string y.a) ∧ w1.cell? ⟨h, 1, none⟩ = some (.int .i64 y.u) ∧ w1.cell? ⟨h, 2, none⟩ = some (.int .i64 y.v) ∧ w1.cell? ⟨h, 3, none⟩ = some (.int .i64 y.l) ∧ w1.cell? ⟨h, 4, none⟩ = some (.int .i64 y.s) ∧ w1.cell? ⟨h, 5, none⟩ = some (.int .i64 y.f) ∧ w1.cell? ⟨h, 6, none⟩ = some (.int .i64 y.k) := by
  obtain ⟨m0, m1, x0, x1, x2, x3, x4, x5, x6⟩ := hS
  have f : ∀ {a : Addr} {v : Value}, w.cell? a = some v → w1.cell? a = some v := fun {a v} h => (hb.cell (World.block_lt_of_cell? w a h)).trans h
  exact ⟨f m0, f m1, f x0, f x1, f x2, f x3, f x4, f x5, f x6⟩
theorem a_set {w : World} {y : AW} {j : Int} {v x : Value} {g h k o : Nat} (h1 : k ≠ g) (h2 : k ≠ h) (hS : w.cell? ⟨g, 0, none⟩ = some (.int .i64 j) ∧ w.cell? ⟨g, 1, none⟩ = some v ∧ w.cell? ⟨h, 0, none⟩ = some (.string y.a) ∧ w.cell? ⟨h, 1, none⟩ = some (.int .i64 y.u) ∧ w.cell? ⟨h, 2, none⟩ = some (.int .i64 y.v) ∧ w.cell? ⟨h, 3, none⟩ = some (.int .i64 y.l) ∧ w.cell? ⟨h, 4, none⟩ = some (.int .i64 y.s) ∧ w.cell? ⟨h, 5, none⟩ = some (.int .i64 y.f) ∧ w.cell? ⟨h, 6, none⟩ = some (.int .i64 y.k)) :
    (w.setCell ⟨k, o, none⟩ x).cell? ⟨g, 0, none⟩ = some (.int .i64 j) ∧ (w.setCell ⟨k, o, none⟩ x).cell? ⟨g, 1, none⟩ = some v ∧ (w.setCell ⟨k, o, none⟩ x).cell? ⟨h, 0, none⟩ = some (.string y.a) ∧ (w.setCell ⟨k, o, none⟩ x).cell? ⟨h, 1, none⟩ = some (.int .i64 y.u) ∧ (w.setCell ⟨k, o, none⟩ x).cell? ⟨h, 2, none⟩ = some (.int .i64 y.v) ∧ (w.setCell ⟨k, o, none⟩ x).cell? ⟨h, 3, none⟩ = some (.int .i64 y.l) ∧ (w.setCell ⟨k, o, none⟩ x).cell? ⟨h, 4, none⟩ = some (.int .i64 y.s) ∧ (w.setCell ⟨k, o, none⟩ x).cell? ⟨h, 5, none⟩ = some (.int .i64 y.f) ∧ (w.setCell ⟨k, o, none⟩ x).cell? ⟨h, 6, none⟩ = some (.int .i64 y.k) := by
  obtain ⟨m0, m1, x0, x1, x2, x3, x4, x5, x6⟩ := hS
  have fg : ∀ {q : Nat} {u : Value}, w.cell? ⟨g, q, none⟩ = some u → (w.setCell ⟨k, o, none⟩ x).cell? ⟨g, q, none⟩ = some u := fun {q u} e => by
    rw [World.cell?_setCell_other]
    · exact e
    · intro e2; injection e2 with e2; exact h1 e2
  have fh : ∀ {q : Nat} {u : Value}, w.cell? ⟨h, q, none⟩ = some u → (w.setCell ⟨k, o, none⟩ x).cell? ⟨h, q, none⟩ = some u := fun {q u} e => by
    rw [World.cell?_setCell_other]
    · exact e
    · intro e2; injection e2 with e2; exact h2 e2
  exact ⟨fg m0, fg m1, fh x0, fh x1, fh x2, fh x3, fh x4, fh x5, fh x6⟩
set_option maxHeartbeats 4000000 in
set_option maxRecDepth 100000 in
theorem adP_any (j : Int) (b off c : Nat) (xs : List AW) (n : Nat) (y : AW) (w : World) (hn : xs.length = n) (h20 : n ≤ 1048576) (hs : ∀ k, k < n → (atA xs k).a.size ≤ maxLen) (hy : y.a.size ≤ maxLen) (hc : n ≤ c) (hbw : b < w.heap.size) (hx : ∀ k, k < xs.length → AirAt w b (off + k * 7) (atA xs k)) :
    Calls Try.prog 27 #[.agg #[.int .i64 j, .slice (some ⟨b, off, none⟩) n c], y.val] w (MinePost (addJ j xs y) (addX j xs y) (addC j xs y) w) := by
  have hyv : y.val = .agg #[.string y.a, .int .i64 y.u, .int .i64 y.v, .int .i64 y.l, .int .i64 y.s, .int .i64 y.f, .int .i64 y.k] := rfl
  rw [hyv]
  obtain ⟨W0, hW0⟩ : ∃ W0, W0 = ((w.alloc (.cells #[.int .i64 j, .slice (some ⟨b, off, none⟩) n c] 28)).alloc (.cells #[.string y.a, .int .i64 y.u, .int .i64 y.v, .int .i64 y.l, .int .i64 y.s, .int .i64 y.f, .int .i64 y.k] 51)).alloc (.cells #[.int .i64 0, .slice none 0 0] 28) := ⟨_, rfl⟩
  have b0 : Below w.heap.size w W0 := by rw [hW0]; exact by ((repeat (first | with_reducible exact Below.refl _ _ | with_reducible apply below_drewN | with_reducible apply Below.drew | (with_reducible refine Below.alloc ?_ ?_ _) | (with_reducible refine Below.setCell ?_ ?_ _) | (with_reducible refine Below.trans ?_ (hb4.mono ?_)) | (with_reducible refine Below.trans ?_ (hb3.mono ?_)) | (with_reducible refine Below.trans ?_ (hb2.mono ?_)))); all_goals (first | (simp <;> omega) | (have h2s := hb2.size; (try simp at h2s); (try simp); omega) | (have h2s := hb2.size; have h3s := hb3.size; (try simp at h2s); (try simp at h3s); (try simp); omega) | (have h2s := hb2.size; have h3s := hb3.size; have h4s := hb4.size; (try simp at h2s); (try simp at h3s); (try simp at h4s); (try simp); omega)))
  have RS0 := Lib.hid (show ResM W0 (w.heap.size + 2) by rw [hW0]; have h := resM_new ((w.alloc (.cells #[.int .i64 j, .slice (some ⟨b, off, none⟩) n c] 28)).alloc (.cells #[.string y.a, .int .i64 y.u, .int .i64 y.v, .int .i64 y.l, .int .i64 y.s, .int .i64 y.f, .int .i64 y.k] 51)) 28; simpa using h)
  have M0 := Lib.hid (show MC W0 w.heap.size j (.slice (some ⟨b, off, none⟩) n c) by rw [hW0]; exact ⟨by simp [go_sem], by simp [go_sem]⟩)
  have Y0 := Lib.hid (show AirAt W0 (w.heap.size + 1) 0 y by rw [hW0]; constructor <;> simp [go_sem])
  have HXA := Lib.hid (show ∀ k, k < xs.length → AirAt W0 b (off + k * 7) (atA xs k) from fun k hk => (hx k hk).below b0 hbw)
  have hg : w.heap.size + 2 < W0.heap.size := by rw [hW0]; simp
  have hbW : b < W0.heap.size := by omega
  have HX := Lib.hid (show Airs W0 (some ⟨b, off, none⟩) xs from .inr ⟨b, off, rfl, hbW, HXA.out⟩)
  have HN := Lib.hid hn
  have HS := Lib.hid hs
  have HB0 := Lib.hid b0
  clear hx hn hs b0 hyv
  go_enter Try.func27, Try.ntmps27
  go_wp2_with fail
  rw [← hW0]
  clear hW0
  refine (validMineP_any j _ c xs n _ HN.out h20 HS.out HX.out).mono ?_
  cases hmb : mineB j xs with
  | false =>
    rintro e w1 ⟨rfl, hb⟩
    obtain ⟨⟨x0, r0⟩, ⟨x1, r1⟩, hfz⟩ := RS0.out.next hb
    have HB := Lib.hid (stepB HB0.out hb)
    have HRR := Lib.hid (addC_1 (y := y) (.inl hmb))
    clear hb hmb
    go_wp2_with fail
    obtain ⟨g0, g1⟩ := mcells2 r0 r1 (v0 := .int .i64 0) (v1 := .slice none 0 0)
    simp [bodyPost, results, Try.results27, go_sem, g0, g1]
    exact ad_zero HRR.out (by omega) (set2_below HB.out (by omega))
  | true =>
    rintro e w1 ⟨rfl, hb⟩
    have RS1 := Lib.hid (RS0.out.next hb)
    have HB := Lib.hid (stepB HB0.out hb)
    have M1 := Lib.hid (M0.out.next hb)
    have Y1 := Lib.hid (Y0.out.below hb (by omega))
    have HX1 := Lib.hid (HX.out.next hb)
    have HXA1 := Lib.hid (show ∀ k, k < xs.length → AirAt w1 b (off + k * 7) (atA xs k) from fun k hk => (HXA.out k hk).below hb hbW)
    have hsz := hb.size
    have HMB := Lib.hid hmb
    clear hb hmb
    obtain ⟨y0, y1, y2, y3, y4, y5, y6⟩ := airZero Y1.out
    go_wp2_with fail
    refine (validAW_any y _ hy).mono ?_
    cases hoy : y.okB with
    | false =>
      rintro e w2 ⟨rfl, hb⟩
      obtain ⟨⟨x0, r0⟩, ⟨x1, r1⟩, hfz⟩ := RS1.out.next hb
      have HB2 := Lib.hid (stepB HB.out hb)
      have HRR := Lib.hid (addC_1 (j := j) (xs := xs) (y := y) (.inr hoy))
      clear hb hoy
      go_wp2_with fail
      obtain ⟨g0, g1⟩ := mcells2 r0 r1 (v0 := .int .i64 0) (v1 := .slice none 0 0)
      simp [bodyPost, results, Try.results27, go_sem, g0, g1]
      exact ad_zero HRR.out (by omega) (set2_below HB2.out (by omega))
    | true =>
      rintro e w2 ⟨rfl, hb⟩
      have RS2 := Lib.hid (RS1.out.next hb)
      have HB2 := Lib.hid (stepB HB.out hb)
      have M2 := Lib.hid (M1.out.next hb)
      have Y2 := Lib.hid (Y1.out.below hb (by omega))
      have HX2 := Lib.hid (HX1.out.next hb)
      have HXA2 := Lib.hid (show ∀ k, k < xs.length → AirAt w2 b (off + k * 7) (atA xs k) from fun k hk => (HXA1.out k hk).below hb (by omega))
      have hsz2 := hb.size
      have HOY := Lib.hid hoy
      clear hb hoy y0 y1 y2 y3 y4 y5 y6
      obtain ⟨y0, y1, y2, y3, y4, y5, y6⟩ := airZero Y2.out
      have m1 := M2.out.c1
      go_wp2_with fail
      refine (bsearch_any j _ c xs n y _ HN.out h20 HMB.out HX2.out).mono ?_
      clear y0 y1 y2 y3 y4 y5 y6 m1
      have HFP := Lib.hid (find_pos (s := y.a) HMB.out)
      cases hh : hasN xs y.a with
      | true =>
        rintro e w3 ⟨rfl, hb⟩
        have HRR := Lib.hid (addC_4 HMB.out HOY.out (HFP.out.2 (by unfold hasN at hh; simpa using hh)))
        obtain ⟨⟨x0, r0⟩, ⟨x1, r1⟩, hfz⟩ := RS2.out.next hb
        have HB3 := Lib.hid (stepB HB2.out hb)
        clear hb hh
        go_wp2_with fail
        obtain ⟨g0, g1⟩ := mcells2 r0 r1 (v0 := .int .i64 0) (v1 := .slice none 0 0)
        simp [bodyPost, results, Try.results27, go_sem, g0, g1]
        exact ad_zero HRR.out (by omega) (set2_below HB3.out (by omega))
      | false =>
        rintro e w3 ⟨rfl, hb⟩
        have HF := Lib.hid (show findF xs y.a < 0 by
          rcases Int.lt_or_le (findF xs y.a) 0 with h | h
          · exact h
          · have h2 := HFP.out.1 h
            unfold hasN at hh
            rw [decide_eq_true h2.1, h2.2] at hh
            cases hh)
        have RS3 := Lib.hid (RS2.out.next hb)
        have HB3 := Lib.hid (stepB HB2.out hb)
        have M3 := Lib.hid (M2.out.next hb)
        have Y3 := Lib.hid (Y2.out.below hb (by omega))
        have HXA3 := Lib.hid (show ∀ k, k < xs.length → AirAt w3 b (off + k * 7) (atA xs k) from fun k hk => (HXA2.out k hk).below hb (by omega))
        have hsz3 := hb.size
        clear hb hh
        have hj16 : 1 ≤ j ∧ j ≤ 16 := by
          have h := HMB.out
          unfold mineB at h
          simp only [Bool.and_eq_true] at h
          exact inB_true.1 h.1
        obtain ⟨y0, y1, y2, y3, y4, y5, y6⟩ := airZero Y3.out
        obtain ⟨m0, m1⟩ := M3.out.pair
        go_wp2_with fail
        refine (hasEnds_any j _ n c y _ hj16).mono ?_
        clear y0 y1 y2 y3 y4 y5 y6 m1 m0
        cases he : endsB j y with
        | false =>
          rintro e w4 ⟨rfl, hb⟩
          have HRR := Lib.hid (addC_2 HMB.out HOY.out (by have := HF.out; omega) he)
          obtain ⟨⟨x0, r0⟩, ⟨x1, r1⟩, hfz⟩ := RS3.out.next hb
          have HB4 := Lib.hid (stepB HB3.out hb)
          clear hb he
          go_wp2_with fail
          obtain ⟨g0, g1⟩ := mcells2 r0 r1 (v0 := .int .i64 0) (v1 := .slice none 0 0)
          simp [bodyPost, results, Try.results27, go_sem, g0, g1]
          exact ad_zero HRR.out (by omega) (set2_below HB4.out (by omega))
        | true =>
          rintro e w4 ⟨rfl, hb⟩
          have RS4 := Lib.hid (RS3.out.next hb)
          have HB4 := Lib.hid (stepB HB3.out hb)
          have M4 := Lib.hid (M3.out.next hb)
          have Y4 := Lib.hid (Y3.out.below hb (by omega))
          have HXA4 := Lib.hid (show ∀ k, k < xs.length → AirAt w4 b (off + k * 7) (atA xs k) from fun k hk => (HXA3.out k hk).below hb (by omega))
          have hsz4 := hb.size
          have HE := Lib.hid he
          clear hb he
          obtain ⟨m0, m1⟩ := M4.out.pair
          by_cases hl : n = 24
          · have HRR := Lib.hid (addC_5 HMB.out HOY.out (by have := HF.out; omega) HE.out (by rw [HN.out]; exact hl))
            have hli : (n : Int) = 24 := by omega
            obtain ⟨⟨x0, r0⟩, ⟨x1, r1⟩, hfz⟩ := RS4.out
            go_wp2_with fail
            obtain ⟨g0, g1⟩ := mcells2 r0 r1 (v0 := .int .i64 0) (v1 := .slice none 0 0)
            simp [bodyPost, results, Try.results27, go_sem, g0, g1]
            exact ad_zero HRR.out (by omega) (set2_below HB4.out (by omega))
          · have HRR := Lib.hid (add_yes (addC_0 HMB.out HOY.out (by have := HF.out; omega) HE.out (by rw [HN.out]; exact hl)))
            have hli : ¬ (n : Int) = 24 := by omega
            obtain ⟨y0, y1, y2, y3, y4, y5, y6⟩ := airZero Y4.out
            have HS4 := Lib.hid (show w4.cell? ⟨w.heap.size, 0, none⟩ = some (.int .i64 j) ∧ w4.cell? ⟨w.heap.size, 1, none⟩ = some (.slice (some ⟨b, off, none⟩) n c) ∧ w4.cell? ⟨w.heap.size + 1, 0, none⟩ = some (.string y.a) ∧ w4.cell? ⟨w.heap.size + 1, 1, none⟩ = some (.int .i64 y.u) ∧ w4.cell? ⟨w.heap.size + 1, 2, none⟩ = some (.int .i64 y.v) ∧ w4.cell? ⟨w.heap.size + 1, 3, none⟩ = some (.int .i64 y.l) ∧ w4.cell? ⟨w.heap.size + 1, 4, none⟩ = some (.int .i64 y.s) ∧ w4.cell? ⟨w.heap.size + 1, 5, none⟩ = some (.int .i64 y.f) ∧ w4.cell? ⟨w.heap.size + 1, 6, none⟩ = some (.int .i64 y.k) from ⟨m0, m1, y0, y1, y2, y3, y4, y5, y6⟩)
            go_wp2_with fail
            clear m0 m1 y0 y1 y2 y3 y4 y5 y6
            have hbw4 : b < w4.heap.size := by omega
            have HS4D := Lib.hid (a_next (Below.refl w4.heap.size w4).drew HS4.out)
            have HYA := Lib.hid (show ∀ W : World, (W.alloc (.cells #[.string y.a, .int .i64 y.u, .int .i64 y.v, .int .i64 y.l, .int .i64 y.s, .int .i64 y.f, .int .i64 y.k] 51)).heap[W.heap.size]? = some (.cells (fieldsA y).toArray 51 (0, 0)) from fun W => Array.getElem?_push_size)
            have HPL := Lib.hid (show posL y.a xs ≤ n by have := pos_le xs y.a; rw [HN.out] at this; exact this)
            go_region_held3 (fun w' => w'.cell? ⟨w.heap.size, 0, none⟩ = some (.int .i64 j) ∧ w'.cell? ⟨w.heap.size, 1, none⟩ = some (.slice (some ⟨b, off, none⟩) n c) ∧ w'.cell? ⟨w.heap.size + 1, 0, none⟩ = some (.string y.a) ∧ w'.cell? ⟨w.heap.size + 1, 1, none⟩ = some (.int .i64 y.u) ∧ w'.cell? ⟨w.heap.size + 1, 2, none⟩ = some (.int .i64 y.v) ∧ w'.cell? ⟨w.heap.size + 1, 3, none⟩ = some (.int .i64 y.l) ∧ w'.cell? ⟨w.heap.size + 1, 4, none⟩ = some (.int .i64 y.s) ∧ w'.cell? ⟨w.heap.size + 1, 5, none⟩ = some (.int .i64 y.f) ∧ w'.cell? ⟨w.heap.size + 1, 6, none⟩ = some (.int .i64 y.k)) (first | with_reducible exact HS4.out | with_reducible exact HS4D.out | with_reducible exact HS5.out | with_reducible exact HS6.out | with_reducible exact a_next (((Below.refl _ _).alloc (Nat.le_refl _) _).drew) HS4.out | with_reducible exact a_next ((Below.refl _ _).alloc (Nat.le_refl _) _) HS5.out | (have h7 := HS7.out; with_reducible exact h7))
              ((first
                | (go_at_call 35; refine (cloneA_any b off c xs n _ HN.out h20 (fun k hk => (HXA4.out k hk).below (by first | with_reducible exact (Below.refl _ _).drew | with_reducible exact ((Below.refl _ _).alloc (Nat.le_refl _) _).drew) hbw4) (by have h := hbw4; (try simp); omega)).mono ?_; rintro e w5 ⟨v5, rfl, ho5, hnil5, b5⟩; obtain ⟨A5, c5, ev5, _⟩ := ho5.reads; rw [HN.out] at ev5; subst ev5; have HO5 := Lib.hid ho5; have B5 := Lib.hid b5; (first | (have WA := Lib.hid (show Below w4.heap.size w4 w5 by with_reducible exact stepB (Below.refl _ _).drew B5.out)) | (have WB := Lib.hid (show Below w4.heap.size w4 w5 by with_reducible exact stepB ((Below.refl _ _).alloc (Nat.le_refl _) _).drew B5.out))); have B45 := Lib.hid (show Below w4.heap.size w4 w5 by first | with_reducible exact stepB (Below.refl _ _).drew B5.out | with_reducible exact stepB ((Below.refl _ _).alloc (Nat.le_refl _) _).drew B5.out); have HS5 := Lib.hid (a_next B45.out HS4.out); have hs45 := B45.out.size; have HO5m := Lib.hid (show OwnA w5 w4.heap.size (.slice A5 n c5) xs by exact HO5.out.mono (by simp)); have HBA := Lib.hid (show w4.heap.size ≤ (w5.alloc (.cells #[.string y.a, .int .i64 y.u, .int .i64 y.v, .int .i64 y.l, .int .i64 y.s, .int .i64 y.f, .int .i64 y.k] 51)).heap.size from Nat.le_trans hs45 (by simp)); have HNA := Lib.hid (show (Value.slice A5 n c5).ownBlock ≠ some w5.heap.size from fun e => absurd (HO5m.out.lt e).2 (Nat.lt_irrefl _)); have HOA := Lib.hid (HO5m.out.alloc (.cells #[.string y.a, .int .i64 y.u, .int .i64 y.v, .int .i64 y.l, .int .i64 y.s, .int .i64 y.f, .int .i64 y.k] 51)); clear ho5 hnil5 b5)
                | (go_at_call 53; have hWA := WA.out; refine (insertA_any (.slice A5 n c5) A5 c5 w5.heap.size (posL y.a xs) n w4.heap.size xs y (w5.alloc (.cells #[.string y.a, .int .i64 y.u, .int .i64 y.v, .int .i64 y.l, .int .i64 y.s, .int .i64 y.f, .int .i64 y.k] 51)) rfl HN.out HPL.out h20 HOA.out HBA.out HNA.out (HYA.out w5)).mono ?_; rintro e w6 ⟨v6, rfl, ho6, hg6⟩; obtain ⟨A6, c6, ev6, _⟩ := ho6.reads; rw [insA_len, HN.out] at ev6; subst ev6; have HO6 := Lib.hid ho6; have B46 := Lib.hid (below_grown (B45.out.alloc hs45 _) hg6 (fun g e => (HO5m.out.lt e).1) (by simp; omega)); have HS6 := Lib.hid (a_next B46.out HS4.out); have HS7 := Lib.hid (a_set (k := w.heap.size + 1 + 1) (o := 1) (x := .slice A6 (n + 1) c6) (by omega) (by omega) (a_set (k := w.heap.size + 1 + 1) (o := 0) (x := .int .i64 j) (by omega) (by omega) HS6.out)); obtain ⟨⟨x0, r0⟩, ⟨x1, r1⟩, hfz⟩ := RS4.out.next B46.out; have hs46 := B46.out.size; clear ho6 hg6)
                | (go_at_call 53; have hWB := WB.out; have hNB : (Value.slice A5 n c5).ownBlock ≠ some w4.heap.size := (fun e => by have h1 := (HO5.out.lt e).1; have h2 : w4.heap.size < (w4.alloc (.cells #[.string y.a, .int .i64 y.u, .int .i64 y.v, .int .i64 y.l, .int .i64 y.s, .int .i64 y.f, .int .i64 y.k] 51)).drew.heap.size := (by simp); exact absurd h1 (Nat.not_le_of_lt h2)); have hYB := (B5.out.block w4.heap.size (by simp)).trans (HYA.out w4); refine (insertA_any (.slice A5 n c5) A5 c5 w4.heap.size (posL y.a xs) n w4.heap.size xs y w5 rfl HN.out HPL.out h20 HO5m.out hs45 hNB hYB).mono ?_; rintro e w6 ⟨v6, rfl, ho6, hg6⟩; obtain ⟨A6, c6, ev6, _⟩ := ho6.reads; rw [insA_len, HN.out] at ev6; subst ev6; have HO6 := Lib.hid ho6; have B46 := Lib.hid (below_grown B45.out hg6 (fun g e => (HO5m.out.lt e).1) hs45); have HS6 := Lib.hid (a_next B46.out HS4.out); have HS7 := Lib.hid (a_set (k := w.heap.size + 1 + 1) (o := 1) (x := .slice A6 (n + 1) c6) (by omega) (by omega) (a_set (k := w.heap.size + 1 + 1) (o := 0) (x := .int .i64 j) (by omega) (by omega) HS6.out)); obtain ⟨⟨x0, r0⟩, ⟨x1, r1⟩, hfz⟩ := RS4.out.next B46.out; have hs46 := B46.out.size; clear ho6 hg6)))
            all_goals
              go_wp2_with fail
              obtain ⟨g0, g1⟩ := mcells2 r0 r1 (v0 := .int .i64 j) (v1 := .slice A6 (n + 1) c6)
              simp [bodyPost, results, Try.results27, go_sem, g0, g1]
              exact mine_ret (by rw [HRR.out.1, HRR.out.2.1, HRR.out.2.2]; exact ⟨rfl, rfl, rfl⟩) (((HO6.out.set (by omega)).set (by omega)).mono (by omega)) (set2_below (stepB HB4.out B46.out) (by omega))
end Go.Proofs.Ytgiokjflfadeeaa
