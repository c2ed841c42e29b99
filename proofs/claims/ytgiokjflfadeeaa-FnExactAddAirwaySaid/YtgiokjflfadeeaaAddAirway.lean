/-
  FnExactAddAirway: for every mine and every airway the program's AddAirway returns what the reference's returns; the mine and the result stay the caller's own.
-/
import Derived.Test.YtgiokjflfadeeaaAddP
import Derived.Test.YtgiokjflfadeeaaMarkWay
import Derived.Test.YtgiokjflfadeeaaListLaw
import Derived.Test.YtgiokjflfadeeaaRowM
import Derived.Test.YtgiokjflfadeeaaAgg
import Derived.Test.YtgiokjflfadeeaaNum
import Derived.RowKit3
import Derived.ProofKit
import Derived.OpenShut
import Derived.Lib.SmallJoins
namespace Go.Proofs.Ytgiokjflfadeeaa
open Go.RowKit
set_option linter.unusedVariables false

theorem own_map (A : Option Addr) (n c : Nat) : (Value.slice A n c).ownBlock = A.map (·.block) := by cases A <;> rfl
/-- a result's cell that was laid ahead of the calls -/
structure ResZ (lo : Nat) (w : World) (g : Nat) : Prop where
  r : ResM w g
  le : lo ≤ g
theorem resZ_new {lo : Nat} {X w' : World} (t : TypeId) (b : Below (X.alloc (.cells #[.int .i64 0, .slice none 0 0] t)).heap.size (X.alloc (.cells #[.int .i64 0, .slice none 0 0] t)) w') (h : lo ≤ X.heap.size) : ResZ lo w' X.heap.size := ⟨(resM_new X t).next b, h⟩
theorem resZ_newD {lo : Nat} {X w' : World} (t : TypeId) (b : Below (X.alloc (.cells #[.int .i64 0, .slice none 0 0] t)).drew.heap.size (X.alloc (.cells #[.int .i64 0, .slice none 0 0] t)).drew w') (h : lo ≤ X.heap.size) : ResZ lo w' X.heap.size :=
  ⟨(resM_new X t).next (stepB (Below.refl _ _).drew b), h⟩
theorem ResZ.next {lo : Nat} {w w' : World} {g : Nat} (h : ResZ lo w g) (hb : Below w.heap.size w w') : ResZ lo w' g := ⟨h.r.next hb, h.le⟩
theorem ResZ.lt {lo : Nat} {w : World} {g : Nat} (h : ResZ lo w g) : g < w.heap.size := by
  obtain ⟨x, h0⟩ := h.r.r0
  exact World.block_lt_of_cell? w _ h0
/-- the ways of a drawn region are led together: what follows is shown once -/
theorem merge5 {G : Prop} (F : Nat → Nat → Option Addr → Nat → World → Prop) {P : Nat → Nat → Option Addr → Nat → World → Prop} (k : (∀ g h a c W, F g h a c W → P g h a c W) → G) (h : ∀ g h a c W, F g h a c W → P g h a c W) : G := k h
theorem fin_alloc {B M k0 : Nat} {w2 w5 : World} {A0 : Option Addr} {ys : List AW} {jj : Int} (t : TypeId) (hb : Below w2.heap.size w2 w5) (ho : OwnA w5 B (.slice A0 M k0) ys) :
    w2.heap.size ≤ w5.heap.size ∧ Below w2.heap.size w2 (w5.alloc (.cells #[.int .i64 jj, .slice A0 M k0] t)) ∧ Airs (w5.alloc (.cells #[.int .i64 jj, .slice A0 M k0] t)) A0 ys ∧ MC (w5.alloc (.cells #[.int .i64 jj, .slice A0 M k0] t)) w5.heap.size jj (.slice A0 M k0) := by
  refine ⟨hb.size, hb.alloc hb.size _, ?_, mc_new _ _ _ _⟩
  obtain ⟨A', k', e, h'⟩ := (ho.alloc (.cells #[.int .i64 jj, .slice A0 M k0] t)).reads
  injection e with e1 _ _; subst e1; exact h'
theorem fin_set {B g M k0 : Nat} {w2 w5 : World} {A0 : Option Addr} {ys : List AW} {jj : Int} (hb : Below w2.heap.size w2 w5) (ho : OwnA w5 B (.slice A0 M k0) ys) (hz : ResZ w2.heap.size w5 g) (hB : g < B) :
    w2.heap.size ≤ g ∧ Below w2.heap.size w2 ((w5.setCell ⟨g, 0, none⟩ (.int .i64 jj)).setCell ⟨g, 1, none⟩ (.slice A0 M k0)) ∧ Airs ((w5.setCell ⟨g, 0, none⟩ (.int .i64 jj)).setCell ⟨g, 1, none⟩ (.slice A0 M k0)) A0 ys ∧ MC ((w5.setCell ⟨g, 0, none⟩ (.int .i64 jj)).setCell ⟨g, 1, none⟩ (.slice A0 M k0)) g jj (.slice A0 M k0) := by
  obtain ⟨⟨x0, r0⟩, ⟨x1, r1⟩, hfz⟩ := hz.r
  obtain ⟨g0, g1⟩ := mcells2 r0 r1 (v0 := .int .i64 jj) (v1 := .slice A0 M k0)
  refine ⟨hz.le, (hb.setCell hz.le _).setCell hz.le _, ?_, ⟨?_, g1⟩⟩
  · obtain ⟨A', k', e, h'⟩ := ((ho.set (o := 0) (x := .int .i64 jj) hB).set (o := 1) (x := .slice A0 M k0) hB).reads
    injection e with e1 _ _; subst e1; exact h'
  · rw [World.cell?_setCell_other]
    · exact g0
    · intro e; injection e with _ e; cases e
theorem ofin_alloc {B M k0 : Nat} {w2 w5 : World} {A0 : Option Addr} {ys : List AW} {jj : Int} (t : TypeId) (hb : Below w2.heap.size w2 w5) (ho : OwnA w5 B (.slice A0 M k0) ys) (hs : w2.heap.size ≤ B) :
    w2.heap.size ≤ w5.heap.size ∧ Below w2.heap.size w2 (w5.alloc (.cells #[.int .i64 jj, .slice A0 M k0] t)) ∧ (OwnA (w5.alloc (.cells #[.int .i64 jj, .slice A0 M k0] t)) w2.heap.size (.slice A0 M k0) ys ∧ (Value.slice A0 M k0).ownBlock ≠ some w5.heap.size) ∧ MC (w5.alloc (.cells #[.int .i64 jj, .slice A0 M k0] t)) w5.heap.size jj (.slice A0 M k0) :=
  ⟨hb.size, hb.alloc hb.size _, ⟨(ho.alloc _).mono hs, fun e => absurd (ho.lt e).2 (Nat.lt_irrefl _)⟩, mc_new _ _ _ _⟩
theorem ofin_set {B g M k0 : Nat} {w2 w5 : World} {A0 : Option Addr} {ys : List AW} {jj : Int} (hb : Below w2.heap.size w2 w5) (ho : OwnA w5 B (.slice A0 M k0) ys) (hz : ResZ w2.heap.size w5 g) (hB : g < B) (hs : w2.heap.size ≤ B) :
    w2.heap.size ≤ g ∧ Below w2.heap.size w2 ((w5.setCell ⟨g, 0, none⟩ (.int .i64 jj)).setCell ⟨g, 1, none⟩ (.slice A0 M k0)) ∧ (OwnA ((w5.setCell ⟨g, 0, none⟩ (.int .i64 jj)).setCell ⟨g, 1, none⟩ (.slice A0 M k0)) w2.heap.size (.slice A0 M k0) ys ∧ (Value.slice A0 M k0).ownBlock ≠ some g) ∧ MC ((w5.setCell ⟨g, 0, none⟩ (.int .i64 jj)).setCell ⟨g, 1, none⟩ (.slice A0 M k0)) g jj (.slice A0 M k0) := by
  obtain ⟨h1, h2, _, h4⟩ := fin_set (jj := jj) hb ho hz hB
  exact ⟨h1, h2, ⟨((ho.set (o := 0) (x := .int .i64 jj) hB).set (o := 1) (x := .slice A0 M k0) hB).mono hs, fun e => by have := (ho.lt e).1; omega⟩, h4⟩
set_option maxHeartbeats 16000000 in
set_option maxRecDepth 100000 in
theorem law_AddAirway (j : Int) (A : Option Addr) (n c : Nat) (xs : List AW) (hn : xs.length = n) (hm : n ≤ maxLen) (hs : ∀ k, k < n → (atA xs k).a.size ≤ maxLen) (a : ByteArray) (hm_a : a.size ≤ maxLen) (u : Int) (_ : -9223372036854775808 ≤ u ∧ u ≤ 9223372036854775807) (v : Int) (_ : -9223372036854775808 ≤ v ∧ v ≤ 9223372036854775807) (l : Int) (_ : -9223372036854775808 ≤ l ∧ l ≤ 9223372036854775807) (s : Int) (_ : -9223372036854775808 ≤ s ∧ s ≤ 9223372036854775807) (f : Int) (_ : -9223372036854775808 ≤ f ∧ f ≤ 9223372036854775807) (k : Int) (_ : -9223372036854775808 ≤ k ∧ k ≤ 9223372036854775807) (w : World) (hx : Airs w A xs) :
    Calls Try.prog 6 #[.agg #[.int .i64 j, .slice A n c], .agg #[.string a, .int .i64 u, .int .i64 v, .int .i64 l, .int .i64 s, .int .i64 f, .int .i64 k]] w fun e w' => e = .returned (.bool true) ∧ Below w.heap.size w w' := by
  obtain ⟨y, hyy⟩ : ∃ y : AW, y = ⟨a, u, v, l, s, f, k⟩ := ⟨_, rfl⟩
  have hag : (Value.agg #[.string a, .int .i64 u, .int .i64 v, .int .i64 l, .int .i64 s, .int .i64 f, .int .i64 k]) = .agg #[.string y.a, .int .i64 y.u, .int .i64 y.v, .int .i64 y.l, .int .i64 y.s, .int .i64 y.f, .int .i64 y.k] := by rw [hyy]
  have hya : y.a.size ≤ maxLen := by rw [hyy]; exact hm_a
  rw [hag]
  clear hag hyy
  unfold maxLen at hm
  have HX := Lib.hid hx
  have HN := Lib.hid hn
  have HS := Lib.hid hs
  obtain ⟨W0, hW0⟩ : ∃ W0, W0 = (w.alloc (.cells #[.int .i64 j, .slice A n c] 24)).alloc (.cells #[.string y.a, .int .i64 y.u, .int .i64 y.v, .int .i64 y.l, .int .i64 y.s, .int .i64 y.f, .int .i64 y.k] 48) := ⟨_, rfl⟩
  have B0 := Lib.hid (show Below w.heap.size w W0 by rw [hW0]; exact by ((repeat (first | with_reducible exact Below.refl _ _ | with_reducible apply below_drewN | with_reducible apply Below.drew | (with_reducible refine Below.alloc ?_ ?_ _) | (with_reducible refine Below.setCell ?_ ?_ _) | (with_reducible refine Below.trans ?_ (hb4.mono ?_)) | (with_reducible refine Below.trans ?_ (hb3.mono ?_)) | (with_reducible refine Below.trans ?_ (hb2.mono ?_)))); all_goals (first | (simp <;> omega) | (have h2s := hb2.size; (try simp at h2s); (try simp); omega) | (have h2s := hb2.size; have h3s := hb3.size; (try simp at h2s); (try simp at h3s); (try simp); omega) | (have h2s := hb2.size; have h3s := hb3.size; have h4s := hb4.size; (try simp at h2s); (try simp at h3s); (try simp at h4s); (try simp); omega))))
  have M00 := Lib.hid (show MC W0 w.heap.size j (.slice A n c) by rw [hW0]; exact ⟨by simp [go_sem], by simp [go_sem]⟩)
  have Y00 := Lib.hid (show AirAt W0 (w.heap.size + 1) 0 y by rw [hW0]; constructor <;> simp [go_sem])
  clear hx hn hs
  go_enter Try.func6, Try.ntmps6
  go_wp2_with fail
  rw [← hW0]
  have hg1 : w.heap.size + 1 < W0.heap.size := by rw [hW0]; simp
  clear hW0
  refine (szMine_any j A c xs n 1048576 _ HN.out (by unfold maxLen; omega) (by omega) (by omega) HS.out (HX.out.next B0.out)).mono ?_; rintro e w1 ⟨r, rfl, hr, b1⟩
  have M01 := Lib.hid (M00.out.next b1)
  have Y01 := Lib.hid (Y00.out.below b1 hg1)
  have C1 := Lib.hid (stepB B0.out b1)
  have hs01 := b1.size
  clear b1
  by_cases hr0 : r < 0
  · go_wp2_with fail
    go_ret
    exact ⟨rfl, C1.out⟩
  · have hr2 := hr.resolve_left hr0
    have h20 : n ≤ 1048576 := by have := HN.out; omega
    have hr3 : r ≤ 1048576 := by omega
    clear hr
    have hr0 : 0 ≤ r := by omega
    clear hr2
    obtain ⟨y0, y1, y2, y3, y4, y5, y6⟩ := airZero Y01.out
    go_wp2_with fail
    refine (szAirway_any y r _ hr0 hr3 hya).mono ?_; rintro e w2 ⟨rfl, b2⟩
    have M02 := Lib.hid (M01.out.next b2)
    have Y02 := Lib.hid (Y01.out.below b2 (by omega))
    have C2 := Lib.hid (stepB C1.out b2)
    have hs12 := b2.size
    clear b2 y0 y1 y2 y3 y4 y5 y6
    by_cases hra : r < y.a.size
    · rw [if_pos hra]
      go_wp2_with fail
      go_ret
      exact ⟨rfl, C2.out⟩
    · rw [if_neg hra]
      have hra2 : ¬ (r - (y.a.size : Int)) < 0 := by omega
      have CX2 := Lib.hid (HX.out.next C2.out)
      have HSS := Lib.hid (show w2.cell? ⟨w.heap.size, 0, none⟩ = some (.int .i64 j) ∧ w2.cell? ⟨w.heap.size, 1, none⟩ = some (.slice A n c) ∧ w2.cell? ⟨w.heap.size + 1, 0, none⟩ = some (.string y.a) ∧ w2.cell? ⟨w.heap.size + 1, 1, none⟩ = some (.int .i64 y.u) ∧ w2.cell? ⟨w.heap.size + 1, 2, none⟩ = some (.int .i64 y.v) ∧ w2.cell? ⟨w.heap.size + 1, 3, none⟩ = some (.int .i64 y.l) ∧ w2.cell? ⟨w.heap.size + 1, 4, none⟩ = some (.int .i64 y.s) ∧ w2.cell? ⟨w.heap.size + 1, 5, none⟩ = some (.int .i64 y.f) ∧ w2.cell? ⟨w.heap.size + 1, 6, none⟩ = some (.int .i64 y.k) from ⟨M02.out.c0, M02.out.c1, (airZero Y02.out).1, (airZero Y02.out).2.1, (airZero Y02.out).2.2.1, (airZero Y02.out).2.2.2.1, (airZero Y02.out).2.2.2.2.1, (airZero Y02.out).2.2.2.2.2.1, (airZero Y02.out).2.2.2.2.2.2⟩)
      obtain ⟨ys, hys⟩ : ∃ ys, ys = addX j xs y := ⟨_, rfl⟩
      obtain ⟨jj, hjj⟩ : ∃ jj, jj = addJ j xs y := ⟨_, rfl⟩
      obtain ⟨cd, hcd⟩ : ∃ cd, cd = addC j xs y := ⟨_, rfl⟩
      obtain ⟨M, hM⟩ : ∃ M, M = ys.length := ⟨_, rfl⟩
      have hM20 : M ≤ 1048577 := by have := add_len j xs y; have := HN.out; rw [hM, hys]; omega
      have HL := Lib.hid (show ys.length = M from hM.symm)
      have HYS := Lib.hid hys
      have HJJ := Lib.hid hjj
      have HCD := Lib.hid hcd
      clear hys hjj hcd hM
      go_wp2_with fail
      have HSB := Lib.hid (show ∀ W : World, Below w2.heap.size w2 W → Below w2.heap.size w2 W ∧ W.cell? ⟨w.heap.size, 0, none⟩ = some (.int .i64 j) ∧ W.cell? ⟨w.heap.size, 1, none⟩ = some (.slice A n c) ∧ W.cell? ⟨w.heap.size + 1, 0, none⟩ = some (.string y.a) ∧ W.cell? ⟨w.heap.size + 1, 1, none⟩ = some (.int .i64 y.u) ∧ W.cell? ⟨w.heap.size + 1, 2, none⟩ = some (.int .i64 y.v) ∧ W.cell? ⟨w.heap.size + 1, 3, none⟩ = some (.int .i64 y.l) ∧ W.cell? ⟨w.heap.size + 1, 4, none⟩ = some (.int .i64 y.s) ∧ W.cell? ⟨w.heap.size + 1, 5, none⟩ = some (.int .i64 y.f) ∧ W.cell? ⟨w.heap.size + 1, 6, none⟩ = some (.int .i64 y.k) from fun W hW => by
        obtain ⟨m0, m1, x0, x1, x2, x3, x4, x5, x6⟩ := HSS.out
        have f : ∀ {a : Addr} {v : Value}, w2.cell? a = some v → W.cell? a = some v := fun {a v} h => (hW.cell (World.block_lt_of_cell? w2 a h)).trans h
        exact ⟨hW, f m0, f m1, f x0, f x1, f x2, f x3, f x4, f x5, f x6⟩)
      have h22 : w2.heap.size ≤ w2.heap.size := Nat.le_refl _
      apply merge5 (fun g3 g6 A0 k0 W3 => w2.heap.size ≤ g6 ∧ Below w2.heap.size w2 W3 ∧ Airs W3 A0 ys ∧ MC W3 g6 jj (.slice A0 M k0))
      · intro KEY
        have KEYH := Lib.hid KEY
        clear KEY
        go_region_held3 (fun w' => Below w2.heap.size w2 w' ∧ w'.cell? ⟨w.heap.size, 0, none⟩ = some (.int .i64 j) ∧ w'.cell? ⟨w.heap.size, 1, none⟩ = some (.slice A n c) ∧ w'.cell? ⟨w.heap.size + 1, 0, none⟩ = some (.string y.a) ∧ w'.cell? ⟨w.heap.size + 1, 1, none⟩ = some (.int .i64 y.u) ∧ w'.cell? ⟨w.heap.size + 1, 2, none⟩ = some (.int .i64 y.v) ∧ w'.cell? ⟨w.heap.size + 1, 3, none⟩ = some (.int .i64 y.l) ∧ w'.cell? ⟨w.heap.size + 1, 4, none⟩ = some (.int .i64 y.s) ∧ w'.cell? ⟨w.heap.size + 1, 5, none⟩ = some (.int .i64 y.f) ∧ w'.cell? ⟨w.heap.size + 1, 6, none⟩ = some (.int .i64 y.k)) (first | with_reducible exact HSB.out _ (Below.refl _ _).drew | (have h := HSB.out _ BL.out; with_reducible exact h) | (have hbl := BL.out; with_reducible exact HSB.out _ (hbl.alloc hbl.size _)) | with_reducible exact HSB.out _ ((Below.refl _ _).alloc (Nat.le_refl _) _).drew | (have hbl := BL.out; have hrz := RZ.out.le; with_reducible exact HSB.out _ ((hbl.setCell hrz _).setCell hrz _)))
          ((first
            | (go_at_call 9; have hS := (‹Below w2.heap.size w2 _ ∧ _›).1; refine (toMine_any j A c xs n _ HN.out h20 (CX2.out.next hS)).mono ?_; rintro e v3 ⟨g3, rfl, hg3, r3, b3⟩; have BL := Lib.hid (stepB hS b3); have hsl3 := BL.out.size; have R3 := Lib.hid r3; (first | (have RZ := Lib.hid (resZ_new (lo := w2.heap.size) 28 (by with_reducible exact b3) (by omega))) | (have RZ := Lib.hid (resZ_newD (lo := w2.heap.size) 28 (by with_reducible exact b3) (by omega))) | (have RZ := Lib.hid (RZ.out.next (by with_reducible exact b3))) | skip); clear r3 hS b3 hg3)
            | (go_at_call 26; have hS := (‹Below w2.heap.size w2 _ ∧ _›).1; refine (toAW_any y _).mono ?_; rintro e v4 ⟨rfl, b4⟩; have R4 := Lib.hid (R3.out.next (by first | with_reducible exact b4 | with_reducible exact stepB ((Below.refl _ _).alloc (Nat.le_refl _) _) b4)); have BL := Lib.hid (stepB hS b4); have hsl4 := BL.out.size; (first | (have RZ := Lib.hid (resZ_new (lo := w2.heap.size) 28 (by with_reducible exact b4) (by omega))) | (have RZ := Lib.hid (resZ_newD (lo := w2.heap.size) 28 (by with_reducible exact b4) (by omega))) | (have RZ := Lib.hid (RZ.out.next (by with_reducible exact b4))) | skip); (first | (have LT4 := Lib.hid RZ.out.lt) | skip); have HA4 := Lib.hid (show ∀ W : World, Below v4.heap.size v4 W → (∀ k, k < xs.length → AirAt W g3 (0 + k * 7) (atA xs k)) ∧ g3 < W.heap.size from fun W hW => ⟨fun k hk => by (obtain ⟨b', o', e, _, h⟩ := ((R4.out.airs HN.out).next hW).at_ hk; injection e with e; injection e with e1 e2; subst e1 e2; exact h), Nat.lt_of_lt_of_le R4.out.lt hW.size⟩); clear hS b4)
            | (go_at_call 25; have hS := (‹Below w2.heap.size w2 _ ∧ _›).1; have hA4 := (fun {W : World} (_ : Below w2.heap.size w2 W) (hW : Below v4.heap.size v4 W) => HA4.out W hW) hS (by first | with_reducible exact Below.refl _ _ | with_reducible exact (Below.refl _ _).alloc (Nat.le_refl _) _); refine (adS_any j g3 0 n xs n y _ HN.out h20 HS.out hya (Nat.le_refl _) hA4.2 hA4.1).mono ?_; rw [← HYS.out, ← HJJ.out, ← HCD.out]; rintro e v5 ⟨v0, rfl, ho0, b5⟩; obtain ⟨A0, k0, ev0, _⟩ := ho0.reads; rw [HL.out] at ev0; subst ev0; have BL := Lib.hid (stepB hS b5); have hsl5 := BL.out.size; (first | (have RZ := Lib.hid (resZ_new (lo := w2.heap.size) 28 (by with_reducible exact b5) (by omega))) | (have RZ := Lib.hid (resZ_newD (lo := w2.heap.size) 28 (by with_reducible exact b5) (by omega))) | (have RZ := Lib.hid (RZ.out.next (by with_reducible exact b5))) | skip); (first | (obtain ⟨⟨x0, r0⟩, ⟨x1, r1⟩, hfz⟩ := RZ.out.r) | skip); have HO0 := Lib.hid ho0; have HSZ := Lib.hid hS.size; clear hS b5 ho0 hA4)))
        all_goals first
          | (obtain ⟨W3, hW3⟩ : ∃ W3, W3 = v5.alloc (.cells #[.int .i64 jj, .slice A0 M k0] 28) := ⟨_, rfl⟩
             rw [← hW3]
             have hf := fin_alloc (jj := jj) 28 BL.out HO0.out
             rw [← hW3] at hf
             obtain ⟨g6, hg6⟩ : ∃ g6, g6 = v5.heap.size := ⟨_, rfl⟩
             rw [← hg6] at hf ⊢
             exact KEYH.out g3 g6 A0 k0 W3 hf)
          | (obtain ⟨g6, hg6⟩ : ∃ g6, g6 = v4.heap.size := ⟨_, rfl⟩
             rw [← hg6]
             obtain ⟨W3, hW3⟩ : ∃ W3, W3 = (v5.setCell ⟨g6, 0, none⟩ (.int .i64 jj)).setCell ⟨g6, 1, none⟩ (.slice A0 M k0) := ⟨_, rfl⟩
             rw [← hW3]
             have hrz : ResZ w2.heap.size v5 g6 := by rw [hg6]; exact RZ.out
             have hf := fin_set (jj := jj) BL.out HO0.out hrz (by first | (rw [hg6]; simp; done) | (have h := LT4.out; rw [hg6]; exact h))
             rw [← hW3] at hf
             exact KEYH.out g3 g6 A0 k0 W3 hf)
          | (obtain ⟨g6, hg6⟩ : ∃ g6, g6 = v3.heap.size := ⟨_, rfl⟩
             rw [← hg6]
             obtain ⟨W3, hW3⟩ : ∃ W3, W3 = (v5.setCell ⟨g6, 0, none⟩ (.int .i64 jj)).setCell ⟨g6, 1, none⟩ (.slice A0 M k0) := ⟨_, rfl⟩
             rw [← hW3]
             have hrz : ResZ w2.heap.size v5 g6 := by rw [hg6]; exact RZ.out
             have hf := fin_set (jj := jj) BL.out HO0.out hrz (by first | (rw [hg6]; simp; done) | (have h := LT4.out; rw [hg6]; exact h))
             rw [← hW3] at hf
             exact KEYH.out g3 g6 A0 k0 W3 hf)
          | (obtain ⟨g6, hg6⟩ : ∃ g6, g6 = w2.heap.size := ⟨_, rfl⟩
             rw [← hg6]
             obtain ⟨W3, hW3⟩ : ∃ W3, W3 = (v5.setCell ⟨g6, 0, none⟩ (.int .i64 jj)).setCell ⟨g6, 1, none⟩ (.slice A0 M k0) := ⟨_, rfl⟩
             rw [← hW3]
             have hrz : ResZ w2.heap.size v5 g6 := by rw [hg6]; exact RZ.out
             have hf := fin_set (jj := jj) BL.out HO0.out hrz (by first | (rw [hg6]; simp; done) | (have h := LT4.out; rw [hg6]; exact h))
             rw [← hW3] at hf
             exact KEYH.out g3 g6 A0 k0 W3 hf)
      · intro gz g6 A0 k0 W3 hFF
        obtain ⟨hg6, b23, j0, m6⟩ := hFF
        have C3 := Lib.hid (stepB C2.out b23)
        have J0 := Lib.hid j0
        have M03 := Lib.hid (M02.out.next b23)
        have Y03 := Lib.hid (Y02.out.below b23 (by omega))
        have M63 := Lib.hid m6
        have hs23 := b23.size
        have hg63 : g6 < W3.heap.size := World.block_lt_of_cell? _ _ m6.c0
        obtain ⟨m0, m1⟩ := M03.out.pair
        clear j0 b23 m6 HSB HSS
        go_wp2_with fail
        clear m0 m1
        refine (toMine_any j A c xs n _ HN.out h20 (HX.out.next C3.out)).mono ?_; rintro e w4 ⟨g4, rfl, hg4, r4, b4⟩
        have a4 : Below w4.heap.size w4 (w4.alloc (.cells #[.int .i64 j, .slice (some ⟨g4, 0, none⟩) n n] 28)) := (Below.refl _ _).alloc (Nat.le_refl _) _
        have D4 := Lib.hid (stepB b4 a4)
        have R4 := Lib.hid (r4.next a4)
        have AX4 := Lib.hid ((r4.airs HN.out).next a4)
        have hg48 : g4 < w4.heap.size := r4.lt
        have M84 := Lib.hid (mc_new w4 j (.slice (some ⟨g4, 0, none⟩) n n) 28)
        have hs34 := b4.size
        have Y04 := Lib.hid (Y03.out.below D4.out (by omega))
        obtain ⟨m80, m81⟩ := M84.out.pair
        obtain ⟨y0, y1, y2, y3, y4, y5, y6⟩ := airZero Y04.out
        clear r4 b4 a4
        go_wp2_with fail
        obtain ⟨W4, hW4⟩ : ∃ W4, W4 = w4.alloc (.cells #[.int .i64 j, .slice (some ⟨g4, 0, none⟩) n n] 28) := ⟨_, rfl⟩
        have hg8 : w4.heap.size < W4.heap.size := by rw [hW4]; simp
        have hw48 : w4.heap.size ≠ W4.heap.size := by omega
        rw [← hW4] at D4 R4 AX4 M84 Y04 ⊢
        clear m80 m81 hW4 y0 y1 y2 y3 y4 y5 y6
        have HSS := Lib.hid (show W4.cell? ⟨w4.heap.size, 0, none⟩ = some (.int .i64 j) ∧ W4.cell? ⟨w4.heap.size, 1, none⟩ = some (.slice (some ⟨g4, 0, none⟩) n n) ∧ W4.cell? ⟨w.heap.size + 1, 0, none⟩ = some (.string y.a) ∧ W4.cell? ⟨w.heap.size + 1, 1, none⟩ = some (.int .i64 y.u) ∧ W4.cell? ⟨w.heap.size + 1, 2, none⟩ = some (.int .i64 y.v) ∧ W4.cell? ⟨w.heap.size + 1, 3, none⟩ = some (.int .i64 y.l) ∧ W4.cell? ⟨w.heap.size + 1, 4, none⟩ = some (.int .i64 y.s) ∧ W4.cell? ⟨w.heap.size + 1, 5, none⟩ = some (.int .i64 y.f) ∧ W4.cell? ⟨w.heap.size + 1, 6, none⟩ = some (.int .i64 y.k) from ⟨M84.out.c0, M84.out.c1, (airZero Y04.out).1, (airZero Y04.out).2.1, (airZero Y04.out).2.2.1, (airZero Y04.out).2.2.2.1, (airZero Y04.out).2.2.2.2.1, (airZero Y04.out).2.2.2.2.2.1, (airZero Y04.out).2.2.2.2.2.2⟩)
        have HSB := Lib.hid (show ∀ W : World, Below W4.heap.size W4 W → Below W4.heap.size W4 W ∧ W.cell? ⟨w4.heap.size, 0, none⟩ = some (.int .i64 j) ∧ W.cell? ⟨w4.heap.size, 1, none⟩ = some (.slice (some ⟨g4, 0, none⟩) n n) ∧ W.cell? ⟨w.heap.size + 1, 0, none⟩ = some (.string y.a) ∧ W.cell? ⟨w.heap.size + 1, 1, none⟩ = some (.int .i64 y.u) ∧ W.cell? ⟨w.heap.size + 1, 2, none⟩ = some (.int .i64 y.v) ∧ W.cell? ⟨w.heap.size + 1, 3, none⟩ = some (.int .i64 y.l) ∧ W.cell? ⟨w.heap.size + 1, 4, none⟩ = some (.int .i64 y.s) ∧ W.cell? ⟨w.heap.size + 1, 5, none⟩ = some (.int .i64 y.f) ∧ W.cell? ⟨w.heap.size + 1, 6, none⟩ = some (.int .i64 y.k) from fun W hW => by
          obtain ⟨m0, m1, x0, x1, x2, x3, x4, x5, x6⟩ := HSS.out
          have f : ∀ {a : Addr} {v : Value}, W4.cell? a = some v → W.cell? a = some v := fun {a v} h => (hW.cell (World.block_lt_of_cell? W4 a h)).trans h
          exact ⟨hW, f m0, f m1, f x0, f x1, f x2, f x3, f x4, f x5, f x6⟩)
        have h22 : W4.heap.size ≤ W4.heap.size := Nat.le_refl _
        apply merge5 (fun g3 g6 A0 k0 W3 => W4.heap.size ≤ g6 ∧ Below W4.heap.size W4 W3 ∧ (OwnA W3 W4.heap.size (.slice A0 M k0) ys ∧ (Value.slice A0 M k0).ownBlock ≠ some g6) ∧ MC W3 g6 jj (.slice A0 M k0))
        · intro KEY
          have KEYH := Lib.hid KEY
          clear KEY
          go_region_held3 (fun w' => Below W4.heap.size W4 w' ∧ w'.cell? ⟨w4.heap.size, 0, none⟩ = some (.int .i64 j) ∧ w'.cell? ⟨w4.heap.size, 1, none⟩ = some (.slice (some ⟨g4, 0, none⟩) n n) ∧ w'.cell? ⟨w.heap.size + 1, 0, none⟩ = some (.string y.a) ∧ w'.cell? ⟨w.heap.size + 1, 1, none⟩ = some (.int .i64 y.u) ∧ w'.cell? ⟨w.heap.size + 1, 2, none⟩ = some (.int .i64 y.v) ∧ w'.cell? ⟨w.heap.size + 1, 3, none⟩ = some (.int .i64 y.l) ∧ w'.cell? ⟨w.heap.size + 1, 4, none⟩ = some (.int .i64 y.s) ∧ w'.cell? ⟨w.heap.size + 1, 5, none⟩ = some (.int .i64 y.f) ∧ w'.cell? ⟨w.heap.size + 1, 6, none⟩ = some (.int .i64 y.k)) (first | with_reducible exact HSB.out _ (Below.refl _ _).drew | (have h := HSB.out _ BL.out; with_reducible exact h) | (have hbl := BL.out; with_reducible exact HSB.out _ (hbl.alloc hbl.size _)) | with_reducible exact HSB.out _ ((Below.refl _ _).alloc (Nat.le_refl _) _).drew | (have hbl := BL.out; have hrz := RZ.out.le; with_reducible exact HSB.out _ ((hbl.setCell hrz _).setCell hrz _)))
            ((first
              | (go_at_call 26; have hS := (‹Below W4.heap.size W4 _ ∧ _›).1; refine (toAW_any y _).mono ?_; rintro e v4 ⟨rfl, b4⟩;  have BL := Lib.hid (stepB hS b4); have hsl4 := BL.out.size; (first | (have RZ := Lib.hid (resZ_new (lo := W4.heap.size) 28 (by with_reducible exact b4) (by omega))) | (have RZ := Lib.hid (resZ_newD (lo := W4.heap.size) 28 (by with_reducible exact b4) (by omega))) | (have RZ := Lib.hid (RZ.out.next (by with_reducible exact b4))) | skip); (first | (have LT4 := Lib.hid RZ.out.lt) | skip); have HA4 := Lib.hid (show ∀ W : World, Below v4.heap.size v4 W → (∀ k, k < xs.length → AirAt W g4 (0 + k * 7) (atA xs k)) ∧ g4 < W.heap.size from fun W hW => ⟨fun k hk => by (obtain ⟨b', o', e, _, h⟩ := (((R4.out.next BL.out).airs HN.out).next hW).at_ hk; injection e with e; injection e with e1 e2; subst e1 e2; exact h), Nat.lt_of_lt_of_le (R4.out.next BL.out).lt hW.size⟩); clear hS b4)
              | (go_at_call 27; have hS := (‹Below W4.heap.size W4 _ ∧ _›).1; have hA4 := (fun {W : World} (_ : Below W4.heap.size W4 W) (hW : Below v4.heap.size v4 W) => HA4.out W hW) hS (by first | with_reducible exact Below.refl _ _ | with_reducible exact (Below.refl _ _).alloc (Nat.le_refl _) _); refine (adP_any j g4 0 n xs n y _ HN.out h20 HS.out hya (Nat.le_refl _) hA4.2 hA4.1).mono ?_; rw [← HYS.out, ← HJJ.out, ← HCD.out]; rintro e v5 ⟨v0, rfl, ho0, b5⟩; obtain ⟨A0, k0, ev0, _⟩ := ho0.reads; rw [HL.out] at ev0; subst ev0; have BL := Lib.hid (stepB hS b5); have hsl5 := BL.out.size; (first | (have RZ := Lib.hid (resZ_new (lo := W4.heap.size) 28 (by with_reducible exact b5) (by omega))) | (have RZ := Lib.hid (resZ_newD (lo := W4.heap.size) 28 (by with_reducible exact b5) (by omega))) | (have RZ := Lib.hid (RZ.out.next (by with_reducible exact b5))) | skip); (first | (obtain ⟨⟨x0, r0⟩, ⟨x1, r1⟩, hfz⟩ := RZ.out.r) | skip); have HO0 := Lib.hid ho0; have HSZ := Lib.hid hS.size; clear hS b5 ho0 hA4)))
          all_goals (obtain ⟨gz, hgz⟩ : ∃ gz : Nat, gz = 0 := ⟨_, rfl⟩)
          all_goals first
            | (obtain ⟨W3, hW3⟩ : ∃ W3, W3 = v5.alloc (.cells #[.int .i64 jj, .slice A0 M k0] 28) := ⟨_, rfl⟩
               rw [← hW3]
               have hf := ofin_alloc (jj := jj) 28 BL.out HO0.out HSZ.out
               rw [← hW3] at hf
               obtain ⟨g6, hg6⟩ : ∃ g6, g6 = v5.heap.size := ⟨_, rfl⟩
               rw [← hg6] at hf ⊢
               exact KEYH.out gz g6 A0 k0 W3 hf)
            | (obtain ⟨g6, hg6⟩ : ∃ g6, g6 = v4.heap.size := ⟨_, rfl⟩
               rw [← hg6]
               obtain ⟨W3, hW3⟩ : ∃ W3, W3 = (v5.setCell ⟨g6, 0, none⟩ (.int .i64 jj)).setCell ⟨g6, 1, none⟩ (.slice A0 M k0) := ⟨_, rfl⟩
               rw [← hW3]
               have hrz : ResZ W4.heap.size v5 g6 := by rw [hg6]; exact RZ.out
               have hf := ofin_set (jj := jj) BL.out HO0.out hrz (by first | (rw [hg6]; simp; done) | (have h := LT4.out; rw [hg6]; exact h)) HSZ.out
               rw [← hW3] at hf
               exact KEYH.out gz g6 A0 k0 W3 hf)
            | (obtain ⟨g6, hg6⟩ : ∃ g6, g6 = W4.heap.size := ⟨_, rfl⟩
               rw [← hg6]
               obtain ⟨W3, hW3⟩ : ∃ W3, W3 = (v5.setCell ⟨g6, 0, none⟩ (.int .i64 jj)).setCell ⟨g6, 1, none⟩ (.slice A0 M k0) := ⟨_, rfl⟩
               rw [← hW3]
               have hrz : ResZ W4.heap.size v5 g6 := by rw [hg6]; exact RZ.out
               have hf := ofin_set (jj := jj) BL.out HO0.out hrz (by first | (rw [hg6]; simp; done) | (have h := LT4.out; rw [hg6]; exact h)) HSZ.out
               rw [← hW3] at hf
               exact KEYH.out gz g6 A0 k0 W3 hf)
        · intro gz g9 A5 k5 W5 hFF
          obtain ⟨hg9, b45, ⟨ho5, hne9⟩, m9⟩ := hFF
          have D5 := Lib.hid (stepB D4.out b45)
          have R5 := Lib.hid (R4.out.next b45)
          have AX5 := Lib.hid (AX4.out.next b45)
          have M85 := Lib.hid (M84.out.next b45)
          have M65 := Lib.hid (M63.out.next D5.out)
          have M95 := Lib.hid m9
          have HO5 := Lib.hid ho5
          have O5 := Lib.hid (own_row ho5)
          have HNE := Lib.hid hne9
          have hs45 := b45.size
          have hg95 : g9 < W5.heap.size := World.block_lt_of_cell? _ _ m9.c0
          obtain ⟨m60, m61⟩ := M65.out.pair
          obtain ⟨m90, m91⟩ := M95.out.pair
          clear ho5 b45 m9 hne9 HSB HSS
          go_wp2_with fail
          clear m60 m61 m90 m91
          have eqA : ∀ W, OwnA W W4.heap.size (.slice A5 M k5) ys → Airs W A5 ys := fun W h => by
            obtain ⟨A', k', e, h'⟩ := h.reads
            injection e with e1 _ _; subst e1; exact h'
          have EQA := Lib.hid eqA
          clear eqA
          refine (eqMine_same jj _ _ _ _ ys M _ HL.out (by omega) (EQA.out _ HO5.out) (J0.out.next D5.out)).mono ?_; rintro e w6 ⟨rfl, b6⟩
          have D6 := Lib.hid (stepB D5.out b6)
          have R6 := Lib.hid (R5.out.next b6)
          have AX6 := Lib.hid (AX5.out.next b6)
          have M86 := Lib.hid (M85.out.next b6)
          have M96 := Lib.hid (M95.out.next b6)
          have HO6 := Lib.hid (HO5.out.below b6)
          have M06 := Lib.hid (M03.out.next D6.out)
          have CX6 := Lib.hid (HX.out.next (stepB C3.out D6.out))
          have hs56 := b6.size
          have HQ6 := Lib.hid (show w6.cell? ⟨w.heap.size, 0, none⟩ = some (.int .i64 j) ∧ w6.cell? ⟨w.heap.size, 1, none⟩ = some (.slice A n c) ∧ w6.cell? ⟨w4.heap.size, 0, none⟩ = some (.int .i64 j) ∧ w6.cell? ⟨w4.heap.size, 1, none⟩ = some (.slice (some ⟨g4, 0, none⟩) n n) from ⟨M06.out.c0, M06.out.c1, M86.out.c0, M86.out.c1⟩)
          clear b6
          go_wp2_with fail
          go_region_held3 (fun w' => w'.cell? ⟨w.heap.size, 0, none⟩ = some (.int .i64 j) ∧ w'.cell? ⟨w.heap.size, 1, none⟩ = some (.slice A n c) ∧ w'.cell? ⟨w4.heap.size, 0, none⟩ = some (.int .i64 j) ∧ w'.cell? ⟨w4.heap.size, 1, none⟩ = some (.slice (some ⟨g4, 0, none⟩) n n)) (first | exact HQ6.out | exact q_next bq HQ6.out | exact q_next br (q_next bq HQ6.out))
            ((first | (go_at_call 9; refine (toMine_any j A c xs n _ HN.out h20 CX6.out.drew).mono ?_; rintro e w7 ⟨g7, rfl, hg7, r7, bq⟩) | (go_at_call 11; refine (eqMine_same j _ _ _ _ xs n _ HN.out (by omega) (AX6.out.drew.next bq) (r7.airs HN.out)).mono ?_; rintro e w8 ⟨rfl, br⟩)))
          have b8 := stepB (below_undrew bq) br
          have D8 := Lib.hid (stepB D6.out b8)
          have R8 := Lib.hid (R6.out.next b8)
          have M88 := Lib.hid (M86.out.next b8)
          have M98 := Lib.hid (M96.out.next b8)
          have HO8 := Lib.hid (HO6.out.below b8)
          have hs68 := b8.size
          obtain ⟨m80, m81⟩ := M88.out
          clear bq br r7 b8
          go_wp2_with fail
          refine (markMine_any j g4 n n _ h20 R8.out.rowN).mono ?_
          rintro e w9 ⟨r9, rfl, hg9'⟩
          clear m80 m81
          have D9 := Lib.hid (below_grown D8.out hg9' (fun g e => by injection e with e; omega) (by have := D8.out.size; omega))
          have M99 := Lib.hid (M98.out.kept hg9' (fun e => by injection e with e; omega))
          have HO9 := Lib.hid (HO8.out.kept hg9' (by
            cases hA : (Value.slice A5 M k5).ownBlock with
            | none => exact .inl rfl
            | some g => exact .inr (by intro e; injection e with e; have := (HO8.out.lt hA).1; omega)))
          have M69 := Lib.hid (M63.out.next D9.out)
          have hs89 := hg9'.size
          obtain ⟨m60, m61⟩ := M69.out
          obtain ⟨m90, m91⟩ := M99.out
          clear hg9'
          have hr9 : (0 : Int) ≤ (r9 : Int) := by omega
          go_wp2_with fail
          clear m60 m61 m90 m91
          refine (eqMine_same jj _ _ _ _ ys M _ HL.out (by omega) (EQA.out _ HO9.out) (J0.out.next D9.out)).mono ?_; rintro e w10 ⟨rfl, b10⟩
          have D10 := Lib.hid (stepB D9.out b10)
          have M910 := Lib.hid (M99.out.next b10)
          have HO10 := Lib.hid (HO9.out.below b10)
          have hs910 := b10.size
          obtain ⟨m90, m91⟩ := M910.out
          clear b10
          go_wp2_with fail
          clear m90 m91
          refine (markM_is jj A5 k5 ys M W4.heap.size _ HL.out (by omega) (by omega) HO10.out).mono ?_; rintro e w11 ⟨rfl, hm11, hg11⟩
          have D11 := Lib.hid (below_grown D10.out hg11 (fun g e => by have := (O5.out g e).1; have := D4.out.size; omega) (by have := D10.out.size; omega))
          have M911 := Lib.hid (M910.out.kept hg11 (fun e => HNE.out ((own_map A5 M k5).trans e.symm)))
          have HM11 := Lib.hid hm11
          obtain ⟨m90, m91⟩ := M911.out
          clear hm11 hg11
          have hN0 : (0 : Int) ≤ (M : Int) := by omega
          have hN2 : (M : Int) ≤ 1048577 := by omega
          go_wp2_with fail
          clear m90 m91
          refine (heldM_is jj A5 k5 M _ (by omega) HM11.out).mono ?_; rintro e w12 ⟨rfl, b12⟩
          have D12 := Lib.hid (stepB D11.out b12)
          have M912 := Lib.hid (M911.out.next b12)
          have HM12 := Lib.hid (HM11.out.next b12)
          have M012 := Lib.hid (M03.out.next D12.out)
          obtain ⟨m0, m1⟩ := M012.out
          have CX12 := Lib.hid (HX.out.next (stepB C3.out D12.out))
          have Y012 := Lib.hid (Y03.out.below D12.out (by omega))
          have HSS := Lib.hid (show w12.cell? ⟨w.heap.size, 0, none⟩ = some (.int .i64 j) ∧ w12.cell? ⟨w.heap.size, 1, none⟩ = some (.slice A n c) ∧ w12.cell? ⟨w.heap.size + 1, 0, none⟩ = some (.string y.a) ∧ w12.cell? ⟨w.heap.size + 1, 1, none⟩ = some (.int .i64 y.u) ∧ w12.cell? ⟨w.heap.size + 1, 2, none⟩ = some (.int .i64 y.v) ∧ w12.cell? ⟨w.heap.size + 1, 3, none⟩ = some (.int .i64 y.l) ∧ w12.cell? ⟨w.heap.size + 1, 4, none⟩ = some (.int .i64 y.s) ∧ w12.cell? ⟨w.heap.size + 1, 5, none⟩ = some (.int .i64 y.f) ∧ w12.cell? ⟨w.heap.size + 1, 6, none⟩ = some (.int .i64 y.k) from ⟨M012.out.c0, M012.out.c1, (airZero Y012.out).1, (airZero Y012.out).2.1, (airZero Y012.out).2.2.1, (airZero Y012.out).2.2.2.1, (airZero Y012.out).2.2.2.2.1, (airZero Y012.out).2.2.2.2.2.1, (airZero Y012.out).2.2.2.2.2.2⟩)
          clear b12
          go_wp2_with fail
          clear m0 m1
          have HSB := Lib.hid (show ∀ W : World, Below w12.heap.size w12 W → Below w12.heap.size w12 W ∧ W.cell? ⟨w.heap.size, 0, none⟩ = some (.int .i64 j) ∧ W.cell? ⟨w.heap.size, 1, none⟩ = some (.slice A n c) ∧ W.cell? ⟨w.heap.size + 1, 0, none⟩ = some (.string y.a) ∧ W.cell? ⟨w.heap.size + 1, 1, none⟩ = some (.int .i64 y.u) ∧ W.cell? ⟨w.heap.size + 1, 2, none⟩ = some (.int .i64 y.v) ∧ W.cell? ⟨w.heap.size + 1, 3, none⟩ = some (.int .i64 y.l) ∧ W.cell? ⟨w.heap.size + 1, 4, none⟩ = some (.int .i64 y.s) ∧ W.cell? ⟨w.heap.size + 1, 5, none⟩ = some (.int .i64 y.f) ∧ W.cell? ⟨w.heap.size + 1, 6, none⟩ = some (.int .i64 y.k) from fun W hW => by
            obtain ⟨m0, m1, x0, x1, x2, x3, x4, x5, x6⟩ := HSS.out
            have f : ∀ {a : Addr} {v : Value}, w12.cell? a = some v → W.cell? a = some v := fun {a v} h => (hW.cell (World.block_lt_of_cell? w12 a h)).trans h
            exact ⟨hW, f m0, f m1, f x0, f x1, f x2, f x3, f x4, f x5, f x6⟩)
          have h22 : w12.heap.size ≤ w12.heap.size := Nat.le_refl _
          apply merge5 (fun g3 g6 A0 k0 W3 => w12.heap.size ≤ g6 ∧ Below w12.heap.size w12 W3 ∧ Airs W3 A0 ys ∧ MC W3 g6 jj (.slice A0 M k0))
          · intro KEY
            have KEYH := Lib.hid KEY
            clear KEY
            go_region_held3 (fun w' => Below w12.heap.size w12 w' ∧ w'.cell? ⟨w.heap.size, 0, none⟩ = some (.int .i64 j) ∧ w'.cell? ⟨w.heap.size, 1, none⟩ = some (.slice A n c) ∧ w'.cell? ⟨w.heap.size + 1, 0, none⟩ = some (.string y.a) ∧ w'.cell? ⟨w.heap.size + 1, 1, none⟩ = some (.int .i64 y.u) ∧ w'.cell? ⟨w.heap.size + 1, 2, none⟩ = some (.int .i64 y.v) ∧ w'.cell? ⟨w.heap.size + 1, 3, none⟩ = some (.int .i64 y.l) ∧ w'.cell? ⟨w.heap.size + 1, 4, none⟩ = some (.int .i64 y.s) ∧ w'.cell? ⟨w.heap.size + 1, 5, none⟩ = some (.int .i64 y.f) ∧ w'.cell? ⟨w.heap.size + 1, 6, none⟩ = some (.int .i64 y.k)) (first | with_reducible exact HSB.out _ (Below.refl _ _).drew | (have h := HSB.out _ BL.out; with_reducible exact h) | (have hbl := BL.out; with_reducible exact HSB.out _ (hbl.alloc hbl.size _)) | with_reducible exact HSB.out _ ((Below.refl _ _).alloc (Nat.le_refl _) _).drew | (have hbl := BL.out; have hrz := RZ.out.le; with_reducible exact HSB.out _ ((hbl.setCell hrz _).setCell hrz _)))
              ((first
                | (go_at_call 9; have hS := (‹Below w12.heap.size w12 _ ∧ _›).1; refine (toMine_any j A c xs n _ HN.out h20 (CX12.out.next hS)).mono ?_; rintro e v3 ⟨g3, rfl, hg3, r3, b3⟩; have BL := Lib.hid (stepB hS b3); have hsl3 := BL.out.size; have R3 := Lib.hid r3; (first | (have RZ := Lib.hid (resZ_new (lo := w12.heap.size) 28 (by with_reducible exact b3) (by omega))) | (have RZ := Lib.hid (resZ_newD (lo := w12.heap.size) 28 (by with_reducible exact b3) (by omega))) | (have RZ := Lib.hid (RZ.out.next (by with_reducible exact b3))) | skip); clear r3 hS b3 hg3)
                | (go_at_call 26; have hS := (‹Below w12.heap.size w12 _ ∧ _›).1; refine (toAW_any y _).mono ?_; rintro e v4 ⟨rfl, b4⟩; have R4 := Lib.hid (R3.out.next (by first | with_reducible exact b4 | with_reducible exact stepB ((Below.refl _ _).alloc (Nat.le_refl _) _) b4)); have BL := Lib.hid (stepB hS b4); have hsl4 := BL.out.size; (first | (have RZ := Lib.hid (resZ_new (lo := w12.heap.size) 28 (by with_reducible exact b4) (by omega))) | (have RZ := Lib.hid (resZ_newD (lo := w12.heap.size) 28 (by with_reducible exact b4) (by omega))) | (have RZ := Lib.hid (RZ.out.next (by with_reducible exact b4))) | skip); (first | (have LT4 := Lib.hid RZ.out.lt) | skip); have HA4 := Lib.hid (show ∀ W : World, Below v4.heap.size v4 W → (∀ k, k < xs.length → AirAt W g3 (0 + k * 7) (atA xs k)) ∧ g3 < W.heap.size from fun W hW => ⟨fun k hk => by (obtain ⟨b', o', e, _, h⟩ := ((R4.out.airs HN.out).next hW).at_ hk; injection e with e; injection e with e1 e2; subst e1 e2; exact h), Nat.lt_of_lt_of_le R4.out.lt hW.size⟩); clear hS b4)
                | (go_at_call 27; have hS := (‹Below w12.heap.size w12 _ ∧ _›).1; have hA4 := (fun {W : World} (_ : Below w12.heap.size w12 W) (hW : Below v4.heap.size v4 W) => HA4.out W hW) hS (by first | with_reducible exact Below.refl _ _ | with_reducible exact (Below.refl _ _).alloc (Nat.le_refl _) _); refine (adP_any j g3 0 n xs n y _ HN.out h20 HS.out hya (Nat.le_refl _) hA4.2 hA4.1).mono ?_; rw [← HYS.out, ← HJJ.out, ← HCD.out]; rintro e v5 ⟨v0, rfl, ho0, b5⟩; obtain ⟨A0, k0, ev0, _⟩ := ho0.reads; rw [HL.out] at ev0; subst ev0; have BL := Lib.hid (stepB hS b5); have hsl5 := BL.out.size; (first | (have RZ := Lib.hid (resZ_new (lo := w12.heap.size) 28 (by with_reducible exact b5) (by omega))) | (have RZ := Lib.hid (resZ_newD (lo := w12.heap.size) 28 (by with_reducible exact b5) (by omega))) | (have RZ := Lib.hid (RZ.out.next (by with_reducible exact b5))) | skip); (first | (obtain ⟨⟨x0, r0⟩, ⟨x1, r1⟩, hfz⟩ := RZ.out.r) | skip); have HO0 := Lib.hid ho0; have HSZ := Lib.hid hS.size; clear hS b5 ho0 hA4)))
            all_goals first
              | (obtain ⟨W3, hW3⟩ : ∃ W3, W3 = v5.alloc (.cells #[.int .i64 jj, .slice A0 M k0] 28) := ⟨_, rfl⟩
                 rw [← hW3]
                 have hf := fin_alloc (jj := jj) 28 BL.out HO0.out
                 rw [← hW3] at hf
                 obtain ⟨g6, hg6⟩ : ∃ g6, g6 = v5.heap.size := ⟨_, rfl⟩
                 rw [← hg6] at hf ⊢
                 exact KEYH.out g3 g6 A0 k0 W3 hf)
              | (obtain ⟨g6, hg6⟩ : ∃ g6, g6 = v4.heap.size := ⟨_, rfl⟩
                 rw [← hg6]
                 obtain ⟨W3, hW3⟩ : ∃ W3, W3 = (v5.setCell ⟨g6, 0, none⟩ (.int .i64 jj)).setCell ⟨g6, 1, none⟩ (.slice A0 M k0) := ⟨_, rfl⟩
                 rw [← hW3]
                 have hrz : ResZ w12.heap.size v5 g6 := by rw [hg6]; exact RZ.out
                 have hf := fin_set (jj := jj) BL.out HO0.out hrz (by first | (rw [hg6]; simp; done) | (have h := LT4.out; rw [hg6]; exact h))
                 rw [← hW3] at hf
                 exact KEYH.out g3 g6 A0 k0 W3 hf)
              | (obtain ⟨g6, hg6⟩ : ∃ g6, g6 = v3.heap.size := ⟨_, rfl⟩
                 rw [← hg6]
                 obtain ⟨W3, hW3⟩ : ∃ W3, W3 = (v5.setCell ⟨g6, 0, none⟩ (.int .i64 jj)).setCell ⟨g6, 1, none⟩ (.slice A0 M k0) := ⟨_, rfl⟩
                 rw [← hW3]
                 have hrz : ResZ w12.heap.size v5 g6 := by rw [hg6]; exact RZ.out
                 have hf := fin_set (jj := jj) BL.out HO0.out hrz (by first | (rw [hg6]; simp; done) | (have h := LT4.out; rw [hg6]; exact h))
                 rw [← hW3] at hf
                 exact KEYH.out g3 g6 A0 k0 W3 hf)
              | (obtain ⟨g6, hg6⟩ : ∃ g6, g6 = w12.heap.size := ⟨_, rfl⟩
                 rw [← hg6]
                 obtain ⟨W3, hW3⟩ : ∃ W3, W3 = (v5.setCell ⟨g6, 0, none⟩ (.int .i64 jj)).setCell ⟨g6, 1, none⟩ (.slice A0 M k0) := ⟨_, rfl⟩
                 rw [← hW3]
                 have hrz : ResZ w12.heap.size v5 g6 := by rw [hg6]; exact RZ.out
                 have hf := fin_set (jj := jj) BL.out HO0.out hrz (by first | (rw [hg6]; simp; done) | (have h := LT4.out; rw [hg6]; exact h))
                 rw [← hW3] at hf
                 exact KEYH.out g3 g6 A0 k0 W3 hf)
          · intro gy g14 A14 k14 W14 hFF
            obtain ⟨hg14, b1214, j14, m14⟩ := hFF
            have D14 := Lib.hid (stepB D12.out b1214)
            have HM14 := Lib.hid (HM12.out.next b1214)
            have M914 := Lib.hid (M912.out.next b1214)
            have J14 := Lib.hid j14
            obtain ⟨m60, m61⟩ := M63.out.next D14.out
            obtain ⟨m140, m141⟩ := m14
            clear j14 b1214 HSB HSS
            go_wp2_with fail
            clear m60 m61 m140 m141
            refine (eqMine_same jj _ _ _ _ ys M _ HL.out (by omega) J14.out (J0.out.next D14.out)).mono ?_; rintro e w15 ⟨rfl, b15⟩
            have D15 := Lib.hid (stepB D14.out b15)
            have HM15 := Lib.hid (HM14.out.next b15)
            obtain ⟨m90, m91⟩ := M914.out.next b15
            clear b15
            go_wp2_with fail
            clear m90 m91
            refine (heldM_is jj A5 k5 M _ (by omega) HM15.out).mono ?_; rintro e w16 ⟨rfl, b16⟩
            have D16 := Lib.hid (stepB D15.out b16)
            clear b16
            go_wp2_with fail
            go_ret
            exact ⟨rfl, stepB C3.out D16.out⟩

/-! ### the row of FnExactAddAirway: the arguments are opened, the walk is met, each argument reads behind the call as before -/
namespace fnExactAddAirway
open Go.ChangeShapes Go.WideShapes Go.ChangeAt Go.RowKit Go.Joins
open Go.ChangeMaps (open_string shut_string)
set_option linter.unusedVariables false
set_option maxRecDepth 100000 in
theorem lifted (os : Os) (started : os.Started) (H : Type) (enc : TypeId × Value → H) :
    ReturnsInHanded {} Try.checked os 6 .any (Rows.fnExactAddAirwaySpec.pre6 enc Try.prog Try.f6 Rows.fnExactAddAirwayRow.domain false) (Rows.fnExactAddAirwaySpec.post enc Try.prog Try.f6 false true false false) := by
  refine returnsInHanded_of_change (C := Try.checked) own started (by kernel_rfl) Try.func6
    (ChangeSpec.witness6 (enc := enc) (C := Try.checked) false ⟨#[], #[.agg #[.int .i64 0, .slice none 0 0], .agg #[.string ByteArray.empty, .int .i64 0, .int .i64 0, .int .i64 0, .int .i64 0, .int .i64 0, .int .i64 0]], []⟩ 8 (by kernel_rfl) (by kernel_rfl) (by kernel_rfl) (by kernel_rfl)) ?_
  intro W base args ds gs before hval0 hW hcnd _
  have hval : ∀ (j : Nat) t v, Try.f6.params[j]? = some t → args[j]? = some v → Value.okWide Try.prog W .any base t v := hval0
  have hW' := hW
  obtain ⟨p, q, hA0, hV, rfl, hfz, hnd⟩ := hW
  have hA : DataW.TrodAll enc Try.prog W 0 (fun _ => true) true Try.f6.params.toList args.toList ds p := hA0
  rw [Try.params6] at hA hval
  obtain ⟨v0, vs0, d0, ds0, p0, q0, hargs, rfl, rfl, h0, r0⟩ := trodAll_cons hA
  obtain ⟨v1, vs1, d1, ds1, p1, q1, rfl, rfl, rfl, h1, r1⟩ := trodAll_cons r0
  obtain ⟨rfl, rfl, rfl⟩ := trodAll_nil r1
  obtain rfl : args = #[v0, v1] := by cases args; simp_all
  obtain ⟨rfl, rfl⟩ := trodVars_none hV
  clear hA0 hval0
  simp only [List.append_nil] at hW'
  have lt0 : ∀ x ∈ p0, x.block < W.heap.size := fun x hx => by simpa using hW'.lt x (by simp [hx])
  have k0 := h0
  have lt1 : ∀ x ∈ p1, x.block < W.heap.size := fun x hx => by simpa using hW'.lt x (by simp [hx])
  have k1 := h1
  obtain ⟨c0_0, c0_1, y0_0, y0_1, m0, rfl, rfl, rfl, hy0_0, hy0_1⟩ := open_agg2 Try.underlying24 (by kernel_rfl) (by kernel_rfl) (hval 0 24 v0 rfl rfl) h0
  obtain ⟨a0_0, e0_0, z0_0, w0_0⟩ := DataW.trod_int Try.underlying2 hy0_0
  simp only [List.cons.injEq, and_true] at e0_0; subst e0_0
  obtain ⟨A0, len0, cap0, rfl⟩ := slice_shape Try.underlying22 Try.underlying48 (by kernel_rfl) (by kernel_rfl) hy0_1
  obtain ⟨xs0, hn0, hm0, hs0, hx0⟩ := view_airs Try.underlying22 Try.underlying48 (by kernel_rfl) (by kernel_rfl) Try.underlying9 Try.underlying2 Try.underlying2 Try.underlying2 Try.underlying2 Try.underlying2 Try.underlying2 hy0_1
  obtain ⟨c1_0, c1_1, c1_2, c1_3, c1_4, c1_5, c1_6, y1_0, y1_1, y1_2, y1_3, y1_4, y1_5, y1_6, m1, rfl, rfl, rfl, hy1_0, hy1_1, hy1_2, hy1_3, hy1_4, hy1_5, hy1_6⟩ := open_agg7 Try.underlying48 (by kernel_rfl) (by kernel_rfl) (hval 1 48 v1 rfl rfl) h1
  obtain ⟨a1_0, e1_0, z1_0, w1_0⟩ := DataW.trod_string Try.underlying9 hy1_0
  simp only [List.cons.injEq, and_true] at e1_0; subst e1_0
  obtain ⟨a1_1, e1_1, z1_1, w1_1⟩ := DataW.trod_int Try.underlying2 hy1_1
  simp only [List.cons.injEq, and_true] at e1_1; subst e1_1
  obtain ⟨a1_2, e1_2, z1_2, w1_2⟩ := DataW.trod_int Try.underlying2 hy1_2
  simp only [List.cons.injEq, and_true] at e1_2; subst e1_2
  obtain ⟨a1_3, e1_3, z1_3, w1_3⟩ := DataW.trod_int Try.underlying2 hy1_3
  simp only [List.cons.injEq, and_true] at e1_3; subst e1_3
  obtain ⟨a1_4, e1_4, z1_4, w1_4⟩ := DataW.trod_int Try.underlying2 hy1_4
  simp only [List.cons.injEq, and_true] at e1_4; subst e1_4
  obtain ⟨a1_5, e1_5, z1_5, w1_5⟩ := DataW.trod_int Try.underlying2 hy1_5
  simp only [List.cons.injEq, and_true] at e1_5; subst e1_5
  obtain ⟨a1_6, e1_6, z1_6, w1_6⟩ := DataW.trod_int Try.underlying2 hy1_6
  simp only [List.cons.injEq, and_true] at e1_6; subst e1_6
  refine (law_AddAirway a0_0 A0 len0 cap0 xs0 hn0 hm0 hs0 a1_0 w1_0 a1_1 (wf_bd w1_1) a1_2 (wf_bd w1_2) a1_3 (wf_bd w1_3) a1_4 (wf_bd w1_4) a1_5 (wf_bd w1_5) a1_6 (wf_bd w1_6) W hx0).mono fun e W' ⟨he, hb⟩ => ?_
  subst he
  exact ⟨_, rfl, _, _, _, _, _, [], hW', (trodAll_cons_mk (shut_bool Try.underlying4 _) trodAll_mk0), (trodAll_cons_mk (Below.trod laidOut (by kernel_rfl) (of_decide_eq_true (by kernel_rfl)) k0 hb lt0) (trodAll_cons_mk (Below.trod laidOut (by kernel_rfl) (of_decide_eq_true (by kernel_rfl)) k1 hb lt1) trodAll_mk0)), rfl, hb.frame _, fun h => by cases h⟩

theorem proved : Rows.FnExactAddAirwaySaid :=
  OpenClaim.holds_of_wide 6 Try.f6 rfl rfl rfl rfl rfl rfl rfl ⟨rfl, rfl, rfl, rfl, rfl⟩ rfl rfl rfl rfl rfl (by kernel_rfl) Try.func6 (by kernel_rfl)
    (of_decide_eq_true (by kernel_rfl)) (by unfold Func.isWrapper; first | (rw [if_pos (by decide +kernel)]; kernel_rfl) | (rw [if_neg (by decide +kernel)]; exact ⟨rfl, rfl⟩))
    (fun os started H enc _ => lifted os started H enc)
#print axioms proved
end fnExactAddAirway
end Go.Proofs.Ytgiokjflfadeeaa
