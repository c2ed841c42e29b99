/-
  FnExactReadAir: for every text the program's ReadAir returns what the reference's returns.
-/
import Derived.Test.YtfgfoggnhjchiaaDoorReadList
import Derived.Test.YtfgfoggnhjchiaaDoorAirText
import Derived.Test.YtfgfoggnhjchiaaDoorNum
import Derived.RowKit3
import Derived.ProofKit
import Derived.OpenShut
import Derived.Lib.SmallJoins
namespace Go.Proofs.YtfgfoggnhjchiaaDoor
open Go.RowKit
set_option linter.unusedVariables false

theorem rlO_some {s : ByteArray} {ls : List Int} (h : rlO s = some ls) (hne : ls ≠ []) : listText ls = s ∧ s.size ≠ 0 ∧ IB ls := by
  unfold rlO at h
  split at h
  · injection h with h; exact absurd h.symm hne
  · split at h
    · rename_i hc
      simp only [Bool.and_eq_true, decide_eq_true_eq] at hc
      injection h with h
      subst h
      have ho : (splS 44 s).all okN = true := by
        rw [List.all_eq_true]
        intro p hp
        have := List.all_eq_true.1 hc.2 p hp
        unfold okR at this
        simp only [Bool.and_eq_true] at this
        exact this.1
      refine ⟨?_, fun hz => ?_, map_ib _⟩
      · have hf := fits_map _ ho
        unfold listText
        rw [hf, decide_eq_true hc.1, hc.2, if_pos (by simp)]
        unfold listT
        have hn := splS_ne 44 s
        rw [if_neg (by simpa using hn), List.length_map]
        exact text_map s _ rfl ho
      · rw [empty_spl 44 s hz] at ho
        simp only [List.all_cons, List.all_nil, Bool.and_true] at ho
        rw [empty_num s hz] at ho
        cases ho
    · cases h
def raO (s : ByteArray) : Option (Int × Int × Int) :=
  match rlO s with
  | some [t, p, h] => if airOk t p h then some (t, p, h) else none
  | _ => none
def airV (o : Option (Int × Int × Int)) : Value := match o with
  | some (t, p, h) => .agg #[.int .i64 t, .int .i64 p, .int .i64 h]
  | none => .agg #[.int .i64 0, .int .i64 0, .int .i64 0]
def RaPost (o : Option (Int × Int × Int)) (w : World) (e : Ending) (w' : World) : Prop := e = .returned (.tuple #[airV o, .bool o.isSome]) ∧ Below w.heap.size w w'
theorem ra_none {s : ByteArray} (h : ∀ t p h', rlO s ≠ some [t, p, h']) : raO s = none := by
  unfold raO
  split
  · rename_i t p h' e; exact absurd e (h t p h')
  · rfl
theorem ra_some {s : ByteArray} {t p h : Int} (e : rlO s = some [t, p, h]) : raO s = if airOk t p h then some (t, p, h) else none := by
  unfold raO; rw [e]
theorem three {o : Option (List Int)} (h : ∃ ls, o = some ls ∧ ls.length = 3) : ∃ t p q, o = some [t, p, q] := by
  obtain ⟨ls, rfl, hl⟩ := h
  match ls, hl with
  | [t, p, q], _ => exact ⟨t, p, q, rfl⟩
theorem l_next {w w1 : World} {b o : Nat} {t p h : Int} (hb : Below w.heap.size w w1) (hS : w.cell? ⟨b, o, none⟩ = some (.int .i64 t) ∧ w.cell? ⟨b, o + 1, none⟩ = some (.int .i64 p) ∧ w.cell? ⟨b, o + 2, none⟩ = some (.int .i64 h)) : w1.cell? ⟨b, o, none⟩ = some (.int .i64 t) ∧ w1.cell? ⟨b, o + 1, none⟩ = some (.int .i64 p) ∧ w1.cell? ⟨b, o + 2, none⟩ = some (.int .i64 h) := by
  obtain ⟨a0, a1, a2⟩ := hS
  have f : ∀ {a : Addr} {v : Value}, w.cell? a = some v → w1.cell? a = some v := fun {a v} h => (hb.cell (World.block_lt_of_cell? w a h)).trans h
  exact ⟨f a0, f a1, f a2⟩
theorem ints_three {w : World} {A : Option Addr} {t p h : Int} (hi : Ints w w.heap.size A [t, p, h]) : ∃ b o, A = some ⟨b, o, none⟩ ∧ b < w.heap.size ∧ w.cell? ⟨b, o, none⟩ = some (.int .i64 t) ∧ w.cell? ⟨b, o + 1, none⟩ = some (.int .i64 p) ∧ w.cell? ⟨b, o + 2, none⟩ = some (.int .i64 h) := by
  rcases hi with hi | ⟨b, o, h1, h2, h3⟩
  · cases hi
  · exact ⟨b, o, h1, h2, h3 0 (by simp), h3 1 (by simp), h3 2 (by simp)⟩

theorem three_cells {w : World} {b : Nat} {v0 v1 v2 x0 x1 x2 : Value} (h0 : w.cell? ⟨b, 0, none⟩ = some x0) (h1 : w.cell? ⟨b, 1, none⟩ = some x1) (h2 : w.cell? ⟨b, 2, none⟩ = some x2) :
    (w.setCell ⟨b, 0, none⟩ v0).cell? ⟨b, 0, none⟩ = some v0 ∧ ((w.setCell ⟨b, 0, none⟩ v0).setCell ⟨b, 1, none⟩ v1).cell? ⟨b, 1, none⟩ = some v1 ∧ (((w.setCell ⟨b, 0, none⟩ v0).setCell ⟨b, 1, none⟩ v1).setCell ⟨b, 2, none⟩ v2).cell? ⟨b, 2, none⟩ = some v2 := by
  obtain ⟨y1, e1⟩ := cell?_setCell_some (p := ⟨b, 0, none⟩) (x := v0) h1
  obtain ⟨y2, e2⟩ := cell?_setCell_some (p := ⟨b, 0, none⟩) (x := v0) h2
  obtain ⟨y3, e3⟩ := cell?_setCell_some (p := ⟨b, 1, none⟩) (x := v1) e2
  exact ⟨World.cell?_setCell_same _ _ _ h0, World.cell?_setCell_same _ _ _ e1, World.cell?_setCell_same _ _ _ e3⟩
structure ResA (w : World) (g : Nat) : Prop where
  r0 : ∃ x, w.cell? ⟨g, 0, none⟩ = some x
  r1 : ∃ x, w.cell? ⟨g, 1, none⟩ = some x
  r2 : ∃ x, w.cell? ⟨g, 2, none⟩ = some x
  fz : ∀ o, w.frozen? ⟨g, o, none⟩ = false
theorem ResA.next {w w' : World} {g : Nat} (h : ResA w g) (hb : Below w.heap.size w w') : ResA w' g := by
  obtain ⟨⟨x0, h0⟩, ⟨x1, h1⟩, ⟨x2, h2⟩, hf⟩ := h
  have hg : g < w.heap.size := World.block_lt_of_cell? w _ h0
  exact ⟨⟨x0, (hb.cell hg).trans h0⟩, ⟨x1, (hb.cell hg).trans h1⟩, ⟨x2, (hb.cell hg).trans h2⟩, fun o => (hb.frozen (p := ⟨g, o, none⟩) hg).trans (hf o)⟩
theorem resA_new (w : World) (t : TypeId) : ResA (w.alloc (.cells #[.int .i64 0, .int .i64 0, .int .i64 0] t)) w.heap.size :=
  ⟨⟨.int .i64 0, by simp [go_sem]⟩, ⟨.int .i64 0, by simp [go_sem]⟩, ⟨.int .i64 0, by simp [go_sem]⟩, fun o => by simp [go_sem]⟩
theorem set3_below {B : Nat} {w w' : World} {g : Nat} {v0 v1 v2 : Value} (h : Below B w w') (hg : B ≤ g) : Below B w (((w'.setCell ⟨g, 0, none⟩ v0).setCell ⟨g, 1, none⟩ v1).setCell ⟨g, 2, none⟩ v2) :=
  ((h.setCell hg _).setCell hg _).setCell hg _
theorem bAD (w : World) (o : Obj) : Below w.heap.size w (w.alloc o).drew :=
  have h := (Below.refl w.heap.size w).alloc (Nat.le_refl _) o
  ⟨h.os, h.tape, h.output, h.size, h.block⟩
theorem rl_cases (o : Option (List Int)) : (∃ t p q, o = some [t, p, q]) ∨ (∃ ls, o = some ls ∧ ls.length ≠ 3) ∨ o = none := by
  cases o with
  | none => exact .inr (.inr rfl)
  | some ls =>
    by_cases h : ls.length = 3
    · exact .inl (three ⟨ls, rfl, h⟩)
    · exact .inr (.inl ⟨ls, rfl, h⟩)
set_option maxHeartbeats 1000000 in
theorem raS_any (s : ByteArray) (w : World) (hs : s.size ≤ 1048576) : Calls Tryd.prog 75 #[.string s] w (RaPost (raO s) w) := by
  have b0 : Below w.heap.size w (w.alloc (.cells #[.int .i64 0, .int .i64 0, .int .i64 0] 37)) := (Below.refl _ _).alloc (Nat.le_refl _) _
  rcases rl_cases (rlO s) with ⟨t, p, q, e3⟩ | ⟨ls, e3, hl3⟩ | e3
  · have HR := Lib.hid (ra_some e3)
    go_enter Tryd.func75, Tryd.ntmps75
    go_wp2_with fail
    refine (rlS_any s _ hs).mono ?_; rw [e3]; rintro e w1 ⟨v, rfl, ho, b1⟩
    obtain ⟨A1, c1, ev, hi⟩ := ho.reads
    have e1 : ((some [t, p, q]).getD []).length = 3 := rfl
    rw [e1] at ev
    subst ev
    rw [show (some [t, p, q]).isSome = true from rfl]
    obtain ⟨b, o, rfl, hb, c0, c1', c2⟩ := ints_three (show Ints w1 w1.heap.size A1 [t, p, q] from hi)
    have HB := Lib.hid (stepB b0 b1)
    have RS := Lib.hid ((resA_new w 37).next b1)
    have HS := Lib.hid (show _ ∧ _ ∧ _ from ⟨c0, c1', c2⟩)
    clear ho hi b0 b1 e3 c0 c1' c2
    go_wp2_with fail
    go_region_held3 (fun w' => w'.cell? ⟨b, o, none⟩ = some (.int .i64 t) ∧ w'.cell? ⟨b, o + 1, none⟩ = some (.int .i64 p) ∧ w'.cell? ⟨b, o + 2, none⟩ = some (.int .i64 q)) (first | exact HS.out | exact l_next (bAD _ _) HS.out) (fail)
    generalize hw2 : (w1.alloc (.cells #[.int .i64 t, .int .i64 p, .int .i64 q] 37)).drew = w2
    have b2 : Below w1.heap.size w1 w2 := by rw [← hw2]; exact bAD _ _
    have d0 : w2.cell? ⟨w1.heap.size, 0, none⟩ = some (.int .i64 t) := by rw [← hw2]; simp [go_sem]
    have d1 : w2.cell? ⟨w1.heap.size, 1, none⟩ = some (.int .i64 p) := by rw [← hw2]; simp [go_sem]
    have d2 : w2.cell? ⟨w1.heap.size, 2, none⟩ = some (.int .i64 q) := by rw [← hw2]; simp [go_sem]
    have RS2 := Lib.hid (RS.out.next b2)
    have HB2 := Lib.hid (stepB HB.out b2)
    clear hw2 b2 HS
    go_wp2_with fail
    refine (okS_any _ t p q _ d0 d1 d2).mono ?_
    cases hk : airOk t p q with
    | true =>
      rintro e w3 ⟨rfl, b3⟩
      have RS3 := Lib.hid (RS2.out.next b3)
      have HB3 := Lib.hid (stepB HB2.out b3)
      have HRR := Lib.hid (show raO s = some (t, p, q) by rw [HR.out, hk, if_pos rfl])
      have f0 : w3.cell? ⟨w1.heap.size, 0, none⟩ = some (.int .i64 t) := (b3.cell (World.block_lt_of_cell? w2 _ d0)).trans d0
      have f1 : w3.cell? ⟨w1.heap.size, 1, none⟩ = some (.int .i64 p) := (b3.cell (World.block_lt_of_cell? w2 _ d1)).trans d1
      have f2 : w3.cell? ⟨w1.heap.size, 2, none⟩ = some (.int .i64 q) := (b3.cell (World.block_lt_of_cell? w2 _ d2)).trans d2
      clear d0 d1 d2 b3
      obtain ⟨⟨x0, r0⟩, ⟨x1, r1⟩, ⟨x2, r2⟩, hfz⟩ := RS3.out
      go_wp2_with fail
      obtain ⟨g0, g1, g2⟩ := three_cells r0 r1 r2 (v0 := .int .i64 t) (v1 := .int .i64 p) (v2 := .int .i64 q)
      simp [bodyPost, results, Tryd.results75, go_sem, g0, g1, g2]
      exact ⟨by rw [HRR.out]; exact rfl, set3_below HB3.out (Nat.le_refl _)⟩
    | false =>
      rintro e w3 ⟨rfl, b3⟩
      have RS3 := Lib.hid (RS2.out.next b3)
      have HB3 := Lib.hid (stepB HB2.out b3)
      have HRR := Lib.hid (show raO s = none by rw [HR.out, hk]; rfl)
      clear d0 d1 d2 b3
      obtain ⟨⟨x0, r0⟩, ⟨x1, r1⟩, ⟨x2, r2⟩, hfz⟩ := RS3.out
      go_wp2_with fail
      obtain ⟨g0, g1, g2⟩ := three_cells r0 r1 r2 (v0 := .int .i64 0) (v1 := .int .i64 0) (v2 := .int .i64 0)
      simp [bodyPost, results, Tryd.results75, go_sem, g0, g1, g2]
      exact ⟨by rw [HRR.out]; exact rfl, set3_below HB3.out (Nat.le_refl _)⟩
  · have HRR := Lib.hid (show raO s = none from ra_none (fun t p h e => hl3 (by rw [e3] at e; injection e with e; rw [e]; rfl)))
    have hl3' : ((ls.length : Int) == 3) = false := by simp; omega
    go_enter Tryd.func75, Tryd.ntmps75
    go_wp2_with fail
    refine (rlS_any s _ hs).mono ?_; rw [e3]; rintro e w1 ⟨v, rfl, ho, b1⟩
    obtain ⟨A1, c1, ev, hi⟩ := ho.reads
    rw [show (some ls).getD [] = ls from rfl] at ev
    subst ev
    rw [show (some ls).isSome = true from rfl]
    have HB := Lib.hid (stepB b0 b1)
    obtain ⟨⟨x0, r0⟩, ⟨x1, r1⟩, ⟨x2, r2⟩, hfz⟩ := (resA_new w 37).next b1
    clear ho hi b0 b1 e3
    go_wp2_with fail
    obtain ⟨g0, g1, g2⟩ := three_cells r0 r1 r2 (v0 := .int .i64 0) (v1 := .int .i64 0) (v2 := .int .i64 0)
    simp [bodyPost, results, Tryd.results75, go_sem, g0, g1, g2]
    exact ⟨by rw [HRR.out]; exact rfl, set3_below HB.out (Nat.le_refl _)⟩
  · have HRR := Lib.hid (show raO s = none from ra_none (fun t p h e => by rw [e3] at e; cases e))
    go_enter Tryd.func75, Tryd.ntmps75
    go_wp2_with fail
    refine (rlS_any s _ hs).mono ?_; rw [e3]; rintro e w1 ⟨v, rfl, ho, b1⟩
    obtain ⟨A1, c1, ev, hi⟩ := ho.reads
    subst ev
    rw [show (none : Option (List Int)).isSome = false from rfl]
    have HB := Lib.hid (stepB b0 b1)
    obtain ⟨⟨x0, r0⟩, ⟨x1, r1⟩, ⟨x2, r2⟩, hfz⟩ := (resA_new w 37).next b1
    clear ho hi b0 b1 e3
    go_wp2_with fail
    obtain ⟨g0, g1, g2⟩ := three_cells r0 r1 r2 (v0 := .int .i64 0) (v1 := .int .i64 0) (v2 := .int .i64 0)
    simp [bodyPost, results, Tryd.results75, go_sem, g0, g1, g2]
    exact ⟨by rw [HRR.out]; exact rfl, set3_below HB.out (Nat.le_refl _)⟩

set_option maxHeartbeats 1000000 in
theorem raT_any (s : ByteArray) (w : World) (hs : s.size ≤ 1048576) : Calls Tryd.prog 42 #[.string s] w (RaPost (raO s) w) := by
  have b0 : Below w.heap.size w (w.alloc (.cells #[.int .i64 0, .int .i64 0, .int .i64 0] 37)) := (Below.refl _ _).alloc (Nat.le_refl _) _
  go_enter Tryd.func42, Tryd.ntmps42
  go_wp2_with fail
  refine (raS_any s _ hs).mono ?_
  cases hr : raO s with
  | none =>
    rintro e w1 ⟨rfl, b1⟩
    have HB := Lib.hid (stepB b0 b1)
    obtain ⟨⟨x0, r0⟩, ⟨x1, r1⟩, ⟨x2, r2⟩, hfz⟩ := (resA_new w 37).next b1
    clear b0 b1
    dsimp only [airV, Option.isSome]
    go_wp2_with fail
    obtain ⟨g0, g1, g2⟩ := three_cells r0 r1 r2 (v0 := .int .i64 0) (v1 := .int .i64 0) (v2 := .int .i64 0)
    simp [bodyPost, results, Tryd.results42, go_sem, g0, g1, g2]
    exact ⟨by rw [hr]; exact rfl, set3_below HB.out (Nat.le_refl _)⟩
  | some x =>
    obtain ⟨t, p, q⟩ := x
    rintro e w1 ⟨rfl, b1⟩
    have HB := Lib.hid (stepB b0 b1)
    obtain ⟨⟨x0, r0⟩, ⟨x1, r1⟩, ⟨x2, r2⟩, hfz⟩ := (resA_new w 37).next b1
    clear b0 b1
    dsimp only [airV, Option.isSome]
    go_wp2_with fail
    obtain ⟨g0, g1, g2⟩ := three_cells r0 r1 r2 (v0 := .int .i64 t) (v1 := .int .i64 p) (v2 := .int .i64 q)
    simp [bodyPost, results, Tryd.results42, go_sem, g0, g1, g2]
    exact ⟨by rw [hr]; exact rfl, set3_below HB.out (Nat.le_refl _)⟩

def RnPost (s : ByteArray) (w : World) (e : Ending) (w' : World) : Prop :=
  ∃ b o c B t p q, e = .returned (.tuple #[.slice (some ⟨b, o, none⟩) 3 c, .bool B]) ∧ (w'.cell? ⟨b, o, none⟩ = some (.int .i64 t) ∧ w'.cell? ⟨b, o + 1, none⟩ = some (.int .i64 p) ∧ w'.cell? ⟨b, o + 2, none⟩ = some (.int .i64 q)) ∧
    (B = true → rlO s = some [t, p, q]) ∧ (B = false → raO s = none) ∧ Below w.heap.size w w'
theorem rn_zero {s : ByteArray} {w w1 : World} {c : Nat} (t0 : TypeId) (h : raO s = none) (b1 : Below w.heap.size w w1) :
    RnPost s w (.returned (.tuple #[.slice (some ⟨w1.heap.size, 0, none⟩) 3 c, .bool false])) (w1.alloc (.cells #[.int .i64 0, .int .i64 0, .int .i64 0] t0)) :=
  ⟨_, 0, _, false, 0, 0, 0, rfl, ⟨by simp [go_sem], by simp [go_sem], by simp [go_sem]⟩, (fun e => by cases e), fun _ => h, b1.alloc b1.size _⟩
theorem mk3 (w : World) : (Instr.makeSlice 29 (.int .i64 3) (.int .i64 3)).run Tryd.prog w = .ok (.slice (some ⟨w.heap.size, 0, none⟩) 3 3) (w.alloc (.cells #[.int .i64 0, .int .i64 0, .int .i64 0] 2)) := by kernel_rfl
set_option maxHeartbeats 1000000 in
theorem rn_any (s : ByteArray) (w : World) (hs : s.size ≤ 1048576) (he : Env7 w) : Calls Tryd.prog 76 #[.string s, .int .i64 3] w (RnPost s w) := by
  rcases rl_cases (rlO s) with ⟨t, p, q, e3⟩ | ⟨ls, e3, hl3⟩ | e3
  · have HR := Lib.hid e3
    go_enter Tryd.func76, Tryd.ntmps76
    go_wp2_with fail
    refine (rlP_any s _ hs he).mono ?_; rw [e3]; rintro e w1 ⟨v, rfl, ho, b1⟩
    obtain ⟨A1, c1, ev, hi⟩ := ho.reads
    have e1 : ((some [t, p, q]).getD []).length = 3 := rfl
    rw [e1] at ev
    subst ev
    rw [show (some [t, p, q]).isSome = true from rfl]
    obtain ⟨b, o, rfl, hb, c0, c1', c2⟩ := ints_three (show Ints w1 w1.heap.size A1 [t, p, q] from hi)
    have HB := Lib.hid b1
    have HS := Lib.hid (show _ ∧ _ ∧ _ from ⟨c0, c1', c2⟩)
    clear ho hi b1 e3 c0 c1' c2
    go_wp2_with fail
    go_ret2
    exact ⟨b, o, _, true, t, p, q, rfl, HS.out, fun _ => HR.out, (fun e => by cases e), HB.out⟩
  · have HRR := Lib.hid (show raO s = none from ra_none (fun t p h e => hl3 (by rw [e3] at e; injection e with e; rw [e]; rfl)))
    have hl3' : ((ls.length : Int) == 3) = false := by simp; omega
    go_enter Tryd.func76, Tryd.ntmps76
    go_wp2_with fail
    refine (rlP_any s _ hs he).mono ?_; rw [e3]; rintro e w1 ⟨v, rfl, ho, b1⟩
    obtain ⟨A1, c1, ev, hi⟩ := ho.reads
    rw [show (some ls).getD [] = ls from rfl] at ev
    subst ev
    rw [show (some ls).isSome = true from rfl]
    have HB := Lib.hid b1
    clear ho hi b1 e3
    have hmk := mk3
    go_wp2_with fail
    go_ret2
    exact rn_zero _ HRR.out HB.out
  · have HRR := Lib.hid (show raO s = none from ra_none (fun t p h e => by rw [e3] at e; cases e))
    go_enter Tryd.func76, Tryd.ntmps76
    go_wp2_with fail
    refine (rlP_any s _ hs he).mono ?_; rw [e3]; rintro e w1 ⟨v, rfl, ho, b1⟩
    obtain ⟨A1, c1, ev, hi⟩ := ho.reads
    subst ev
    rw [show (none : Option (List Int)).isSome = false from rfl]
    have HB := Lib.hid b1
    clear ho hi b1 e3
    have hmk := mk3
    go_wp2_with fail
    go_ret2
    exact rn_zero _ HRR.out HB.out
theorem air_eq {s : ByteArray} {t p q : Int} (e : rlO s = some [t, p, q]) : (airOk t p q = true → airT t p q = s) ∧ (airOk t p q = false → airT t p q ≠ s) := by
  obtain ⟨h1, h2, h3⟩ := rlO_some e (by simp)
  refine ⟨fun h => ?_, fun h => ?_⟩
  · unfold airT; rw [if_pos h, ← (air_fits h).1]; exact h1
  · unfold airT; rw [if_neg (by rw [h]; simp)]; intro hh; subst hh; exact h2 rfl
theorem bD (w : World) (o : Obj) : Below w.heap.size w (w.alloc o).drew := bAD w o

set_option maxHeartbeats 1000000 in
theorem raP_any (s : ByteArray) (w : World) (hs : s.size ≤ 1048576) (he : Env7 w) : Calls Tryd.prog 43 #[.string s] w (RaPost (raO s) w) := by
  have b0 : Below w.heap.size w (w.alloc (.cells #[.int .i64 0, .int .i64 0, .int .i64 0] 37)) := (Below.refl _ _).alloc (Nat.le_refl _) _
  have HEV := Lib.hid he
  go_enter Tryd.func43, Tryd.ntmps43
  go_wp2_with fail
  refine (rn_any s _ hs (he.step b0)).mono ?_
  rintro e w1 ⟨b, o, c, B, t, p, q, rfl, hS, hT, hF, b1⟩
  have HB := Lib.hid (stepB b0 b1)
  have RS := Lib.hid ((resA_new w 37).next b1)
  have HS := Lib.hid hS
  have HT := Lib.hid hT
  have HF := Lib.hid hF
  clear hS hT hF b0 b1 he
  go_wp2_with fail
  go_region_held3 (fun w' => w'.cell? ⟨b, o, none⟩ = some (.int .i64 t) ∧ w'.cell? ⟨b, o + 1, none⟩ = some (.int .i64 p) ∧ w'.cell? ⟨b, o + 2, none⟩ = some (.int .i64 q)) (first | exact HS.out | exact l_next (bAD _ _) HS.out) (fail)
  generalize hw2 : (w1.alloc (.cells #[.int .i64 t, .int .i64 p, .int .i64 q] 37)).drew = w2
  have b2 : Below w1.heap.size w1 w2 := by rw [← hw2]; exact bAD _ _
  have d0 : w2.cell? ⟨w1.heap.size, 0, none⟩ = some (.int .i64 t) := by rw [← hw2]; simp [go_sem]
  have d1 : w2.cell? ⟨w1.heap.size, 1, none⟩ = some (.int .i64 p) := by rw [← hw2]; simp [go_sem]
  have d2 : w2.cell? ⟨w1.heap.size, 2, none⟩ = some (.int .i64 q) := by rw [← hw2]; simp [go_sem]
  have RS2 := Lib.hid (RS.out.next b2)
  have HB2 := Lib.hid (stepB HB.out b2)
  have HE2 := Lib.hid (HEV.out.step HB2.out)
  clear hw2 b2 HS
  cases B with
  | false =>
    have HRR := Lib.hid (HF.out rfl)
    obtain ⟨⟨x0, r0⟩, ⟨x1, r1⟩, ⟨x2, r2⟩, hfz⟩ := RS2.out
    go_wp2_with fail
    obtain ⟨g0, g1, g2⟩ := three_cells r0 r1 r2 (v0 := .int .i64 0) (v1 := .int .i64 0) (v2 := .int .i64 0)
    simp [bodyPost, results, Tryd.results43, go_sem, g0, g1, g2]
    exact ⟨by rw [HRR.out]; exact rfl, set3_below HB2.out (Nat.le_refl _)⟩
  | true =>
    have HRL := Lib.hid (HT.out rfl)
    go_wp2_with fail
    refine (atP_any t p q _ HE2.out.env.pow).mono ?_
    rintro e w3 ⟨rfl, b3⟩
    have RS3 := Lib.hid (RS2.out.next b3)
    have HB3 := Lib.hid (stepB HB2.out b3)
    have f0 : w3.cell? ⟨w1.heap.size, 0, none⟩ = some (.int .i64 t) := (b3.cell (World.block_lt_of_cell? w2 _ d0)).trans d0
    have f1 : w3.cell? ⟨w1.heap.size, 1, none⟩ = some (.int .i64 p) := (b3.cell (World.block_lt_of_cell? w2 _ d1)).trans d1
    have f2 : w3.cell? ⟨w1.heap.size, 2, none⟩ = some (.int .i64 q) := (b3.cell (World.block_lt_of_cell? w2 _ d2)).trans d2
    clear d0 d1 d2 b3
    obtain ⟨⟨x0, r0⟩, ⟨x1, r1⟩, ⟨x2, r2⟩, hfz⟩ := RS3.out
    cases hk : airOk t p q with
    | true =>
      have HRR := Lib.hid (show raO s = some (t, p, q) by rw [ra_some HRL.out, hk, if_pos rfl])
      have heq : ((airT t p q).toList == s.toList) = true := by rw [(air_eq HRL.out).1 hk]; exact beq_self_eq_true _
      clear hk
      go_wp2_with fail
      obtain ⟨g0, g1, g2⟩ := three_cells r0 r1 r2 (v0 := .int .i64 t) (v1 := .int .i64 p) (v2 := .int .i64 q)
      simp [bodyPost, results, Tryd.results43, go_sem, g0, g1, g2]
      exact ⟨by rw [HRR.out]; exact rfl, set3_below HB3.out (Nat.le_refl _)⟩
    | false =>
      have HRR := Lib.hid (show raO s = none by rw [ra_some HRL.out, hk]; rfl)
      have heq : ((airT t p q).toList == s.toList) = false := beq_eq_false_iff_ne.2 (fun h => (air_eq HRL.out).2 hk (by
        rw [ByteArray.toList_eq, ByteArray.toList_eq] at h
        rw [← toB_of (airT t p q), ← toB_of s, h]))
      clear hk
      go_wp2_with fail
      obtain ⟨g0, g1, g2⟩ := three_cells r0 r1 r2 (v0 := .int .i64 0) (v1 := .int .i64 0) (v2 := .int .i64 0)
      simp [bodyPost, results, Tryd.results43, go_sem, g0, g1, g2]
      exact ⟨by rw [HRR.out]; exact rfl, set3_below HB3.out (Nat.le_refl _)⟩

theorem eqAir_same (t p q : Int) (w : World) :
    Calls Tryd.prog 44 #[.agg #[.int .i64 t, .int .i64 p, .int .i64 q], .agg #[.int .i64 t, .int .i64 p, .int .i64 q]] w fun e w' => e = .returned (.bool true) ∧ Below w.heap.size w w' := by
  go_enter Tryd.func44, Tryd.ntmps44
  go_wp2_with fail
  go_ret
  exact ⟨rfl, by ((repeat (first | with_reducible exact Below.refl _ _ | with_reducible apply below_drewN | with_reducible apply Below.drew | (with_reducible refine Below.alloc ?_ ?_ _) | (with_reducible refine Below.setCell ?_ ?_ _) | (with_reducible refine Below.trans ?_ (hb4.mono ?_)) | (with_reducible refine Below.trans ?_ (hb3.mono ?_)) | (with_reducible refine Below.trans ?_ (hb2.mono ?_)))); all_goals (first | (simp <;> omega) | (have h2s := hb2.size; (try simp at h2s); (try simp); omega) | (have h2s := hb2.size; have h3s := hb3.size; (try simp at h2s); (try simp at h3s); (try simp); omega) | (have h2s := hb2.size; have h3s := hb3.size; have h4s := hb4.size; (try simp at h2s); (try simp at h3s); (try simp at h4s); (try simp); omega)))⟩
theorem airV_is (o : Option (Int × Int × Int)) : ∃ t p q, airV o = .agg #[.int .i64 t, .int .i64 p, .int .i64 q] := by
  cases o with
  | none => exact ⟨0, 0, 0, rfl⟩
  | some x => exact ⟨x.1, x.2.1, x.2.2, rfl⟩
set_option maxHeartbeats 1000000 in
theorem law_ReadAir (a : ByteArray) (hm : a.size ≤ maxLen) (w : World) (he : Env7 w) :
    Calls Tryd.prog 11 #[.string a] w fun e w' => e = .returned (.bool true) ∧ Below w.heap.size w w' := by
  have HE := Lib.hid he
  have HM := Lib.hid hm
  unfold maxLen at hm
  clear he
  by_cases h20 : a.size ≤ 1048576
  · have h20i : ¬ (1048576 : Int) < a.size := by omega
    go_enter Tryd.func11, Tryd.ntmps11
    go_wp2_with fail
    refine (raT_any a _ h20).mono ?_; rintro e w1 ⟨rfl, b1⟩
    obtain ⟨t, p, q, ev⟩ := airV_is (raO a)
    rw [ev]
    have HB1 := Lib.hid (b1.alloc b1.size (.cells #[.int .i64 t, .int .i64 p, .int .i64 q] 37))
    have HE1 := Lib.hid (HE.out.step HB1.out)
    clear b1
    go_wp2_with fail
    refine (raP_any a _ h20 HE1.out).mono ?_; rintro e w2 ⟨rfl, b2⟩
    rw [ev]
    have d0 := (b2.cell (World.block_lt_of_cell? _ _ (show (w1.alloc (.cells #[.int .i64 t, .int .i64 p, .int .i64 q] 37)).cell? ⟨w1.heap.size, 0, none⟩ = some (.int .i64 t) by simp [go_sem]))).trans (show (w1.alloc (.cells #[.int .i64 t, .int .i64 p, .int .i64 q] 37)).cell? ⟨w1.heap.size, 0, none⟩ = some (.int .i64 t) by simp [go_sem])
    have d1 := (b2.cell (World.block_lt_of_cell? _ _ (show (w1.alloc (.cells #[.int .i64 t, .int .i64 p, .int .i64 q] 37)).cell? ⟨w1.heap.size, 1, none⟩ = some (.int .i64 p) by simp [go_sem]))).trans (show (w1.alloc (.cells #[.int .i64 t, .int .i64 p, .int .i64 q] 37)).cell? ⟨w1.heap.size, 1, none⟩ = some (.int .i64 p) by simp [go_sem])
    have d2 := (b2.cell (World.block_lt_of_cell? _ _ (show (w1.alloc (.cells #[.int .i64 t, .int .i64 p, .int .i64 q] 37)).cell? ⟨w1.heap.size, 2, none⟩ = some (.int .i64 q) by simp [go_sem]))).trans (show (w1.alloc (.cells #[.int .i64 t, .int .i64 p, .int .i64 q] 37)).cell? ⟨w1.heap.size, 2, none⟩ = some (.int .i64 q) by simp [go_sem])
    have hz : w1.heap.size < w2.heap.size := World.block_lt_of_cell? _ _ d0
    have hzn : w1.heap.size ≠ w2.heap.size := by omega
    have HB2 := Lib.hid (stepB HB1.out b2)
    clear b2
    generalize (raO a).isSome = B
    go_wp2_with fail
    refine (eqAir_same t p q _).mono ?_; rintro e w3 ⟨rfl, b3⟩
    have HB3 := Lib.hid (stepB (HB2.out.alloc HB2.out.size _) b3)
    clear b3
    go_wp2_with fail
    go_ret
    exact ⟨rfl, HB3.out⟩
  · have h20i : (1048576 : Int) < a.size := by omega
    go_enter Tryd.func11, Tryd.ntmps11
    go_wp2_with fail
    go_ret
    exact ⟨rfl, Below.refl _ _⟩

/-! ### the row of FnExactReadAir: the arguments are opened, the walk is met, each argument reads behind the call as before -/
namespace fnExactReadAir
open Go.ChangeShapes Go.WideShapes Go.ChangeAt Go.RowKit Go.Joins
open Go.ChangeMaps (open_string shut_string)
set_option linter.unusedVariables false
set_option maxRecDepth 100000 in
theorem lifted (os : Os) (started : os.Started) (H : Type) (enc : TypeId × Value → H) :
    ReturnsInHanded {} Tryd.checked os 11 .any (fun w args => (Rows.fnExactReadAirSpec.pre enc Tryd.prog Tryd.f11 [] false w args ∧ laidMetH Tryd.prog Rows.fnExactReadAirRow.laid w) ∧ sizedMet enc Tryd.prog Tryd.f11 (OpenSpec.ofChange Rows.fnExactReadAirSpec) false w args) (Rows.fnExactReadAirSpec.post enc Tryd.prog Tryd.f11 false true false false) := by
  refine returns_both (C := Tryd.checked) (X := fun w _ => laidMetH Tryd.prog Rows.fnExactReadAirRow.laid w) (fun _ _ _ hh h => h.of_heap hh) own started (by kernel_rfl) Tryd.func11
    (ChangeSpec.witness_shaped (enc := enc) (C := Tryd.checked) (os := os) (X := fun w _ => laidMetH Tryd.prog Rows.fnExactReadAirRow.laid w) false (World.laidAll Tryd.prog os laid7) #[.string ByteArray.empty] 8 (World.laidAll_os _ _ _) (World.shaped_of_ZipB (by kernel_rfl) (by kernel_rfl)) (by kernel_rfl) (by kernel_rfl) (by kernel_rfl) (env7_door os _)) ?_
  intro W base args ds gs before hval0 hW hSh hL
  have hval : ∀ (j : Nat) t v, Tryd.f11.params[j]? = some t → args[j]? = some v → Value.okWide Tryd.prog W .any base t v := hval0
  have hW' := hW
  obtain ⟨p, q, hA0, hV, rfl, hfz, hnd⟩ := hW
  have hA : DataW.TrodAll enc Tryd.prog W 0 (fun _ => true) true Tryd.f11.params.toList args.toList ds p := hA0
  rw [Tryd.params11] at hA hval
  obtain ⟨v0, vs0, d0, ds0, p0, q0, hargs, rfl, rfl, h0, r0⟩ := trodAll_cons hA
  obtain ⟨rfl, rfl, rfl⟩ := trodAll_nil r0
  obtain rfl : args = #[v0] := by cases args; simp_all
  obtain ⟨rfl, rfl⟩ := trodVars_none hV
  clear hA0 hval0
  simp only [List.append_nil] at hW'
  have lt0 : ∀ x ∈ p0, x.block < W.heap.size := fun x hx => by simpa using hW'.lt x (by simp [hx])
  have k0 := h0
  obtain ⟨a0, rfl, rfl, rfl, w0⟩ := open_string Tryd.underlying9 (hval 0 9 v0 rfl rfl) h0
  refine (law_ReadAir a0 w0 W (env7 hL hSh)).mono fun e W' ⟨he, hb⟩ => ?_
  subst he
  exact ⟨_, rfl, _, _, _, _, _, [], hW', (trodAll_cons_mk (shut_bool Tryd.underlying4 _) trodAll_mk0), (trodAll_cons_mk (Below.trod laidOut (by kernel_rfl) (of_decide_eq_true (by kernel_rfl)) k0 hb lt0) trodAll_mk0), rfl, hb.frame _, fun h => by cases h⟩

theorem proved : Rows.FnExactReadAirSaid :=
  OpenClaim.holds_of_wide 11 Tryd.f11 rfl rfl rfl rfl rfl rfl rfl ⟨rfl, rfl, rfl, rfl, rfl⟩ rfl rfl rfl rfl rfl (by kernel_rfl) Tryd.func11 (by kernel_rfl)
    (of_decide_eq_true (by kernel_rfl)) (by unfold Func.isWrapper; first | (rw [if_pos (by decide +kernel)]; kernel_rfl) | (rw [if_neg (by decide +kernel)]; exact ⟨rfl, rfl⟩))
    (fun os started H enc _ => lifted os started H enc)
theorem card : Rows.FnExactReadAirCardSaid :=
  Claim7.holds_tied_plain_at .later [] _ true Rows.fnExactReadAirCard.stood.harness Rows.fnExactReadAirCard.stood.looks
    proved (fun _ h => by cases h) (by kernel_rfl) (fun _ h => by cases h) fnExactReadAir_row_tie rfl ⟨rfl, rfl⟩ (by kernel_rfl) rfl
    (fun f fn hf hfn => by
      obtain rfl : f = 11 := Option.some.inj ((show Tryd.prog.funcNamed "loop.example/g01021/laws.FnExactReadAir" = some 11 by kernel_rfl).symm.trans hf) |>.symm
      obtain rfl : fn = Tryd.f11 := (Option.some.inj (Tryd.func11.symm.trans hfn)).symm
      exact ⟨by kernel_rfl, fun j t ht => by
        rw [Tryd.params11] at ht
        have hm : t ∈ [9] := by simpa using Array.mem_of_getElem? ht
        have hall : ([9].all fun u => !Tryd.prog.wantsStandIn u) = true := by kernel_rfl
        exact (show Tryd.prog.wantsStandIn t = false by simpa using List.all_eq_true.1 hall t hm)⟩)
    (by kernel_rfl)
#print axioms card
end fnExactReadAir
end Go.Proofs.YtfgfoggnhjchiaaDoor
