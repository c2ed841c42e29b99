/-
  FnExactReadAirway: for every text the program's ReadAirway returns what the reference's returns.
-/
import Derived.Test.YtcfcmpblemagiaaGreatDoorReadWayT
import Derived.Test.YtcfcmpblemagiaaGreatDoorShelfC
import Derived.Test.YtcfcmpblemagiaaGreatDoorNum
import Derived.RowKit3
import Derived.ProofKit
import Derived.OpenShut
import Derived.Lib.SmallJoins
namespace Go.Proofs.YtcfcmpblemagiaaGreatDoor
open Go.RowKit
set_option linter.unusedVariables false

theorem seven_cells {w : World} {b : Nat} {v0 v1 v2 v3 v4 v5 v6 x0 x1 x2 x3 x4 x5 x6 : Value} (h0 : w.cell? ⟨b, 0, none⟩ = some x0) (h1 : w.cell? ⟨b, 1, none⟩ = some x1) (h2 : w.cell? ⟨b, 2, none⟩ = some x2) (h3 : w.cell? ⟨b, 3, none⟩ = some x3) (h4 : w.cell? ⟨b, 4, none⟩ = some x4) (h5 : w.cell? ⟨b, 5, none⟩ = some x5) (h6 : w.cell? ⟨b, 6, none⟩ = some x6) :
    (w.setCell ⟨b, 0, none⟩ v0).cell? ⟨b, 0, none⟩ = some v0 ∧ ((w.setCell ⟨b, 0, none⟩ v0).setCell ⟨b, 1, none⟩ v1).cell? ⟨b, 1, none⟩ = some v1 ∧ (((w.setCell ⟨b, 0, none⟩ v0).setCell ⟨b, 1, none⟩ v1).setCell ⟨b, 2, none⟩ v2).cell? ⟨b, 2, none⟩ = some v2 ∧ ((((w.setCell ⟨b, 0, none⟩ v0).setCell ⟨b, 1, none⟩ v1).setCell ⟨b, 2, none⟩ v2).setCell ⟨b, 3, none⟩ v3).cell? ⟨b, 3, none⟩ = some v3 ∧ (((((w.setCell ⟨b, 0, none⟩ v0).setCell ⟨b, 1, none⟩ v1).setCell ⟨b, 2, none⟩ v2).setCell ⟨b, 3, none⟩ v3).setCell ⟨b, 4, none⟩ v4).cell? ⟨b, 4, none⟩ = some v4 ∧ ((((((w.setCell ⟨b, 0, none⟩ v0).setCell ⟨b, 1, none⟩ v1).setCell ⟨b, 2, none⟩ v2).setCell ⟨b, 3, none⟩ v3).setCell ⟨b, 4, none⟩ v4).setCell ⟨b, 5, none⟩ v5).cell? ⟨b, 5, none⟩ = some v5 ∧ (((((((w.setCell ⟨b, 0, none⟩ v0).setCell ⟨b, 1, none⟩ v1).setCell ⟨b, 2, none⟩ v2).setCell ⟨b, 3, none⟩ v3).setCell ⟨b, 4, none⟩ v4).setCell ⟨b, 5, none⟩ v5).setCell ⟨b, 6, none⟩ v6).cell? ⟨b, 6, none⟩ = some v6 := by
  obtain ⟨y1_1, e1_1⟩ := cell?_setCell_some (p := ⟨b, 0, none⟩) (x := v0) h1
  obtain ⟨y1_2, e1_2⟩ := cell?_setCell_some (p := ⟨b, 0, none⟩) (x := v0) h2
  obtain ⟨y1_3, e1_3⟩ := cell?_setCell_some (p := ⟨b, 0, none⟩) (x := v0) h3
  obtain ⟨y1_4, e1_4⟩ := cell?_setCell_some (p := ⟨b, 0, none⟩) (x := v0) h4
  obtain ⟨y1_5, e1_5⟩ := cell?_setCell_some (p := ⟨b, 0, none⟩) (x := v0) h5
  obtain ⟨y1_6, e1_6⟩ := cell?_setCell_some (p := ⟨b, 0, none⟩) (x := v0) h6
  obtain ⟨y2_2, e2_2⟩ := cell?_setCell_some (p := ⟨b, 1, none⟩) (x := v1) e1_2
  obtain ⟨y2_3, e2_3⟩ := cell?_setCell_some (p := ⟨b, 1, none⟩) (x := v1) e1_3
  obtain ⟨y2_4, e2_4⟩ := cell?_setCell_some (p := ⟨b, 1, none⟩) (x := v1) e1_4
  obtain ⟨y2_5, e2_5⟩ := cell?_setCell_some (p := ⟨b, 1, none⟩) (x := v1) e1_5
  obtain ⟨y2_6, e2_6⟩ := cell?_setCell_some (p := ⟨b, 1, none⟩) (x := v1) e1_6
  obtain ⟨y3_3, e3_3⟩ := cell?_setCell_some (p := ⟨b, 2, none⟩) (x := v2) e2_3
  obtain ⟨y3_4, e3_4⟩ := cell?_setCell_some (p := ⟨b, 2, none⟩) (x := v2) e2_4
  obtain ⟨y3_5, e3_5⟩ := cell?_setCell_some (p := ⟨b, 2, none⟩) (x := v2) e2_5
  obtain ⟨y3_6, e3_6⟩ := cell?_setCell_some (p := ⟨b, 2, none⟩) (x := v2) e2_6
  obtain ⟨y4_4, e4_4⟩ := cell?_setCell_some (p := ⟨b, 3, none⟩) (x := v3) e3_4
  obtain ⟨y4_5, e4_5⟩ := cell?_setCell_some (p := ⟨b, 3, none⟩) (x := v3) e3_5
  obtain ⟨y4_6, e4_6⟩ := cell?_setCell_some (p := ⟨b, 3, none⟩) (x := v3) e3_6
  obtain ⟨y5_5, e5_5⟩ := cell?_setCell_some (p := ⟨b, 4, none⟩) (x := v4) e4_5
  obtain ⟨y5_6, e5_6⟩ := cell?_setCell_some (p := ⟨b, 4, none⟩) (x := v4) e4_6
  obtain ⟨y6_6, e6_6⟩ := cell?_setCell_some (p := ⟨b, 5, none⟩) (x := v5) e5_6
  exact ⟨World.cell?_setCell_same _ _ _ h0, World.cell?_setCell_same _ _ _ e1_1, World.cell?_setCell_same _ _ _ e2_2, World.cell?_setCell_same _ _ _ e3_3, World.cell?_setCell_same _ _ _ e4_4, World.cell?_setCell_same _ _ _ e5_5, World.cell?_setCell_same _ _ _ e6_6⟩
structure ResW (w : World) (g : Nat) : Prop where
  r0 : ∃ x, w.cell? ⟨g, 0, none⟩ = some x
  r1 : ∃ x, w.cell? ⟨g, 1, none⟩ = some x
  r2 : ∃ x, w.cell? ⟨g, 2, none⟩ = some x
  r3 : ∃ x, w.cell? ⟨g, 3, none⟩ = some x
  r4 : ∃ x, w.cell? ⟨g, 4, none⟩ = some x
  r5 : ∃ x, w.cell? ⟨g, 5, none⟩ = some x
  r6 : ∃ x, w.cell? ⟨g, 6, none⟩ = some x
  fz : ∀ o, w.frozen? ⟨g, o, none⟩ = false
theorem ResW.next {w w' : World} {g : Nat} (h : ResW w g) (hb : Below w.heap.size w w') : ResW w' g := by
  obtain ⟨⟨x0, h0⟩, ⟨x1, h1⟩, ⟨x2, h2⟩, ⟨x3, h3⟩, ⟨x4, h4⟩, ⟨x5, h5⟩, ⟨x6, h6⟩, hf⟩ := h
  have hg : g < w.heap.size := World.block_lt_of_cell? w _ h0
  exact ⟨⟨x0, (hb.cell hg).trans h0⟩, ⟨x1, (hb.cell hg).trans h1⟩, ⟨x2, (hb.cell hg).trans h2⟩, ⟨x3, (hb.cell hg).trans h3⟩, ⟨x4, (hb.cell hg).trans h4⟩, ⟨x5, (hb.cell hg).trans h5⟩, ⟨x6, (hb.cell hg).trans h6⟩, fun o => (hb.frozen (p := ⟨g, o, none⟩) hg).trans (hf o)⟩
theorem resW_new (w : World) (t : TypeId) : ResW (w.alloc (.cells #[.string ⟨#[]⟩, .int .i64 0, .int .i64 0, .int .i64 0, .int .i64 0, .int .i64 0, .int .i64 0] t)) w.heap.size :=
  ⟨⟨.string ⟨#[]⟩, by simp [go_sem]⟩, ⟨.int .i64 0, by simp [go_sem]⟩, ⟨.int .i64 0, by simp [go_sem]⟩, ⟨.int .i64 0, by simp [go_sem]⟩, ⟨.int .i64 0, by simp [go_sem]⟩, ⟨.int .i64 0, by simp [go_sem]⟩, ⟨.int .i64 0, by simp [go_sem]⟩, fun o => by simp [go_sem]⟩
theorem set7_below {B : Nat} {w w' : World} {g : Nat} {v0 v1 v2 v3 v4 v5 v6 : Value} (h : Below B w w') (hg : B ≤ g) : Below B w (((((((w'.setCell ⟨g, 0, none⟩ v0).setCell ⟨g, 1, none⟩ v1).setCell ⟨g, 2, none⟩ v2).setCell ⟨g, 3, none⟩ v3).setCell ⟨g, 4, none⟩ v4).setCell ⟨g, 5, none⟩ v5).setCell ⟨g, 6, none⟩ v6) :=
  (((((((h.setCell hg _).setCell hg _).setCell hg _).setCell hg _).setCell hg _).setCell hg _).setCell hg _)
theorem bAD7 (w : World) (o : Obj) : Below w.heap.size w (w.alloc o).drew :=
  have h := (Below.refl w.heap.size w).alloc (Nat.le_refl _) o
  ⟨h.os, h.tape, h.output, h.size, h.block⟩
def Six (w' : World) (b o : Nat) (y : AW) : Prop := w'.cell? ⟨b, o, none⟩ = some (.int .i64 y.u) ∧ w'.cell? ⟨b, o + 1, none⟩ = some (.int .i64 y.v) ∧ w'.cell? ⟨b, o + 2, none⟩ = some (.int .i64 y.l) ∧ w'.cell? ⟨b, o + 3, none⟩ = some (.int .i64 y.s) ∧ w'.cell? ⟨b, o + 4, none⟩ = some (.int .i64 y.f) ∧ w'.cell? ⟨b, o + 5, none⟩ = some (.int .i64 y.k)
theorem Six.next {w w1 : World} {b o : Nat} {y : AW} (hb : Below w.heap.size w w1) (h : Six w b o y) : Six w1 b o y := by
  obtain ⟨a0, a1, a2, a3, a4, a5⟩ := h
  have f : ∀ {a : Addr} {v : Value}, w.cell? a = some v → w1.cell? a = some v := fun {a v} h => (hb.cell (World.block_lt_of_cell? w a h)).trans h
  exact ⟨f a0, f a1, f a2, f a3, f a4, f a5⟩
theorem ints_six {w : World} {A : Option Addr} {y : AW} (hi : Ints w w.heap.size A (nums y)) : ∃ b o, A = some ⟨b, o, none⟩ ∧ b < w.heap.size ∧ Six w b o y := by
  rcases hi with hi | ⟨b, o, h1, h2, h3⟩
  · exact absurd hi (nums_ne y)
  · exact ⟨b, o, h1, h2, h3 0 (by simp [nums]), h3 1 (by simp [nums]), h3 2 (by simp [nums]), h3 3 (by simp [nums]), h3 4 (by simp [nums]), h3 5 (by simp [nums])⟩
theorem seven_of {w : World} {b o b0 o0 : Nat} {y : AW} (h : Six w b o y) (h0 : w.cell? ⟨b0, o0, none⟩ = some (.string y.a)) : w.cell? ⟨b, o, none⟩ = some (.int .i64 y.u) ∧ w.cell? ⟨b, o + 1, none⟩ = some (.int .i64 y.v) ∧ w.cell? ⟨b, o + 2, none⟩ = some (.int .i64 y.l) ∧ w.cell? ⟨b, o + 3, none⟩ = some (.int .i64 y.s) ∧ w.cell? ⟨b, o + 4, none⟩ = some (.int .i64 y.f) ∧ w.cell? ⟨b, o + 5, none⟩ = some (.int .i64 y.k) ∧ w.cell? ⟨b0, o0, none⟩ = some (.string y.a) :=
  ⟨h.1, h.2.1, h.2.2.1, h.2.2.2.1, h.2.2.2.2.1, h.2.2.2.2.2, h0⟩
def wV (o : Option AW) : Value := (o.getD ⟨⟨#[]⟩, 0, 0, 0, 0, 0, 0⟩).val
def RwPost (o : Option AW) (w : World) (e : Ending) (w' : World) : Prop := e = .returned (.tuple #[wV o, .bool o.isSome]) ∧ Below w.heap.size w w'
theorem AirAt.res {w : World} {b : Nat} {y : AW} (h : AirAt w b 0 y) : w.cell? ⟨b, 1, none⟩ = some (.int .i64 y.u) ∧ w.cell? ⟨b, 2, none⟩ = some (.int .i64 y.v) ∧ w.cell? ⟨b, 3, none⟩ = some (.int .i64 y.l) ∧ w.cell? ⟨b, 4, none⟩ = some (.int .i64 y.s) ∧ w.cell? ⟨b, 5, none⟩ = some (.int .i64 y.f) ∧ w.cell? ⟨b, 6, none⟩ = some (.int .i64 y.k) := ⟨h.c1, h.c2, h.c3, h.c4, h.c5, h.c6⟩
set_option maxHeartbeats 2000000 in
theorem rwS_any (s : ByteArray) (w : World) (hs : s.size ≤ 1048576) : Calls Tryz.prog 19 #[.string s] w (RwPost (rwO s) w) := by
  have b0 : Below w.heap.size w (w.alloc (.cells #[.string ⟨#[]⟩, .int .i64 0, .int .i64 0, .int .i64 0, .int .i64 0, .int .i64 0, .int .i64 0] 35)) := (Below.refl _ _).alloc (Nat.le_refl _) _
  have RS0 := Lib.hid (resW_new w 35)
  have HSZ := Lib.hid (spl_size 32 s)
  by_cases h2 : (splS 32 s).length = 2
  · obtain ⟨a, r, e2⟩ : ∃ a r, splS 32 s = [a, r] := by
      match splS 32 s, h2 with
      | [a, r], _ => exact ⟨a, r, rfl⟩
    have hsa := HSZ.out a (by rw [e2]; simp)
    have hsr := HSZ.out r (by rw [e2]; simp)
    have HRW := Lib.hid (show rwO s = wayO a (rlO r) by unfold rwO; rw [e2])
    have hr20 : r.size ≤ 1048576 := by omega
    have ha20 : a.size ≤ maxLen := by unfold maxLen; omega
    go_enter Tryz.func19, Tryz.ntmps19
    go_wp2_with fail
    refine (l01Split_any s 32 _ hs).mono ?_; rw [e2]; rintro e w1 ⟨v, rfl, ho, b1⟩
    obtain ⟨A1, c1, ev, _, hst⟩ := ho.reads
    rw [show [a, r].length = 2 from rfl] at ev
    subst ev
    obtain ⟨b, off, rfl, hbl, hc0⟩ := hst.at_ (k := 0) (by simp)
    obtain ⟨b', off', eA, _, hc1⟩ := hst.at_ (k := 1) (by simp)
    injection eA with eA; injection eA with e1 e3
    subst e1 e3
    rw [atS_is _ 0 (by simp), Nat.add_zero] at hc0
    rw [atS_is _ 1 (by simp)] at hc1
    dsimp only [List.getElem_cons_zero, List.getElem_cons_succ] at hc0 hc1
    have HB := Lib.hid (stepB b0 b1)
    have RS := Lib.hid (RS0.out.next b1)
    have HC0 := Lib.hid hc0
    clear ho hst b0 b1 hc0 RS0 HSZ h2 e2
    go_wp2_with fail
    refine (rlS_any r _ hr20).mono ?_
    rcases six_cases (rlO r) a with ⟨y, hya, e3⟩ | ⟨ls, e3, hl6, hno⟩ | ⟨e3, hno⟩
    · rw [e3]; rintro e w2 ⟨v, rfl, ho, b2⟩
      have HRR := Lib.hid (show rwO s = if y.okB then some y else none by rw [HRW.out, e3, ← hya]; exact way_six y)
      obtain ⟨A2, c2, ev, hi⟩ := ho.reads
      rw [show ((some (nums y)).getD []).length = 6 from rfl] at ev
      subst ev
      subst hya
      rw [show (some (nums y)).isSome = true from rfl]
      obtain ⟨b6, o6, rfl, hb6, hS⟩ := ints_six (show Ints w2 w2.heap.size A2 (nums y) from hi)
      have HS := Lib.hid hS
      have HCA := Lib.hid ((b2.cell (World.block_lt_of_cell? w1 _ HC0.out)).trans HC0.out)
      have HB2 := Lib.hid (stepB HB.out b2)
      have RS2 := Lib.hid (RS.out.next b2)
      clear ho hi b2 hS hc1 HC0 HB RS e3
      go_wp2_with fail
      go_region_held3 (fun w' => w'.cell? ⟨b6, o6, none⟩ = some (.int .i64 y.u) ∧ w'.cell? ⟨b6, o6 + 1, none⟩ = some (.int .i64 y.v) ∧ w'.cell? ⟨b6, o6 + 2, none⟩ = some (.int .i64 y.l) ∧ w'.cell? ⟨b6, o6 + 3, none⟩ = some (.int .i64 y.s) ∧ w'.cell? ⟨b6, o6 + 4, none⟩ = some (.int .i64 y.f) ∧ w'.cell? ⟨b6, o6 + 5, none⟩ = some (.int .i64 y.k) ∧ w'.cell? ⟨b, off, none⟩ = some (.string y.a)) (first | exact seven_of HS.out HCA.out | exact seven_of (HS.out.next (bAD7 _ _)) (((bAD7 _ _).cell (World.block_lt_of_cell? w2 _ HCA.out)).trans HCA.out)) (fail)
      generalize hw3 : (w2.alloc (.cells #[.string y.a, .int .i64 y.u, .int .i64 y.v, .int .i64 y.l, .int .i64 y.s, .int .i64 y.f, .int .i64 y.k] 35)).drew = w3
      have b3 : Below w2.heap.size w2 w3 := by rw [← hw3]; exact bAD7 _ _
      have hat : AirAt w3 w2.heap.size 0 y := by rw [← hw3]; constructor <;> simp [go_sem]
      have RS3 := Lib.hid (RS2.out.next b3)
      have HB3 := Lib.hid (stepB HB2.out b3)
      have HAT := Lib.hid hat
      clear hw3 b3 hat HS HCA RS2 HB2
      go_wp2_with fail
      refine (l03OkAW_any _ 0 y _ ha20 HAT.out).mono ?_
      cases hk : y.okB with
      | true =>
        rintro e w4 ⟨rfl, q, rfl⟩
        have b4 : Below w3.heap.size w3 (w3.drewN q) := below_drewN (Below.refl _ _) q
        have RS4 := Lib.hid (RS3.out.next b4)
        have HB4 := Lib.hid (stepB HB3.out b4)
        obtain ⟨c0, c1', c2', c3', c4', c5', c6'⟩ := (HAT.out.below b4 (World.block_lt_of_cell? w3 _ HAT.out.c0)).zero
        have HR2 := Lib.hid (show rwO s = some y by rw [HRR.out, hk, if_pos rfl])
        clear b4
        generalize w3.drewN q = w4 at RS4 HB4 c0 c1' c2' c3' c4' c5' c6' ⊢
        obtain ⟨⟨x0, r0⟩, ⟨x1, r1⟩, ⟨x2, r2⟩, ⟨x3, r3⟩, ⟨x4, r4⟩, ⟨x5, r5⟩, ⟨x6, r6⟩, hfz⟩ := RS4.out
        go_wp2_with fail
        obtain ⟨g0, g1, g2, g3, g4, g5, g6⟩ := seven_cells r0 r1 r2 r3 r4 r5 r6 (v0 := .string y.a) (v1 := .int .i64 y.u) (v2 := .int .i64 y.v) (v3 := .int .i64 y.l) (v4 := .int .i64 y.s) (v5 := .int .i64 y.f) (v6 := .int .i64 y.k)
        simp [bodyPost, results, Tryz.results19, go_sem, g0, g1, g2, g3, g4, g5, g6]
        exact ⟨by rw [HR2.out]; exact rfl, set7_below HB4.out (Nat.le_refl _)⟩
      | false =>
        rintro e w4 ⟨rfl, q, rfl⟩
        have b4 : Below w3.heap.size w3 (w3.drewN q) := below_drewN (Below.refl _ _) q
        have RS4 := Lib.hid (RS3.out.next b4)
        have HB4 := Lib.hid (stepB HB3.out b4)
        have HR2 := Lib.hid (show rwO s = none by rw [HRR.out, hk]; rfl)
        clear b4
        generalize w3.drewN q = w4 at RS4 HB4 ⊢
        obtain ⟨⟨x0, r0⟩, ⟨x1, r1⟩, ⟨x2, r2⟩, ⟨x3, r3⟩, ⟨x4, r4⟩, ⟨x5, r5⟩, ⟨x6, r6⟩, hfz⟩ := RS4.out
        go_wp2_with fail
        obtain ⟨g0, g1, g2, g3, g4, g5, g6⟩ := seven_cells r0 r1 r2 r3 r4 r5 r6 (v0 := .string ⟨#[]⟩) (v1 := .int .i64 0) (v2 := .int .i64 0) (v3 := .int .i64 0) (v4 := .int .i64 0) (v5 := .int .i64 0) (v6 := .int .i64 0)
        simp [bodyPost, results, Tryz.results19, go_sem, g0, g1, g2, g3, g4, g5, g6]
        exact ⟨by rw [HR2.out]; exact rfl, set7_below HB4.out (Nat.le_refl _)⟩
    · rw [e3]; rintro e w2 ⟨v, rfl, ho, b2⟩
      have HRR := Lib.hid (show rwO s = none by rw [HRW.out]; exact way_none hno)
      obtain ⟨A2, c2, ev, hi⟩ := ho.reads
      rw [show (some ls).getD [] = ls from rfl] at ev
      subst ev
      rw [show (some ls).isSome = true from rfl]
      have hl6' : ((ls.length : Int) == 6) = false := by simp; omega
      have HB2 := Lib.hid (stepB HB.out b2)
      obtain ⟨⟨x0, r0⟩, ⟨x1, r1⟩, ⟨x2, r2⟩, ⟨x3, r3⟩, ⟨x4, r4⟩, ⟨x5, r5⟩, ⟨x6, r6⟩, hfz⟩ := RS.out.next b2
      clear ho hi b2 hc1 HC0 HB RS e3
      go_wp2_with fail
      obtain ⟨g0, g1, g2, g3, g4, g5, g6⟩ := seven_cells r0 r1 r2 r3 r4 r5 r6 (v0 := .string ⟨#[]⟩) (v1 := .int .i64 0) (v2 := .int .i64 0) (v3 := .int .i64 0) (v4 := .int .i64 0) (v5 := .int .i64 0) (v6 := .int .i64 0)
      simp [bodyPost, results, Tryz.results19, go_sem, g0, g1, g2, g3, g4, g5, g6]
      exact ⟨by rw [HRR.out]; exact rfl, set7_below HB2.out (Nat.le_refl _)⟩
    · rw [e3]; rintro e w2 ⟨v, rfl, ho, b2⟩
      have HRR := Lib.hid (show rwO s = none by rw [HRW.out]; exact way_none hno)
      obtain ⟨A2, c2, ev, hi⟩ := ho.reads
      subst ev
      rw [show (none : Option (List Int)).isSome = false from rfl]
      have HB2 := Lib.hid (stepB HB.out b2)
      obtain ⟨⟨x0, r0⟩, ⟨x1, r1⟩, ⟨x2, r2⟩, ⟨x3, r3⟩, ⟨x4, r4⟩, ⟨x5, r5⟩, ⟨x6, r6⟩, hfz⟩ := RS.out.next b2
      clear ho hi b2 hc1 HC0 HB RS e3
      go_wp2_with fail
      obtain ⟨g0, g1, g2, g3, g4, g5, g6⟩ := seven_cells r0 r1 r2 r3 r4 r5 r6 (v0 := .string ⟨#[]⟩) (v1 := .int .i64 0) (v2 := .int .i64 0) (v3 := .int .i64 0) (v4 := .int .i64 0) (v5 := .int .i64 0) (v6 := .int .i64 0)
      simp [bodyPost, results, Tryz.results19, go_sem, g0, g1, g2, g3, g4, g5, g6]
      exact ⟨by rw [HRR.out]; exact rfl, set7_below HB2.out (Nat.le_refl _)⟩
  · have h2' : (((splS 32 s).length : Int) == 2) = false := by simp; omega
    have HRR := Lib.hid (show rwO s = none by
      unfold rwO
      split
      · rename_i a r e; exact absurd (by rw [e]; rfl) h2
      · rfl)
    go_enter Tryz.func19, Tryz.ntmps19
    go_wp2_with fail
    refine (l01Split_any s 32 _ hs).mono ?_; rintro e w1 ⟨v, rfl, ho, b1⟩
    obtain ⟨A1, c1, ev, _, hst⟩ := ho.reads
    subst ev
    have HB2 := Lib.hid (stepB b0 b1)
    obtain ⟨⟨x0, r0⟩, ⟨x1, r1⟩, ⟨x2, r2⟩, ⟨x3, r3⟩, ⟨x4, r4⟩, ⟨x5, r5⟩, ⟨x6, r6⟩, hfz⟩ := RS0.out.next b1
    clear ho hst b0 b1 RS0 HSZ
    go_wp2_with fail
    obtain ⟨g0, g1, g2, g3, g4, g5, g6⟩ := seven_cells r0 r1 r2 r3 r4 r5 r6 (v0 := .string ⟨#[]⟩) (v1 := .int .i64 0) (v2 := .int .i64 0) (v3 := .int .i64 0) (v4 := .int .i64 0) (v5 := .int .i64 0) (v6 := .int .i64 0)
    simp [bodyPost, results, Tryz.results19, go_sem, g0, g1, g2, g3, g4, g5, g6]
    exact ⟨by rw [HRR.out]; exact rfl, set7_below HB2.out (Nat.le_refl _)⟩

def RiPost (s : ByteArray) (w : World) (e : Ending) (w' : World) : Prop :=
  ∃ b o c B y, e = .returned (.tuple #[.string y.a, .slice (some ⟨b, o, none⟩) 6 c, .bool B]) ∧ Six w' b o y ∧ (B = true → WayHit s y) ∧ (B = false → rwO s = none ∧ y.a.size ≤ s.size) ∧ Below w.heap.size w w'
theorem mk6 (w : World) : (Instr.makeSlice 51 (.int .i64 6) (.int .i64 6)).run Tryz.prog w = .ok (.slice (some ⟨w.heap.size, 0, none⟩) 6 6) (w.alloc (.cells #[.int .i64 0, .int .i64 0, .int .i64 0, .int .i64 0, .int .i64 0, .int .i64 0] 2)) := by kernel_rfl
theorem ri_zero {s : ByteArray} {w w1 : World} {c : Nat} (t0 : TypeId) (h : rwO s = none) (b1 : Below w.heap.size w w1) :
    RiPost s w (.returned (.tuple #[.string ⟨#[]⟩, .slice (some ⟨w1.heap.size, 0, none⟩) 6 c, .bool false])) (w1.alloc (.cells #[.int .i64 0, .int .i64 0, .int .i64 0, .int .i64 0, .int .i64 0, .int .i64 0] t0)).drew :=
  ⟨_, 0, _, false, ⟨⟨#[]⟩, 0, 0, 0, 0, 0, 0⟩, rfl, ⟨by simp [go_sem], by simp [go_sem], by simp [go_sem], by simp [go_sem], by simp [go_sem], by simp [go_sem]⟩, (fun e => by cases e), (fun _ => ⟨h, Nat.zero_le _⟩), b1.trans ((bAD7 _ _).mono b1.size)⟩
set_option maxHeartbeats 1000000 in
theorem ri_any (s : ByteArray) (w : World) (hs : s.size ≤ 1048576) (he : Env7 w) : Calls Tryz.prog 25 #[.string s, .int .i64 6] w (RiPost s w) := by
  obtain ⟨x, r, bb, hcut, hxs, hrs, hyes, hno⟩ := cut_way s
  obtain ⟨m, hm⟩ := he.mx
  have HCUT := Lib.hid hcut
  have HYES := Lib.hid hyes
  have HNO := Lib.hid hno
  have HE := Lib.hid he
  have hr20 : (toB r).size ≤ 1048576 := by omega
  have HM := Lib.hid hm
  clear hcut hyes hno he hm
  go_enter Tryz.func25, Tryz.ntmps25
  go_wp2_with fail
  refine (Tryz.strings_Cut s ⟨#[32]⟩ m w (by omega) HM.out).mono ?_
  rintro e w1 ⟨rfl, q, rfl⟩
  rw [show Lib.cut s.data.toList (⟨#[32]⟩ : ByteArray).data.toList = (x, r, bb) from HCUT.out]
  show _
  have b1 : Below w.heap.size w (w.drewN q) := below_drewN (Below.refl _ _) q
  have HB1 := Lib.hid b1
  have HE1 := Lib.hid (HE.out.step b1)
  clear b1
  generalize w.drewN q = w1 at HB1 HE1 ⊢
  go_wp2_with fail
  refine (rlP_any (toB r) _ hr20 HE1.out).mono ?_
  rcases six_cases (rlO (toB r)) (toB x) with ⟨y, hya, e3⟩ | ⟨ls, e3, hl6, hno⟩ | ⟨e3, hno⟩
  · have HIT := Lib.hid (HYES.out y hya e3)
    rw [e3]; rintro e w2 ⟨v, rfl, ho, b2⟩
    obtain ⟨A2, c2, ev, hi⟩ := ho.reads
    rw [show ((some (nums y)).getD []).length = 6 from rfl] at ev
    subst ev
    rw [show (some (nums y)).isSome = true from rfl]
    obtain ⟨b6, o6, rfl, hb6, hS⟩ := ints_six (show Ints w2 w2.heap.size A2 (nums y) from hi)
    have HS := Lib.hid hS
    have HB2 := Lib.hid (stepB HB1.out b2)
    have HYA := Lib.hid hya
    clear ho hi b2 hS e3 hya
    go_wp2_with fail
    go_ret3
    exact ⟨b6, o6, _, true, y, by rw [HYA.out]; rfl, HS.out, (fun _ => HIT.out), (fun e => by cases e), HB2.out⟩
  · have HRR := Lib.hid (HNO.out hno)
    rw [e3]; rintro e w2 ⟨v, rfl, ho, b2⟩
    obtain ⟨A2, c2, ev, hi⟩ := ho.reads
    rw [show (some ls).getD [] = ls from rfl] at ev
    subst ev
    rw [show (some ls).isSome = true from rfl]
    have hl6' : ((ls.length : Int) == 6) = false := by simp; omega
    have HB2 := Lib.hid (stepB HB1.out b2)
    have hmk := mk6
    have mixed : Tryz.prog.follows Departure.mixedOrders = true := by kernel_rfl
    clear ho hi b2 e3
    go_wp2_with fail
    go_region_o
    go_wp2_with fail
    go_ret3
    exact ri_zero _ HRR.out HB2.out
  · have HRR := Lib.hid (HNO.out hno)
    rw [e3]; rintro e w2 ⟨v, rfl, ho, b2⟩
    obtain ⟨A2, c2, ev, hi⟩ := ho.reads
    subst ev
    rw [show (none : Option (List Int)).isSome = false from rfl]
    have HB2 := Lib.hid (stepB HB1.out b2)
    have hmk := mk6
    have mixed : Tryz.prog.follows Departure.mixedOrders = true := by kernel_rfl
    clear ho hi b2 e3
    go_wp2_with fail
    go_region_o
    go_wp2_with fail
    go_ret3
    exact ri_zero _ HRR.out HB2.out

set_option maxHeartbeats 2000000 in
theorem rwP_any (s : ByteArray) (w : World) (hs : s.size ≤ 1048576) (he : Env7 w) : Calls Tryz.prog 12 #[.string s] w (RwPost (rwO s) w) := by
  have b0 : Below w.heap.size w (w.alloc (.cells #[.string ⟨#[]⟩, .int .i64 0, .int .i64 0, .int .i64 0, .int .i64 0, .int .i64 0, .int .i64 0] 35)) := (Below.refl _ _).alloc (Nat.le_refl _) _
  have RS0 := Lib.hid (resW_new w 35)
  have HEV := Lib.hid he
  go_enter Tryz.func12, Tryz.ntmps12
  go_wp2_with fail
  refine (ri_any s _ hs (he.step b0)).mono ?_
  rintro e w2 ⟨b6, o6, c, B, y, rfl, hS, hT, hF, b1⟩
  have HB2 := Lib.hid (stepB b0 b1)
  have RS2 := Lib.hid (RS0.out.next b1)
  have HS := Lib.hid hS
  have HT := Lib.hid hT
  have HF := Lib.hid hF
  clear hS hT hF b0 b1 he RS0
  go_wp2_with fail
  go_region_held3 (fun w' => w'.cell? ⟨b6, o6, none⟩ = some (.int .i64 y.u) ∧ w'.cell? ⟨b6, o6 + 1, none⟩ = some (.int .i64 y.v) ∧ w'.cell? ⟨b6, o6 + 2, none⟩ = some (.int .i64 y.l) ∧ w'.cell? ⟨b6, o6 + 3, none⟩ = some (.int .i64 y.s) ∧ w'.cell? ⟨b6, o6 + 4, none⟩ = some (.int .i64 y.f) ∧ w'.cell? ⟨b6, o6 + 5, none⟩ = some (.int .i64 y.k)) (first | exact HS.out | exact HS.out.next (bAD7 _ _)) (fail)
  generalize hw3 : (w2.alloc (.cells #[.string y.a, .int .i64 y.u, .int .i64 y.v, .int .i64 y.l, .int .i64 y.s, .int .i64 y.f, .int .i64 y.k] 35)).drew = w3
  have b3 : Below w2.heap.size w2 w3 := by rw [← hw3]; exact bAD7 _ _
  have hat : AirAt w3 w2.heap.size 0 y := by rw [← hw3]; constructor <;> simp [go_sem]
  have RS3 := Lib.hid (RS2.out.next b3)
  have HB3 := Lib.hid (stepB HB2.out b3)
  have HE3 := Lib.hid (HEV.out.step HB3.out)
  clear hw3 b3 HS RS2 HB2
  cases B with
  | false =>
    have HR2 := Lib.hid (HF.out rfl).1
    clear hat
    obtain ⟨⟨x0, r0⟩, ⟨x1, r1⟩, ⟨x2, r2⟩, ⟨x3, r3⟩, ⟨x4, r4⟩, ⟨x5, r5⟩, ⟨x6, r6⟩, hfz⟩ := RS3.out
    go_wp2_with fail
    obtain ⟨g0, g1, g2, g3, g4, g5, g6⟩ := seven_cells r0 r1 r2 r3 r4 r5 r6 (v0 := .string ⟨#[]⟩) (v1 := .int .i64 0) (v2 := .int .i64 0) (v3 := .int .i64 0) (v4 := .int .i64 0) (v5 := .int .i64 0) (v6 := .int .i64 0)
    simp [bodyPost, results, Tryz.results12, go_sem, g0, g1, g2, g3, g4, g5, g6]
    exact ⟨by rw [HR2.out]; exact rfl, set7_below HB3.out (Nat.le_refl _)⟩
  | true =>
    have HIT := Lib.hid (HT.out rfl)
    have hya : y.a.size ≤ 1048576 := by have := HIT.out.1; omega
    have HAT := Lib.hid hat
    obtain ⟨d0, d1, d2, d3, d4, d5, d6⟩ := hat.zero
    clear hat
    go_wp2_with fail
    refine (awP_any y _ hya HE3.out.env.pow).mono ?_
    rintro e w4 ⟨rfl, b4⟩
    have RS4 := Lib.hid (RS3.out.next b4)
    have HB4 := Lib.hid (stepB HB3.out b4)
    obtain ⟨c0, c1', c2', c3', c4', c5', c6'⟩ := (HAT.out.below b4 (World.block_lt_of_cell? w3 _ HAT.out.c0)).zero
    clear b4 d0 d1 d2 d3 d4 d5 d6
    obtain ⟨⟨x0, r0⟩, ⟨x1, r1⟩, ⟨x2, r2⟩, ⟨x3, r3⟩, ⟨x4, r4⟩, ⟨x5, r5⟩, ⟨x6, r6⟩, hfz⟩ := RS4.out
    cases hk : y.okB with
    | true =>
      have HR2 := Lib.hid (HIT.out.2.1 hk).2
      have heq : ((awT y).toList == s.toList) = true := by rw [(HIT.out.2.1 hk).1]; exact beq_self_eq_true _
      clear hk
      go_wp2_with fail
      obtain ⟨g0, g1, g2, g3, g4, g5, g6⟩ := seven_cells r0 r1 r2 r3 r4 r5 r6 (v0 := .string y.a) (v1 := .int .i64 y.u) (v2 := .int .i64 y.v) (v3 := .int .i64 y.l) (v4 := .int .i64 y.s) (v5 := .int .i64 y.f) (v6 := .int .i64 y.k)
      simp [bodyPost, results, Tryz.results12, go_sem, g0, g1, g2, g3, g4, g5, g6]
      exact ⟨by rw [HR2.out]; exact rfl, set7_below HB4.out (Nat.le_refl _)⟩
    | false =>
      have HR2 := Lib.hid (HIT.out.2.2 hk).2
      have heq : ((awT y).toList == s.toList) = false := beq_eq_false_iff_ne.2 (fun h => (HIT.out.2.2 hk).1 (by
        rw [ByteArray.toList_eq, ByteArray.toList_eq] at h
        rw [← toB_of (awT y), ← toB_of s, h]))
      clear hk
      go_wp2_with fail
      obtain ⟨g0, g1, g2, g3, g4, g5, g6⟩ := seven_cells r0 r1 r2 r3 r4 r5 r6 (v0 := .string ⟨#[]⟩) (v1 := .int .i64 0) (v2 := .int .i64 0) (v3 := .int .i64 0) (v4 := .int .i64 0) (v5 := .int .i64 0) (v6 := .int .i64 0)
      simp [bodyPost, results, Tryz.results12, go_sem, g0, g1, g2, g3, g4, g5, g6]
      exact ⟨by rw [HR2.out]; exact rfl, set7_below HB4.out (Nat.le_refl _)⟩

end Go.Proofs.YtcfcmpblemagiaaGreatDoor
