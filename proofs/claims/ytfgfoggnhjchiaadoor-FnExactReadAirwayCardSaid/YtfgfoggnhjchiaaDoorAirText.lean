/-
  FnExactAirText: for every air the program's AirText returns what the reference's returns.
-/
import Derived.Test.YtfgfoggnhjchiaaDoorListText
import Derived.Test.YtfgfoggnhjchiaaDoorAir
import Derived.Deep.RegionHeld3
import Derived.Test.YtfgfoggnhjchiaaDoorNum
import Derived.RowKit3
import Derived.ProofKit
import Derived.OpenShut
import Derived.Lib.SmallJoins
namespace Go.Proofs.YtfgfoggnhjchiaaDoor
open Go.RowKit
set_option linter.unusedVariables false

def airOk (t p h : Int) : Bool := inB t (-100) 600 && inB p 50000 150000 && inB h 0 1000
theorem okP_any (t p h : Int) (w : World) : Calls Tryd.prog 59 #[.agg #[.int .i64 t, .int .i64 p, .int .i64 h]] w fun e w' => e = .returned (.bool (airOk t p h)) ∧ Below w.heap.size w w' := by
  by_cases g0 : inB t (-100) 600 = true
  · have b0 := inB_true.1 g0
    by_cases g1 : inB p 50000 150000 = true
    · have b1 := inB_true.1 g1
      by_cases g2 : inB h 0 1000 = true
      · have b2 := inB_true.1 g2
        go_enter Tryd.func59, Tryd.ntmps59
        go_wp2_with (first | (go_at_call 73; refine (l00In_any _ _ _ _).mono ?_; rintro e w' ⟨rfl, rfl⟩) | (go_at_call 55; refine (within_any _ _ _ _).mono ?_; rintro e w' ⟨rfl, rfl⟩) | go_in)
        all_goals go_ret
        all_goals exact ⟨ret_bool (by unfold airOk; simp [g0, g1, g2]), by ((repeat (first | with_reducible exact Below.refl _ _ | with_reducible apply below_drewN | with_reducible apply Below.drew | (with_reducible refine Below.alloc ?_ ?_ _) | (with_reducible refine Below.setCell ?_ ?_ _) | (with_reducible refine Below.trans ?_ (hb4.mono ?_)) | (with_reducible refine Below.trans ?_ (hb3.mono ?_)) | (with_reducible refine Below.trans ?_ (hb2.mono ?_)))); all_goals (first | (simp <;> omega) | (have h2s := hb2.size; (try simp at h2s); (try simp); omega) | (have h2s := hb2.size; have h3s := hb3.size; (try simp at h2s); (try simp at h3s); (try simp); omega) | (have h2s := hb2.size; have h3s := hb3.size; have h4s := hb4.size; (try simp at h2s); (try simp at h3s); (try simp at h4s); (try simp); omega)))⟩
      · simp only [Bool.not_eq_true] at g2
        go_enter Tryd.func59, Tryd.ntmps59
        go_wp2_with (first | (go_at_call 73; refine (l00In_any _ _ _ _).mono ?_; rintro e w' ⟨rfl, rfl⟩) | (go_at_call 55; refine (within_any _ _ _ _).mono ?_; rintro e w' ⟨rfl, rfl⟩) | go_in)
        all_goals go_ret
        all_goals exact ⟨ret_bool (by unfold airOk; simp [g0, g1, g2]), by ((repeat (first | with_reducible exact Below.refl _ _ | with_reducible apply below_drewN | with_reducible apply Below.drew | (with_reducible refine Below.alloc ?_ ?_ _) | (with_reducible refine Below.setCell ?_ ?_ _) | (with_reducible refine Below.trans ?_ (hb4.mono ?_)) | (with_reducible refine Below.trans ?_ (hb3.mono ?_)) | (with_reducible refine Below.trans ?_ (hb2.mono ?_)))); all_goals (first | (simp <;> omega) | (have h2s := hb2.size; (try simp at h2s); (try simp); omega) | (have h2s := hb2.size; have h3s := hb3.size; (try simp at h2s); (try simp at h3s); (try simp); omega) | (have h2s := hb2.size; have h3s := hb3.size; have h4s := hb4.size; (try simp at h2s); (try simp at h3s); (try simp at h4s); (try simp); omega)))⟩
    · simp only [Bool.not_eq_true] at g1
      go_enter Tryd.func59, Tryd.ntmps59
      go_wp2_with (first | (go_at_call 73; refine (l00In_any _ _ _ _).mono ?_; rintro e w' ⟨rfl, rfl⟩) | (go_at_call 55; refine (within_any _ _ _ _).mono ?_; rintro e w' ⟨rfl, rfl⟩) | go_in)
      all_goals go_ret
      all_goals exact ⟨ret_bool (by unfold airOk; simp [g0, g1]), by ((repeat (first | with_reducible exact Below.refl _ _ | with_reducible apply below_drewN | with_reducible apply Below.drew | (with_reducible refine Below.alloc ?_ ?_ _) | (with_reducible refine Below.setCell ?_ ?_ _) | (with_reducible refine Below.trans ?_ (hb4.mono ?_)) | (with_reducible refine Below.trans ?_ (hb3.mono ?_)) | (with_reducible refine Below.trans ?_ (hb2.mono ?_)))); all_goals (first | (simp <;> omega) | (have h2s := hb2.size; (try simp at h2s); (try simp); omega) | (have h2s := hb2.size; have h3s := hb3.size; (try simp at h2s); (try simp at h3s); (try simp); omega) | (have h2s := hb2.size; have h3s := hb3.size; have h4s := hb4.size; (try simp at h2s); (try simp at h3s); (try simp at h4s); (try simp); omega)))⟩
  · simp only [Bool.not_eq_true] at g0
    go_enter Tryd.func59, Tryd.ntmps59
    go_wp2_with (first | (go_at_call 73; refine (l00In_any _ _ _ _).mono ?_; rintro e w' ⟨rfl, rfl⟩) | (go_at_call 55; refine (within_any _ _ _ _).mono ?_; rintro e w' ⟨rfl, rfl⟩) | go_in)
    all_goals go_ret
    all_goals exact ⟨ret_bool (by unfold airOk; simp [g0]), by ((repeat (first | with_reducible exact Below.refl _ _ | with_reducible apply below_drewN | with_reducible apply Below.drew | (with_reducible refine Below.alloc ?_ ?_ _) | (with_reducible refine Below.setCell ?_ ?_ _) | (with_reducible refine Below.trans ?_ (hb4.mono ?_)) | (with_reducible refine Below.trans ?_ (hb3.mono ?_)) | (with_reducible refine Below.trans ?_ (hb2.mono ?_)))); all_goals (first | (simp <;> omega) | (have h2s := hb2.size; (try simp at h2s); (try simp); omega) | (have h2s := hb2.size; have h3s := hb3.size; (try simp at h2s); (try simp at h3s); (try simp); omega) | (have h2s := hb2.size; have h3s := hb3.size; have h4s := hb4.size; (try simp at h2s); (try simp at h3s); (try simp at h4s); (try simp); omega)))⟩

theorem okS_any (b : Nat) (t p h : Int) (w : World) (c0 : w.cell? ⟨b, 0, none⟩ = some (.int .i64 t)) (c1 : w.cell? ⟨b, 1, none⟩ = some (.int .i64 p)) (c2 : w.cell? ⟨b, 2, none⟩ = some (.int .i64 h)) :
    Calls Tryd.prog 57 #[.pointer (some ⟨b, 0, none⟩)] w fun e w' => e = .returned (.bool (airOk t p h)) ∧ Below w.heap.size w w' := by
  by_cases g0 : inB t (-100) 600 = true
  · have b0 := inB_true.1 g0
    by_cases g1 : inB p 50000 150000 = true
    · have b1 := inB_true.1 g1
      by_cases g2 : inB h 0 1000 = true
      · have b2 := inB_true.1 g2
        go_enter Tryd.func57, Tryd.ntmps57
        go_wp2_with (first | (go_at_call 73; refine (l00In_any _ _ _ _).mono ?_; rintro e w' ⟨rfl, rfl⟩) | (go_at_call 55; refine (within_any _ _ _ _).mono ?_; rintro e w' ⟨rfl, rfl⟩) | go_in)
        all_goals go_ret
        all_goals exact ⟨ret_bool (by unfold airOk; simp [g0, g1, g2]), by ((repeat (first | with_reducible exact Below.refl _ _ | with_reducible apply below_drewN | with_reducible apply Below.drew | (with_reducible refine Below.alloc ?_ ?_ _) | (with_reducible refine Below.setCell ?_ ?_ _) | (with_reducible refine Below.trans ?_ (hb4.mono ?_)) | (with_reducible refine Below.trans ?_ (hb3.mono ?_)) | (with_reducible refine Below.trans ?_ (hb2.mono ?_)))); all_goals (first | (simp <;> omega) | (have h2s := hb2.size; (try simp at h2s); (try simp); omega) | (have h2s := hb2.size; have h3s := hb3.size; (try simp at h2s); (try simp at h3s); (try simp); omega) | (have h2s := hb2.size; have h3s := hb3.size; have h4s := hb4.size; (try simp at h2s); (try simp at h3s); (try simp at h4s); (try simp); omega)))⟩
      · simp only [Bool.not_eq_true] at g2
        go_enter Tryd.func57, Tryd.ntmps57
        go_wp2_with (first | (go_at_call 73; refine (l00In_any _ _ _ _).mono ?_; rintro e w' ⟨rfl, rfl⟩) | (go_at_call 55; refine (within_any _ _ _ _).mono ?_; rintro e w' ⟨rfl, rfl⟩) | go_in)
        all_goals go_ret
        all_goals exact ⟨ret_bool (by unfold airOk; simp [g0, g1, g2]), by ((repeat (first | with_reducible exact Below.refl _ _ | with_reducible apply below_drewN | with_reducible apply Below.drew | (with_reducible refine Below.alloc ?_ ?_ _) | (with_reducible refine Below.setCell ?_ ?_ _) | (with_reducible refine Below.trans ?_ (hb4.mono ?_)) | (with_reducible refine Below.trans ?_ (hb3.mono ?_)) | (with_reducible refine Below.trans ?_ (hb2.mono ?_)))); all_goals (first | (simp <;> omega) | (have h2s := hb2.size; (try simp at h2s); (try simp); omega) | (have h2s := hb2.size; have h3s := hb3.size; (try simp at h2s); (try simp at h3s); (try simp); omega) | (have h2s := hb2.size; have h3s := hb3.size; have h4s := hb4.size; (try simp at h2s); (try simp at h3s); (try simp at h4s); (try simp); omega)))⟩
    · simp only [Bool.not_eq_true] at g1
      go_enter Tryd.func57, Tryd.ntmps57
      go_wp2_with (first | (go_at_call 73; refine (l00In_any _ _ _ _).mono ?_; rintro e w' ⟨rfl, rfl⟩) | (go_at_call 55; refine (within_any _ _ _ _).mono ?_; rintro e w' ⟨rfl, rfl⟩) | go_in)
      all_goals go_ret
      all_goals exact ⟨ret_bool (by unfold airOk; simp [g0, g1]), by ((repeat (first | with_reducible exact Below.refl _ _ | with_reducible apply below_drewN | with_reducible apply Below.drew | (with_reducible refine Below.alloc ?_ ?_ _) | (with_reducible refine Below.setCell ?_ ?_ _) | (with_reducible refine Below.trans ?_ (hb4.mono ?_)) | (with_reducible refine Below.trans ?_ (hb3.mono ?_)) | (with_reducible refine Below.trans ?_ (hb2.mono ?_)))); all_goals (first | (simp <;> omega) | (have h2s := hb2.size; (try simp at h2s); (try simp); omega) | (have h2s := hb2.size; have h3s := hb3.size; (try simp at h2s); (try simp at h3s); (try simp); omega) | (have h2s := hb2.size; have h3s := hb3.size; have h4s := hb4.size; (try simp at h2s); (try simp at h3s); (try simp at h4s); (try simp); omega)))⟩
  · simp only [Bool.not_eq_true] at g0
    go_enter Tryd.func57, Tryd.ntmps57
    go_wp2_with (first | (go_at_call 73; refine (l00In_any _ _ _ _).mono ?_; rintro e w' ⟨rfl, rfl⟩) | (go_at_call 55; refine (within_any _ _ _ _).mono ?_; rintro e w' ⟨rfl, rfl⟩) | go_in)
    all_goals go_ret
    all_goals exact ⟨ret_bool (by unfold airOk; simp [g0]), by ((repeat (first | with_reducible exact Below.refl _ _ | with_reducible apply below_drewN | with_reducible apply Below.drew | (with_reducible refine Below.alloc ?_ ?_ _) | (with_reducible refine Below.setCell ?_ ?_ _) | (with_reducible refine Below.trans ?_ (hb4.mono ?_)) | (with_reducible refine Below.trans ?_ (hb3.mono ?_)) | (with_reducible refine Below.trans ?_ (hb2.mono ?_)))); all_goals (first | (simp <;> omega) | (have h2s := hb2.size; (try simp at h2s); (try simp); omega) | (have h2s := hb2.size; have h3s := hb3.size; (try simp at h2s); (try simp at h3s); (try simp); omega) | (have h2s := hb2.size; have h3s := hb3.size; have h4s := hb4.size; (try simp at h2s); (try simp at h3s); (try simp at h4s); (try simp); omega)))⟩

def airT (t p h : Int) : ByteArray := if airOk t p h then listT [t, p, h] else ⟨#[]⟩
theorem air_fits {t p h : Int} (ho : airOk t p h = true) : listText [t, p, h] = listT [t, p, h] ∧ IB [t, p, h] := by
  unfold airOk at ho
  simp only [Bool.and_eq_true] at ho
  obtain ⟨⟨h0, h1⟩, h2⟩ := ho
  have b0 := inB_true.1 h0
  have b1 := inB_true.1 h1
  have b2 := inB_true.1 h2
  have key : ∀ k, k < 3 → -1000000000000 ≤ atI [t, p, h] k ∧ atI [t, p, h] k ≤ 1000000000000 := fun k hk => by
    rcases (by omega : k = 0 ∨ k = 1 ∨ k = 2) with rfl | rfl | rfl
    · show -1000000000000 ≤ t ∧ t ≤ 1000000000000; omega
    · show -1000000000000 ≤ p ∧ p ≤ 1000000000000; omega
    · show -1000000000000 ≤ h ∧ h ≤ 1000000000000; omega
  refine ⟨?_, fun k hk => by have := key k hk; omega⟩
  unfold listText
  rw [fits_is _ 3 rfl, if_pos]
  simp only [Bool.and_eq_true, decide_eq_true_eq]
  refine ⟨?_, by omega⟩
  unfold inAll
  rw [List.all_eq_true]
  intro k hk
  exact inB_true.2 (key k (by simpa using hk))
theorem ints3 (w : World) (t p h : Int) : Ints (w.alloc (.cells #[.int .i64 t, .int .i64 p, .int .i64 h] 2)) (w.alloc (.cells #[.int .i64 t, .int .i64 p, .int .i64 h] 2)).heap.size (some ⟨w.heap.size, 0, none⟩) [t, p, h] :=
  (Ints.new w [t, p, h] _).more (by simp)
theorem a_next {w w1 : World} {b : Nat} {t p h : Int} (hb : Below w.heap.size w w1) (hS : w.cell? ⟨b, 0, none⟩ = some (.int .i64 t) ∧ w.cell? ⟨b, 1, none⟩ = some (.int .i64 p) ∧ w.cell? ⟨b, 2, none⟩ = some (.int .i64 h)) : w1.cell? ⟨b, 0, none⟩ = some (.int .i64 t) ∧ w1.cell? ⟨b, 1, none⟩ = some (.int .i64 p) ∧ w1.cell? ⟨b, 2, none⟩ = some (.int .i64 h) := by
  obtain ⟨a0, a1, a2⟩ := hS
  have f : ∀ {a : Addr} {v : Value}, w.cell? a = some v → w1.cell? a = some v := fun {a v} h => (hb.cell (World.block_lt_of_cell? w a h)).trans h
  exact ⟨f a0, f a1, f a2⟩
theorem drew_below (w : World) : Below w.heap.size w w.drew := ⟨rfl, rfl, rfl, Nat.le_refl _, fun _ _ => rfl⟩
theorem l02Text_any (b : Nat) (t p h : Int) (w : World) (hib : IB [t, p, h]) (c0 : w.cell? ⟨b, 0, none⟩ = some (.int .i64 t)) (c1 : w.cell? ⟨b, 1, none⟩ = some (.int .i64 p)) (c2 : w.cell? ⟨b, 2, none⟩ = some (.int .i64 h)) :
    Calls Tryd.prog 58 #[.pointer (some ⟨b, 0, none⟩)] w (StrPost (listT [t, p, h]) w) := by
  have HF := Lib.hid (show _ ∧ _ ∧ _ from ⟨c0, c1, c2⟩)
  have HI := Lib.hid (ints3 w.drew t p h)
  have HIB := Lib.hid hib
  have bA : Below w.heap.size w (w.drew.alloc (.cells #[.int .i64 t, .int .i64 p, .int .i64 h] 2)) := (drew_below w).alloc (Nat.le_refl _) _
  have HBA := Lib.hid bA
  clear c0 c1 c2 bA hib
  go_enter Tryd.func58, Tryd.ntmps58
  go_wp2_with fail
  go_region_held3 (fun w' => w'.cell? ⟨b, 0, none⟩ = some (.int .i64 t) ∧ w'.cell? ⟨b, 1, none⟩ = some (.int .i64 p) ∧ w'.cell? ⟨b, 2, none⟩ = some (.int .i64 h)) (first | exact HF.out | exact a_next HBA.out HF.out | exact a_next bq (a_next HBA.out HF.out))
    ((first | (go_at_call 54; refine (l01List_any _ _ [t, p, h] 3 _ rfl (by omega) HIB.out HI.out).mono ?_; rintro e w1 ⟨rfl, bq⟩)))
  have HB1 := Lib.hid (stepB HBA.out bq)
  clear bq
  go_wp2_with fail
  go_ret
  exact ⟨rfl, HB1.out⟩
theorem atP_any (t p h : Int) (w : World) (hp : Pow w) :
    Calls Tryd.prog 26 #[.agg #[.int .i64 t, .int .i64 p, .int .i64 h]] w (StrPost (airT t p h) w) := by
  have b0 : Below w.heap.size w (w.alloc (.cells #[.int .i64 t, .int .i64 p, .int .i64 h] 37)) := by ((repeat (first | with_reducible exact Below.refl _ _ | with_reducible apply below_drewN | with_reducible apply Below.drew | (with_reducible refine Below.alloc ?_ ?_ _) | (with_reducible refine Below.setCell ?_ ?_ _) | (with_reducible refine Below.trans ?_ (hb4.mono ?_)) | (with_reducible refine Below.trans ?_ (hb3.mono ?_)) | (with_reducible refine Below.trans ?_ (hb2.mono ?_)))); all_goals (first | (simp <;> omega) | (have h2s := hb2.size; (try simp at h2s); (try simp); omega) | (have h2s := hb2.size; have h3s := hb3.size; (try simp at h2s); (try simp at h3s); (try simp); omega) | (have h2s := hb2.size; have h3s := hb3.size; have h4s := hb4.size; (try simp at h2s); (try simp at h3s); (try simp at h4s); (try simp); omega)))
  have HP := Lib.hid hp
  clear hp
  go_enter Tryd.func26, Tryd.ntmps26
  go_wp2_with fail
  refine (okP_any t p h _).mono ?_
  cases ho : airOk t p h with
  | false =>
    rintro e w1 ⟨rfl, b1⟩
    have HB := Lib.hid (stepB b0 b1)
    have HO := Lib.hid ho
    clear b0 b1
    go_wp2_with fail
    go_ret
    exact ⟨by unfold airT; rw [HO.out]; rfl, HB.out⟩
  | true =>
    rintro e w1 ⟨rfl, b1⟩
    have c0 : w1.cell? ⟨w.heap.size, 0, none⟩ = some (.int .i64 t) := (b1.cell (by simp)).trans (by simp [go_sem])
    have c1 : w1.cell? ⟨w.heap.size, 1, none⟩ = some (.int .i64 p) := (b1.cell (by simp)).trans (by simp [go_sem])
    have c2 : w1.cell? ⟨w.heap.size, 2, none⟩ = some (.int .i64 h) := (b1.cell (by simp)).trans (by simp [go_sem])
    have HB := Lib.hid (stepB b0 b1)
    have HO := Lib.hid ho
    have HI := Lib.hid (ints3 w1 t p h)
    have HB2 := Lib.hid (HB.out.alloc HB.out.size (.cells #[.int .i64 t, .int .i64 p, .int .i64 h] 2))
    have HP2 := Lib.hid (HP.out.step HB2.out)
    clear b0 b1
    go_wp2_with fail
    refine (ltP_any _ _ [t, p, h] 3 _ rfl (by omega) (air_fits HO.out).2 HI.out HP2.out).mono ?_; rintro e w2 ⟨rfl, b2⟩
    have HB3 := Lib.hid (stepB HB2.out b2)
    clear b2
    go_wp2_with fail
    go_ret
    exact ⟨by unfold airT; rw [HO.out, (air_fits HO.out).1]; rfl, HB3.out⟩
theorem atS_any (t p h : Int) (w : World) :
    Calls Tryd.prog 24 #[.agg #[.int .i64 t, .int .i64 p, .int .i64 h]] w (StrPost (airT t p h) w) := by
  have b0 : Below w.heap.size w (w.alloc (.cells #[.int .i64 t, .int .i64 p, .int .i64 h] 37)) := by ((repeat (first | with_reducible exact Below.refl _ _ | with_reducible apply below_drewN | with_reducible apply Below.drew | (with_reducible refine Below.alloc ?_ ?_ _) | (with_reducible refine Below.setCell ?_ ?_ _) | (with_reducible refine Below.trans ?_ (hb4.mono ?_)) | (with_reducible refine Below.trans ?_ (hb3.mono ?_)) | (with_reducible refine Below.trans ?_ (hb2.mono ?_)))); all_goals (first | (simp <;> omega) | (have h2s := hb2.size; (try simp at h2s); (try simp); omega) | (have h2s := hb2.size; have h3s := hb3.size; (try simp at h2s); (try simp at h3s); (try simp); omega) | (have h2s := hb2.size; have h3s := hb3.size; have h4s := hb4.size; (try simp at h2s); (try simp at h3s); (try simp at h4s); (try simp); omega)))
  go_enter Tryd.func24, Tryd.ntmps24
  go_wp2_with fail
  refine (okS_any _ t p h _ (by simp [go_sem]) (by simp [go_sem]) (by simp [go_sem])).mono ?_
  cases ho : airOk t p h with
  | false =>
    rintro e w1 ⟨rfl, b1⟩
    have HB := Lib.hid (stepB b0 b1)
    have HO := Lib.hid ho
    clear b0 b1
    go_wp2_with fail
    go_ret
    exact ⟨by unfold airT; rw [HO.out]; rfl, HB.out⟩
  | true =>
    rintro e w1 ⟨rfl, b1⟩
    have c0 : w1.cell? ⟨w.heap.size, 0, none⟩ = some (.int .i64 t) := (b1.cell (by simp)).trans (by simp [go_sem])
    have c1 : w1.cell? ⟨w.heap.size, 1, none⟩ = some (.int .i64 p) := (b1.cell (by simp)).trans (by simp [go_sem])
    have c2 : w1.cell? ⟨w.heap.size, 2, none⟩ = some (.int .i64 h) := (b1.cell (by simp)).trans (by simp [go_sem])
    have HB := Lib.hid (stepB b0 b1)
    have HO := Lib.hid ho
    clear b0 b1
    go_wp2_with (go_at_call 58; refine (l02Text_any _ t p h _ (air_fits HO.out).2 c0 c1 c2).mono ?_; rintro e w2 ⟨rfl, b2⟩; have HB2 := Lib.hid (stepB HB.out b2); clear b2)
    go_ret
    exact ⟨by unfold airT; rw [HO.out]; rfl, HB2.out⟩
theorem law_AirText (t : Int) (h0 : -9223372036854775808 ≤ t ∧ t ≤ 9223372036854775807) (p : Int) (h1 : -9223372036854775808 ≤ p ∧ p ≤ 9223372036854775807) (h : Int) (h2 : -9223372036854775808 ≤ h ∧ h ≤ 9223372036854775807) (w : World) (hp : Pow w) :
    Calls Tryd.prog 6 #[.agg #[.int .i64 t, .int .i64 p, .int .i64 h]] w fun e w' => e = .returned (.bool true) ∧ Below w.heap.size w w' := by
  have HP := Lib.hid hp
  clear hp
  go_enter Tryd.func6, Tryd.ntmps6
  go_wp2_with fail
  refine (toAir_any t p h _).mono ?_; rintro e w1 ⟨rfl, a1, a2, a3, t1, t2, t3, rfl⟩
  generalize hw1 : (((w.alloc (.cells #[.int .i64 t, .int .i64 p, .int .i64 h] 35)).alloc (.cells a1 t1)).alloc (.cells a2 t2)).alloc (.cells a3 t3) = w1
  have HB1 := Lib.hid (show Below w.heap.size w w1 by rw [← hw1]; exact by ((repeat (first | with_reducible exact Below.refl _ _ | with_reducible apply below_drewN | with_reducible apply Below.drew | (with_reducible refine Below.alloc ?_ ?_ _) | (with_reducible refine Below.setCell ?_ ?_ _) | (with_reducible refine Below.trans ?_ (hb4.mono ?_)) | (with_reducible refine Below.trans ?_ (hb3.mono ?_)) | (with_reducible refine Below.trans ?_ (hb2.mono ?_)))); all_goals (first | (simp <;> omega) | (have h2s := hb2.size; (try simp at h2s); (try simp); omega) | (have h2s := hb2.size; have h3s := hb3.size; (try simp at h2s); (try simp at h3s); (try simp); omega) | (have h2s := hb2.size; have h3s := hb3.size; have h4s := hb4.size; (try simp at h2s); (try simp at h3s); (try simp at h4s); (try simp); omega))))
  have d0 : w1.cell? ⟨w.heap.size, 0, none⟩ = some (.int .i64 t) := by rw [← hw1]; simp [go_sem, World.cell?_alloc_past]
  have d1 : w1.cell? ⟨w.heap.size, 1, none⟩ = some (.int .i64 p) := by rw [← hw1]; simp [go_sem, World.cell?_alloc_past]
  have d2 : w1.cell? ⟨w.heap.size, 2, none⟩ = some (.int .i64 h) := by rw [← hw1]; simp [go_sem, World.cell?_alloc_past]
  clear hw1
  go_wp2_with fail
  refine (atS_any t p h _).mono ?_; rintro e w2 ⟨rfl, b2⟩
  have e0 : w2.cell? ⟨w.heap.size, 0, none⟩ = some (.int .i64 t) := (b2.cell (World.block_lt_of_cell? w1 _ d0)).trans d0
  have e1 : w2.cell? ⟨w.heap.size, 1, none⟩ = some (.int .i64 p) := (b2.cell (World.block_lt_of_cell? w1 _ d1)).trans d1
  have e2 : w2.cell? ⟨w.heap.size, 2, none⟩ = some (.int .i64 h) := (b2.cell (World.block_lt_of_cell? w1 _ d2)).trans d2
  have HB2 := Lib.hid (stepB HB1.out b2)
  clear b2 d0 d1 d2
  go_wp2_with fail
  refine (toAir_any t p h _).mono ?_; rintro e w3 ⟨rfl, a1, a2, a3, t1, t2, t3, rfl⟩
  generalize hw3 : ((w2.alloc (.cells a1 t1)).alloc (.cells a2 t2)).alloc (.cells a3 t3) = w3
  have HB3 := Lib.hid (stepB HB2.out (show Below w2.heap.size w2 w3 by rw [← hw3]; exact by ((repeat (first | with_reducible exact Below.refl _ _ | with_reducible apply below_drewN | with_reducible apply Below.drew | (with_reducible refine Below.alloc ?_ ?_ _) | (with_reducible refine Below.setCell ?_ ?_ _) | (with_reducible refine Below.trans ?_ (hb4.mono ?_)) | (with_reducible refine Below.trans ?_ (hb3.mono ?_)) | (with_reducible refine Below.trans ?_ (hb2.mono ?_)))); all_goals (first | (simp <;> omega) | (have h2s := hb2.size; (try simp at h2s); (try simp); omega) | (have h2s := hb2.size; have h3s := hb3.size; (try simp at h2s); (try simp at h3s); (try simp); omega) | (have h2s := hb2.size; have h3s := hb3.size; have h4s := hb4.size; (try simp at h2s); (try simp at h3s); (try simp at h4s); (try simp); omega)))))
  have HP3 := Lib.hid (HP.out.step HB3.out)
  clear hw3 e0 e1 e2
  go_wp2_with fail
  refine (atP_any t p h _ HP3.out).mono ?_; rintro e w4 ⟨rfl, b4⟩
  have HB4 := Lib.hid (stepB HB3.out b4)
  clear b4
  go_wp2_with fail
  go_ret
  exact ⟨rfl, HB4.out⟩

/-! ### the row of FnExactAirText: the arguments are opened, the walk is met, each argument reads behind the call as before -/
namespace fnExactAirText
open Go.ChangeShapes Go.WideShapes Go.ChangeAt Go.RowKit Go.Joins
open Go.ChangeMaps (open_string shut_string)
set_option linter.unusedVariables false
set_option maxRecDepth 100000 in
theorem lifted (os : Os) (started : os.Started) (H : Type) (enc : TypeId × Value → H) :
    ReturnsInHanded {} Tryd.checked os 6 .any (fun w args => (Rows.fnExactAirTextSpec.pre enc Tryd.prog Tryd.f6 [] false w args ∧ laidMetH Tryd.prog Rows.fnExactAirTextRow.laid w) ∧ sizedMet enc Tryd.prog Tryd.f6 (OpenSpec.ofChange Rows.fnExactAirTextSpec) false w args) (Rows.fnExactAirTextSpec.post enc Tryd.prog Tryd.f6 false true false false) := by
  refine returnsInHanded_of_change_and (C := Tryd.checked) (X := fun w _ => laidMetH Tryd.prog Rows.fnExactAirTextRow.laid w) (fun _ _ _ hh h => h.of_heap hh) own started (by kernel_rfl) Tryd.func6
    (ChangeSpec.witness_shaped (enc := enc) (C := Tryd.checked) (os := os) (X := fun w _ => laidMetH Tryd.prog Rows.fnExactAirTextRow.laid w) false (World.doorLaid Tryd.prog 72 os) #[.agg #[.int .i64 0, .int .i64 0, .int .i64 0]] 8 rfl (World.shaped_of_RefB (by kernel_rfl) (by kernel_rfl)) (by kernel_rfl) (by kernel_rfl) (by kernel_rfl) (pow3_door os _)) ?_
  intro W base args ds gs before hval0 hW _ _ hL _
  have hval : ∀ (j : Nat) t v, Tryd.f6.params[j]? = some t → args[j]? = some v → Value.okWide Tryd.prog W .any base t v := hval0
  have hW' := hW
  obtain ⟨p, q, hA0, hV, rfl, hfz, hnd⟩ := hW
  have hA : DataW.TrodAll enc Tryd.prog W 0 (fun _ => true) true Tryd.f6.params.toList args.toList ds p := hA0
  rw [Tryd.params6] at hA hval
  obtain ⟨v0, vs0, d0, ds0, p0, q0, hargs, rfl, rfl, h0, r0⟩ := trodAll_cons hA
  obtain ⟨rfl, rfl, rfl⟩ := trodAll_nil r0
  obtain rfl : args = #[v0] := by cases args; simp_all
  obtain ⟨rfl, rfl⟩ := trodVars_none hV
  clear hA0 hval0
  simp only [List.append_nil] at hW'
  have lt0 : ∀ x ∈ p0, x.block < W.heap.size := fun x hx => by simpa using hW'.lt x (by simp [hx])
  have k0 := h0
  obtain ⟨c0_0, c0_1, c0_2, y0_0, y0_1, y0_2, m0, rfl, rfl, rfl, hy0_0, hy0_1, hy0_2⟩ := open_agg3 Tryd.underlying35 (by kernel_rfl) (by kernel_rfl) (hval 0 35 v0 rfl rfl) h0
  obtain ⟨a0_0, e0_0, z0_0, w0_0⟩ := DataW.trod_int Tryd.underlying2 hy0_0
  simp only [List.cons.injEq, and_true] at e0_0; subst e0_0
  obtain ⟨a0_1, e0_1, z0_1, w0_1⟩ := DataW.trod_int Tryd.underlying2 hy0_1
  simp only [List.cons.injEq, and_true] at e0_1; subst e0_1
  obtain ⟨a0_2, e0_2, z0_2, w0_2⟩ := DataW.trod_int Tryd.underlying2 hy0_2
  simp only [List.cons.injEq, and_true] at e0_2; subst e0_2
  refine (law_AirText a0_0 (wf_bd w0_0) a0_1 (wf_bd w0_1) a0_2 (wf_bd w0_2) W (pow3 hL)).mono fun e W' ⟨he, hb⟩ => ?_
  subst he
  exact ⟨_, rfl, _, _, _, _, _, [], hW', (trodAll_cons_mk (shut_bool Tryd.underlying4 _) trodAll_mk0), (trodAll_cons_mk (Below.trod laidOut (by kernel_rfl) (of_decide_eq_true (by kernel_rfl)) k0 hb lt0) trodAll_mk0), rfl, hb.frame _, fun h => by cases h⟩

theorem proved : Rows.FnExactAirTextSaid :=
  OpenClaim.holds_of_wide 6 Tryd.f6 rfl rfl rfl rfl rfl rfl rfl ⟨rfl, rfl, rfl, rfl, rfl⟩ rfl rfl rfl rfl rfl (by kernel_rfl) Tryd.func6 (by kernel_rfl)
    (of_decide_eq_true (by kernel_rfl)) (by unfold Func.isWrapper; first | (rw [if_pos (by decide +kernel)]; kernel_rfl) | (rw [if_neg (by decide +kernel)]; exact ⟨rfl, rfl⟩))
    (fun os started H enc _ => lifted os started H enc)
theorem card : Rows.FnExactAirTextCardSaid :=
  Claim7.holds_tied_plain_at .later [] _ true Rows.fnExactAirTextCard.stood.harness Rows.fnExactAirTextCard.stood.looks
    proved (fun _ h => by cases h) (by kernel_rfl) (fun _ h => by cases h) fnExactAirText_row_tie rfl ⟨rfl, rfl⟩ (by kernel_rfl) rfl
    (fun f fn hf hfn => by
      obtain rfl : f = 6 := Option.some.inj ((show Tryd.prog.funcNamed "loop.example/g01021/laws.FnExactAirText" = some 6 by kernel_rfl).symm.trans hf) |>.symm
      obtain rfl : fn = Tryd.f6 := (Option.some.inj (Tryd.func6.symm.trans hfn)).symm
      exact ⟨by kernel_rfl, fun j t ht => by
        rw [Tryd.params6] at ht
        have hm : t ∈ [35] := by simpa using Array.mem_of_getElem? ht
        have hall : ([35].all fun u => !Tryd.prog.wantsStandIn u) = true := by kernel_rfl
        exact (show Tryd.prog.wantsStandIn t = false by simpa using List.all_eq_true.1 hall t hm)⟩)
    (by kernel_rfl)
#print axioms card
end fnExactAirText
end Go.Proofs.YtfgfoggnhjchiaaDoor
