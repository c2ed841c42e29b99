/-
  FnExactPressureAtDepth: for all arguments the program's PressureAtDepth returns what the reference's returns.
-/
import Derived.Test.YtmkljkeokcokgaaPress
import Derived.Test.YtmkljkeokcokgaaNum
import Derived.RowKit3
import Derived.ProofKit
import Derived.OpenShut
import Derived.Lib.SmallJoins
namespace Go.Proofs.Ytmkljkeokcokgaa
open Go.RowKit
set_option linter.unusedVariables false

theorem ret2 {a a' b b' : Int} (h : a = a') (h' : b = b') : Ending.returned (.tuple #[.int .i64 a, .int .i64 b]) = .returned (.tuple #[.int .i64 a', .int .i64 b']) := by rw [h, h']
def presV (t p d : Int) : Int := if 150000 < pres 31 t p d then 0 else pres 31 t p d
def presC (t p d : Int) : Int := if 150000 < pres 31 t p d then 6 else 0
theorem pres_hi {t p d : Int} (h : 150000 < pres 31 t p d) : presV t p d = 0 ∧ presC t p d = 6 := by unfold presV presC; rw [if_pos h, if_pos h]; exact ⟨rfl, rfl⟩
theorem pres_lo {t p d : Int} (h : ¬ 150000 < pres 31 t p d) : presV t p d = pres 31 t p d ∧ presC t p d = 0 := by unfold presV presC; rw [if_neg h, if_neg h]; exact ⟨rfl, rfl⟩

theorem presP_any (t p d : Int) (w : World) (g1 : inB t (-100) 600 = true) (g2 : inB p 50000 150000 = true) (g3 : inB d 0 3000 = true) :
    Calls Try.prog 34 #[.int .i64 t, .int .i64 p, .int .i64 d] w fun e w' => e = .returned (.tuple #[.int .i64 (presV t p d), .int .i64 (presC t p d)]) ∧ ∃ q, w' = w.drewN q := by
  have b1 := inB_true.1 g1
  have b2 := inB_true.1 g2
  have b3 := inB_true.1 g3
  go_enter Try.func34, Try.ntmps34
  go_wp2_with (first | (go_at_call 50; refine (l00In_any _ _ _ _).mono ?_; rintro e w' ⟨rfl, rfl⟩) | (go_at_call 52; refine (within_any _ _ _ _).mono ?_; rintro e w' ⟨rfl, rfl⟩) | (go_at_call 47; refine (l01Div_any _ _ _ (by omega) (by omega) (by omega) (by omega) (by omega)).mono ?_; rintro e w' ⟨rfl, rfl⟩) | (go_at_call 63; refine (divRound_any _ _ _ (by omega) (by omega) (by omega) (by omega) (by omega)).mono ?_; rintro e w' ⟨rfl, nq, rfl⟩) | go_in)
  go_loopw [1, 2] (fun a b wr => ∃ (n : Nat) (x y : Int), n ≤ 31 ∧ 0 ≤ x ∧ x ≤ 150000 ∧ 0 ≤ y ∧ y + 100 ≤ 100 * (n : Int) ∧ a = .int .i64 x ∧ b = .int .i64 y ∧ pres n t x y = pres 31 t p d ∧ ∃ q, wr = w.drewN q) (fun _ b _ => (intOf b).toNat)
  case atStart => exact ⟨31, p, d, by omega, by omega, by omega, by omega, by omega, rfl, rfl, rfl, 0, rfl⟩
  case round =>
    obtain ⟨n, x, y, hn, hx0, hx1, hy0, hyn, rfl, rfl, hp, q, rfl⟩ := hrel
    have HP := Lib.hid hp
    clear hp
    by_cases hy : 0 < y
    · obtain ⟨m, rfl⟩ : ∃ m, n = m + 1 := ⟨n - 1, by omega⟩
      have hs := Lib.hid (pres_step m t x y hy)
      by_cases hl : y ≤ 100
      · have HI := Lib.hid (show (if y < 100 then y else 100) = y by split <;> omega)
        have hb := step_bd t x y b1.1 b1.2 (by omega) (by omega) (by omega) (by omega)
        unfold stepP at hb
        have hge := Lib.hid (pres_ge m t (stepP t x y) (y - y) b1.1 b1.2 (by unfold stepP; omega) (by unfold stepP; omega))
        have hdb := dens_bd t x b1.1 b1.2 (by omega) (by omega)
        by_cases hc : 150000 < x + dr (981 * y * densF t x) 100000
        · go_wp2_with (first | (go_at_call 69; refine (densP_any _ _ _ (by omega) (by omega) (by omega) (by omega)).mono ?_; rintro e w' ⟨rfl, nd, rfl⟩) | (first | (go_at_call 50; refine (l00In_any _ _ _ _).mono ?_; rintro e w' ⟨rfl, rfl⟩) | (go_at_call 52; refine (within_any _ _ _ _).mono ?_; rintro e w' ⟨rfl, rfl⟩) | (go_at_call 47; refine (l01Div_any _ _ _ (by omega) (by omega) (by omega) (by omega) (by omega)).mono ?_; rintro e w' ⟨rfl, rfl⟩) | (go_at_call 63; refine (divRound_any _ _ _ (by omega) (by omega) (by omega) (by omega) (by omega)).mono ?_; rintro e w' ⟨rfl, nq, rfl⟩) | go_in))
          go_ret2
          have hh : 150000 < pres 31 t p d := by
            have h1 := hge.out
            have h2 := hs.out
            rw [HI.out] at h2
            rw [← HP.out, h2]
            unfold stepP at h1 ⊢
            omega
          exact ⟨ret2 (pres_hi hh).1.symm (pres_hi hh).2.symm, _, rfl⟩
        · go_wp2_with (first | (go_at_call 69; refine (densP_any _ _ _ (by omega) (by omega) (by omega) (by omega)).mono ?_; rintro e w' ⟨rfl, nd, rfl⟩) | (first | (go_at_call 50; refine (l00In_any _ _ _ _).mono ?_; rintro e w' ⟨rfl, rfl⟩) | (go_at_call 52; refine (within_any _ _ _ _).mono ?_; rintro e w' ⟨rfl, rfl⟩) | (go_at_call 47; refine (l01Div_any _ _ _ (by omega) (by omega) (by omega) (by omega) (by omega)).mono ?_; rintro e w' ⟨rfl, rfl⟩) | (go_at_call 63; refine (divRound_any _ _ _ (by omega) (by omega) (by omega) (by omega) (by omega)).mono ?_; rintro e w' ⟨rfl, nq, rfl⟩) | go_in))
          go_roundw
          case rel => exact ⟨m, _, _, by omega, by omega, by omega, by omega, by omega, rfl, rfl, by rw [← HP.out, hs.out, HI.out]; first | rfl | (rw [pres_done _ _ _ _ (by omega), pres_done _ _ _ _ (by omega)]; rfl), _, rfl⟩
          case measure => simp [intOf]; omega
      · have hl' : 100 < y := by omega
        have HI := Lib.hid (show (if y < 100 then y else 100) = 100 by split <;> omega)
        have hb := step_bd t x 100 b1.1 b1.2 (by omega) (by omega) (by omega) (by omega)
        unfold stepP at hb
        simp only [show (981 : Int) * 100 = 98100 from rfl] at hb
        have hw : 0 ≤ 98100 * densF t x ∧ 98100 * densF t x ≤ 400000000 := by omega
        have hge := Lib.hid (pres_ge m t (stepP t x 100) (y - 100) b1.1 b1.2 (by unfold stepP; rw [show (981 : Int) * 100 = 98100 from rfl]; omega) (by unfold stepP; rw [show (981 : Int) * 100 = 98100 from rfl]; omega))
        have hdb := dens_bd t x b1.1 b1.2 (by omega) (by omega)
        by_cases hc : 150000 < x + dr (98100 * densF t x) 100000
        · go_wp2_with (first | (go_at_call 69; refine (densP_any _ _ _ (by omega) (by omega) (by omega) (by omega)).mono ?_; rintro e w' ⟨rfl, nd, rfl⟩) | (first | (go_at_call 50; refine (l00In_any _ _ _ _).mono ?_; rintro e w' ⟨rfl, rfl⟩) | (go_at_call 52; refine (within_any _ _ _ _).mono ?_; rintro e w' ⟨rfl, rfl⟩) | (go_at_call 47; refine (l01Div_any _ _ _ (by omega) (by omega) (by omega) (by omega) (by omega)).mono ?_; rintro e w' ⟨rfl, rfl⟩) | (go_at_call 63; refine (divRound_any _ _ _ (by omega) (by omega) (by omega) (by omega) (by omega)).mono ?_; rintro e w' ⟨rfl, nq, rfl⟩) | go_in))
          go_ret2
          have hh : 150000 < pres 31 t p d := by
            have h1 := hge.out
            have h2 := hs.out
            rw [HI.out] at h2
            rw [← HP.out, h2]
            unfold stepP at h1 ⊢
            rw [show (981 : Int) * 100 = 98100 from rfl] at h1 ⊢
            omega
          exact ⟨ret2 (pres_hi hh).1.symm (pres_hi hh).2.symm, _, rfl⟩
        · go_wp2_with (first | (go_at_call 69; refine (densP_any _ _ _ (by omega) (by omega) (by omega) (by omega)).mono ?_; rintro e w' ⟨rfl, nd, rfl⟩) | (first | (go_at_call 50; refine (l00In_any _ _ _ _).mono ?_; rintro e w' ⟨rfl, rfl⟩) | (go_at_call 52; refine (within_any _ _ _ _).mono ?_; rintro e w' ⟨rfl, rfl⟩) | (go_at_call 47; refine (l01Div_any _ _ _ (by omega) (by omega) (by omega) (by omega) (by omega)).mono ?_; rintro e w' ⟨rfl, rfl⟩) | (go_at_call 63; refine (divRound_any _ _ _ (by omega) (by omega) (by omega) (by omega) (by omega)).mono ?_; rintro e w' ⟨rfl, nq, rfl⟩) | go_in))
          go_roundw
          case rel => exact ⟨m, _, _, by omega, by omega, by omega, by omega, by omega, rfl, rfl, by rw [← HP.out, hs.out, HI.out]; first | rfl | (rw [pres_done _ _ _ _ (by omega), pres_done _ _ _ _ (by omega)]; rfl), _, rfl⟩
          case measure => simp [intOf]; omega
    · obtain rfl : y = 0 := by omega
      have hd := Lib.hid (pres_done n t x 0 (by omega))
      go_wp2_with fail
      go_ret2
      have hh : ¬ 150000 < pres 31 t p d := by rw [← HP.out, hd.out]; omega
      exact ⟨ret2 (by rw [(pres_lo hh).1, ← HP.out, hd.out]) (pres_lo hh).2.symm, _, rfl⟩

theorem presS_any (t p d : Int) (w : World) (g1 : inB t (-100) 600 = true) (g2 : inB p 50000 150000 = true) (g3 : inB d 0 3000 = true) :
    Calls Try.prog 33 #[.int .i64 t, .int .i64 p, .int .i64 d] w fun e w' => e = .returned (.tuple #[.int .i64 (presV t p d), .int .i64 (presC t p d)]) ∧ ∃ q, w' = w.drewN q := by
  have b1 := inB_true.1 g1
  have b2 := inB_true.1 g2
  have b3 := inB_true.1 g3
  go_enter Try.func33, Try.ntmps33
  go_wp2_with (first | (go_at_call 50; refine (l00In_any _ _ _ _).mono ?_; rintro e w' ⟨rfl, rfl⟩) | (go_at_call 52; refine (within_any _ _ _ _).mono ?_; rintro e w' ⟨rfl, rfl⟩) | (go_at_call 47; refine (l01Div_any _ _ _ (by omega) (by omega) (by omega) (by omega) (by omega)).mono ?_; rintro e w' ⟨rfl, rfl⟩) | (go_at_call 63; refine (divRound_any _ _ _ (by omega) (by omega) (by omega) (by omega) (by omega)).mono ?_; rintro e w' ⟨rfl, nq, rfl⟩) | go_in)
  go_loopw [8, 9] (fun a b wr => ∃ (n : Nat) (x y : Int), n ≤ 31 ∧ 0 ≤ x ∧ x + 4001 * (n : Int) ≤ 150000 + 4001 * 31 ∧ 0 ≤ y ∧ y ≤ 3100 ∧ (d - y) + 100 ≤ 100 * (n : Int) ∧ a = .int .i64 x ∧ b = .int .i64 y ∧ pres n t x (d - y) = pres 31 t p d ∧ ∃ q, wr = w.drewN q) (fun _ b _ => (3200 - intOf b).toNat)
  case atStart => exact ⟨31, p, 0, by omega, by omega, by omega, by omega, by omega, by omega, rfl, rfl, by rw [Int.sub_zero], 0, rfl⟩
  case round =>
    obtain ⟨n, x, y, hn, hx0, hx1, hy0, hyn, hyd, rfl, rfl, hp, q, rfl⟩ := hrel
    have HP := Lib.hid hp
    clear hp
    by_cases hy : y < d
    · obtain ⟨m, rfl⟩ : ∃ m, n = m + 1 := ⟨n - 1, by omega⟩
      have hs := Lib.hid (pres_step m t x (d - y) (by omega))
      by_cases hl : d - y ≤ 100
      · have HI := Lib.hid (show (if d - y < 100 then d - y else 100) = d - y by split <;> omega)
        have hb := step_bd t x (d - y) b1.1 b1.2 (by omega) (by omega) (by omega) (by omega)
        unfold stepP at hb
        have hdb := dens_bd t x b1.1 b1.2 (by omega) (by omega)
        go_wp2_with (first | (go_at_call 66; refine (densS_any _ _ _ (by omega) (by omega) (by omega) (by omega)).mono ?_; rintro e w' ⟨rfl, nd, rfl⟩) | (first | (go_at_call 50; refine (l00In_any _ _ _ _).mono ?_; rintro e w' ⟨rfl, rfl⟩) | (go_at_call 52; refine (within_any _ _ _ _).mono ?_; rintro e w' ⟨rfl, rfl⟩) | (go_at_call 47; refine (l01Div_any _ _ _ (by omega) (by omega) (by omega) (by omega) (by omega)).mono ?_; rintro e w' ⟨rfl, rfl⟩) | (go_at_call 63; refine (divRound_any _ _ _ (by omega) (by omega) (by omega) (by omega) (by omega)).mono ?_; rintro e w' ⟨rfl, nq, rfl⟩) | go_in))
        go_roundw
        case rel => exact ⟨m, _, _, by omega, by omega, by omega, by omega, by omega, by omega, rfl, rfl, by rw [← HP.out, hs.out, HI.out]; first | rfl | (rw [pres_done _ _ _ _ (by omega), pres_done _ _ _ _ (by omega)]; rfl), _, rfl⟩
        case measure => simp [intOf]; omega
      · have hl' : 100 < d - y := by omega
        have HI := Lib.hid (show (if d - y < 100 then d - y else 100) = 100 by split <;> omega)
        have hb := step_bd t x 100 b1.1 b1.2 (by omega) (by omega) (by omega) (by omega)
        unfold stepP at hb
        simp only [show (981 : Int) * 100 = 98100 from rfl] at hb
        have hw : 0 ≤ 98100 * densF t x ∧ 98100 * densF t x ≤ 400000000 := by omega
        have hdb := dens_bd t x b1.1 b1.2 (by omega) (by omega)
        go_wp2_with (first | (go_at_call 66; refine (densS_any _ _ _ (by omega) (by omega) (by omega) (by omega)).mono ?_; rintro e w' ⟨rfl, nd, rfl⟩) | (first | (go_at_call 50; refine (l00In_any _ _ _ _).mono ?_; rintro e w' ⟨rfl, rfl⟩) | (go_at_call 52; refine (within_any _ _ _ _).mono ?_; rintro e w' ⟨rfl, rfl⟩) | (go_at_call 47; refine (l01Div_any _ _ _ (by omega) (by omega) (by omega) (by omega) (by omega)).mono ?_; rintro e w' ⟨rfl, rfl⟩) | (go_at_call 63; refine (divRound_any _ _ _ (by omega) (by omega) (by omega) (by omega) (by omega)).mono ?_; rintro e w' ⟨rfl, nq, rfl⟩) | go_in))
        go_roundw
        case rel => exact ⟨m, _, _, by omega, by omega, by omega, by omega, by omega, by omega, rfl, rfl, by rw [← HP.out, hs.out, HI.out, Int.sub_sub]; rfl, _, rfl⟩
        case measure => simp [intOf]; omega
    · have hd := Lib.hid (pres_done n t x (d - y) (by omega))
      by_cases hc : 150000 < x
      · go_wp2_with fail
        go_ret2
        have hh : 150000 < pres 31 t p d := by rw [← HP.out, hd.out]; omega
        exact ⟨ret2 (pres_hi hh).1.symm (pres_hi hh).2.symm, _, rfl⟩
      · go_wp2_with fail
        go_ret2
        have hh : ¬ 150000 < pres 31 t p d := by rw [← HP.out, hd.out]; omega
        exact ⟨ret2 (by rw [(pres_lo hh).1, ← HP.out, hd.out]) (pres_lo hh).2.symm, _, rfl⟩

theorem law_PressureAtDepth (t : Int) (_ : -9223372036854775808 ≤ t ∧ t ≤ 9223372036854775807) (p : Int) (_ : -9223372036854775808 ≤ p ∧ p ≤ 9223372036854775807) (d : Int) (_ : -9223372036854775808 ≤ d ∧ d ≤ 9223372036854775807) (w : World)  :
    Calls Try.prog 11 #[.int .i64 t, .int .i64 p, .int .i64 d] w fun e w' => e = .returned (.bool true) ∧ Below w.heap.size w w' := by
  by_cases g0 : inB t (-100) 600 = true
  · have b0 := inB_true.1 g0
    by_cases g1 : inB p 50000 150000 = true
    · have b1 := inB_true.1 g1
      by_cases g2 : inB d 0 3000 = true
      · have b2 := inB_true.1 g2
        go_enter Try.func11, Try.ntmps11
        go_wp2_with (first | (go_at_call 34; refine (presP_any _ _ _ _ (by assumption) (by assumption) (by assumption)).mono ?_; rintro e w' ⟨rfl, n1, rfl⟩) | (go_at_call 33; refine (presS_any _ _ _ _ (by assumption) (by assumption) (by assumption)).mono ?_; rintro e w' ⟨rfl, n2, rfl⟩) | (first | (go_at_call 50; refine (l00In_any _ _ _ _).mono ?_; rintro e w' ⟨rfl, rfl⟩) | (go_at_call 52; refine (within_any _ _ _ _).mono ?_; rintro e w' ⟨rfl, rfl⟩) | (go_at_call 47; refine (l01Div_any _ _ _ (by omega) (by omega) (by omega) (by omega) (by omega)).mono ?_; rintro e w' ⟨rfl, rfl⟩) | (go_at_call 63; refine (divRound_any _ _ _ (by omega) (by omega) (by omega) (by omega) (by omega)).mono ?_; rintro e w' ⟨rfl, nq, rfl⟩) | go_in))
        go_ret
        exact ⟨rfl, by repeat (first | exact Below.refl _ _ | apply below_drewN | apply Below.drew | (refine Below.alloc ?_ (by simp <;> omega) _) | (refine Below.setCell ?_ (by simp <;> omega) _))⟩
      · simp only [Bool.not_eq_true] at g2
        go_enter Try.func11, Try.ntmps11
        go_wp2_with (first | (go_at_call 34; refine (presP_any _ _ _ _ (by assumption) (by assumption) (by assumption)).mono ?_; rintro e w' ⟨rfl, n1, rfl⟩) | (go_at_call 33; refine (presS_any _ _ _ _ (by assumption) (by assumption) (by assumption)).mono ?_; rintro e w' ⟨rfl, n2, rfl⟩) | (first | (go_at_call 50; refine (l00In_any _ _ _ _).mono ?_; rintro e w' ⟨rfl, rfl⟩) | (go_at_call 52; refine (within_any _ _ _ _).mono ?_; rintro e w' ⟨rfl, rfl⟩) | (go_at_call 47; refine (l01Div_any _ _ _ (by omega) (by omega) (by omega) (by omega) (by omega)).mono ?_; rintro e w' ⟨rfl, rfl⟩) | (go_at_call 63; refine (divRound_any _ _ _ (by omega) (by omega) (by omega) (by omega) (by omega)).mono ?_; rintro e w' ⟨rfl, nq, rfl⟩) | go_in))
        go_ret
        exact ⟨rfl, by repeat (first | exact Below.refl _ _ | apply below_drewN | apply Below.drew | (refine Below.alloc ?_ (by simp <;> omega) _) | (refine Below.setCell ?_ (by simp <;> omega) _))⟩
    · simp only [Bool.not_eq_true] at g1
      go_enter Try.func11, Try.ntmps11
      go_wp2_with (first | (go_at_call 34; refine (presP_any _ _ _ _ (by assumption) (by assumption) (by assumption)).mono ?_; rintro e w' ⟨rfl, n1, rfl⟩) | (go_at_call 33; refine (presS_any _ _ _ _ (by assumption) (by assumption) (by assumption)).mono ?_; rintro e w' ⟨rfl, n2, rfl⟩) | (first | (go_at_call 50; refine (l00In_any _ _ _ _).mono ?_; rintro e w' ⟨rfl, rfl⟩) | (go_at_call 52; refine (within_any _ _ _ _).mono ?_; rintro e w' ⟨rfl, rfl⟩) | (go_at_call 47; refine (l01Div_any _ _ _ (by omega) (by omega) (by omega) (by omega) (by omega)).mono ?_; rintro e w' ⟨rfl, rfl⟩) | (go_at_call 63; refine (divRound_any _ _ _ (by omega) (by omega) (by omega) (by omega) (by omega)).mono ?_; rintro e w' ⟨rfl, nq, rfl⟩) | go_in))
      go_ret
      exact ⟨rfl, by repeat (first | exact Below.refl _ _ | apply below_drewN | apply Below.drew | (refine Below.alloc ?_ (by simp <;> omega) _) | (refine Below.setCell ?_ (by simp <;> omega) _))⟩
  · simp only [Bool.not_eq_true] at g0
    go_enter Try.func11, Try.ntmps11
    go_wp2_with (first | (go_at_call 34; refine (presP_any _ _ _ _ (by assumption) (by assumption) (by assumption)).mono ?_; rintro e w' ⟨rfl, n1, rfl⟩) | (go_at_call 33; refine (presS_any _ _ _ _ (by assumption) (by assumption) (by assumption)).mono ?_; rintro e w' ⟨rfl, n2, rfl⟩) | (first | (go_at_call 50; refine (l00In_any _ _ _ _).mono ?_; rintro e w' ⟨rfl, rfl⟩) | (go_at_call 52; refine (within_any _ _ _ _).mono ?_; rintro e w' ⟨rfl, rfl⟩) | (go_at_call 47; refine (l01Div_any _ _ _ (by omega) (by omega) (by omega) (by omega) (by omega)).mono ?_; rintro e w' ⟨rfl, rfl⟩) | (go_at_call 63; refine (divRound_any _ _ _ (by omega) (by omega) (by omega) (by omega) (by omega)).mono ?_; rintro e w' ⟨rfl, nq, rfl⟩) | go_in))
    go_ret
    exact ⟨rfl, by repeat (first | exact Below.refl _ _ | apply below_drewN | apply Below.drew | (refine Below.alloc ?_ (by simp <;> omega) _) | (refine Below.setCell ?_ (by simp <;> omega) _))⟩

/-! ### the row of FnExactPressureAtDepth: the arguments are opened, the walk is met, each argument reads behind the call as before -/
namespace fnExactPressureAtDepth
open Go.ChangeShapes Go.WideShapes Go.ChangeAt Go.RowKit Go.Joins
open Go.ChangeMaps (open_string shut_string)
set_option linter.unusedVariables false
set_option maxRecDepth 100000 in
theorem lifted (os : Os) (started : os.Started) (H : Type) (enc : TypeId × Value → H) :
    ReturnsInHanded {} Try.checked os 11 .any (Rows.fnExactPressureAtDepthSpec.pre6 enc Try.prog Try.f11 Rows.fnExactPressureAtDepthRow.domain false) (Rows.fnExactPressureAtDepthSpec.post enc Try.prog Try.f11 false true false false) := by
  refine returnsInHanded_of_change (C := Try.checked) own started (by kernel_rfl) Try.func11
    (ChangeSpec.witness6 (enc := enc) (C := Try.checked) false ⟨#[], #[.int .i64 0, .int .i64 0, .int .i64 0], []⟩ 8 (by kernel_rfl) (by kernel_rfl) (by kernel_rfl) (by kernel_rfl)) ?_
  intro W base args ds gs before hval0 hW hcnd _
  have hval : ∀ (j : Nat) t v, Try.f11.params[j]? = some t → args[j]? = some v → Value.okWide Try.prog W .any base t v := hval0
  have hW' := hW
  obtain ⟨p, q, hA0, hV, rfl, hfz, hnd⟩ := hW
  have hA : DataW.TrodAll enc Try.prog W 0 (fun _ => true) true Try.f11.params.toList args.toList ds p := hA0
  rw [Try.params11] at hA hval
  obtain ⟨v0, vs0, d0, ds0, p0, q0, hargs, rfl, rfl, h0, r0⟩ := trodAll_cons hA
  obtain ⟨v1, vs1, d1, ds1, p1, q1, rfl, rfl, rfl, h1, r1⟩ := trodAll_cons r0
  obtain ⟨v2, vs2, d2, ds2, p2, q2, rfl, rfl, rfl, h2, r2⟩ := trodAll_cons r1
  obtain ⟨rfl, rfl, rfl⟩ := trodAll_nil r2
  obtain rfl : args = #[v0, v1, v2] := by cases args; simp_all
  obtain ⟨rfl, rfl⟩ := trodVars_none hV
  clear hA0 hval0
  simp only [List.append_nil] at hW'
  have lt0 : ∀ x ∈ p0, x.block < W.heap.size := fun x hx => by simpa using hW'.lt x (by simp [hx])
  have k0 := h0
  have lt1 : ∀ x ∈ p1, x.block < W.heap.size := fun x hx => by simpa using hW'.lt x (by simp [hx])
  have k1 := h1
  have lt2 : ∀ x ∈ p2, x.block < W.heap.size := fun x hx => by simpa using hW'.lt x (by simp [hx])
  have k2 := h2
  obtain ⟨a0, rfl, rfl, rfl, w0⟩ := open_int Try.underlying2 (hval 0 2 v0 rfl rfl) h0
  obtain ⟨a1, rfl, rfl, rfl, w1⟩ := open_int Try.underlying2 (hval 1 2 v1 rfl rfl) h1
  obtain ⟨a2, rfl, rfl, rfl, w2⟩ := open_int Try.underlying2 (hval 2 2 v2 rfl rfl) h2
  refine (law_PressureAtDepth a0 (wf_bd w0) a1 (wf_bd w1) a2 (wf_bd w2) W).mono fun e W' ⟨he, hb⟩ => ?_
  subst he
  exact ⟨_, rfl, _, _, _, _, _, [], hW', (trodAll_cons_mk (shut_bool Try.underlying4 _) trodAll_mk0), (trodAll_cons_mk (Below.trod laidOut (by kernel_rfl) (of_decide_eq_true (by kernel_rfl)) k0 hb lt0) (trodAll_cons_mk (Below.trod laidOut (by kernel_rfl) (of_decide_eq_true (by kernel_rfl)) k1 hb lt1) (trodAll_cons_mk (Below.trod laidOut (by kernel_rfl) (of_decide_eq_true (by kernel_rfl)) k2 hb lt2) trodAll_mk0))), rfl, hb.frame _, fun h => by cases h⟩

theorem proved : Rows.FnExactPressureAtDepthSaid :=
  OpenClaim.holds_of_wide 11 Try.f11 rfl rfl rfl rfl rfl rfl rfl ⟨rfl, rfl, rfl, rfl, rfl⟩ rfl rfl rfl rfl rfl (by kernel_rfl) Try.func11 (by kernel_rfl)
    (of_decide_eq_true (by kernel_rfl)) (by unfold Func.isWrapper; first | (rw [if_pos (by decide +kernel)]; kernel_rfl) | (rw [if_neg (by decide +kernel)]; exact ⟨rfl, rfl⟩))
    (fun os started H enc _ => lifted os started H enc)
#print axioms proved
end fnExactPressureAtDepth
end Go.Proofs.Ytmkljkeokcokgaa
