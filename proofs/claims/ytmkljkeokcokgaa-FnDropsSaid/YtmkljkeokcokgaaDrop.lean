/-
  The contracts of the drops and powers of both texts.
-/
import Derived.Test.YtmkljkeokcokgaaNum
import Derived.Test.YtmkljkeokcokgaaMono
namespace Go.Proofs.Ytmkljkeokcokgaa
open Go.RowKit
set_option linter.unusedVariables false

def dropF (r q : Int) : Int := dr (r * q * absI q) 10000000000
theorem drop_bd (r q : Int) (h1 : 1 ≤ r) (h2 : r ≤ 1000000) (h3 : -100001 ≤ q) (h4 : q ≤ 100001) :
    (-100001000000 ≤ r * q ∧ r * q ≤ 100001000000) ∧ (-20000000000000000 ≤ r * q * absI q ∧ r * q * absI q ≤ 20000000000000000) ∧ (0 ≤ absI q ∧ absI q ≤ 100001) ∧ -20000000 ≤ dropF r q ∧ dropF r q ≤ 20000000 := by
  have h5 : 0 ≤ absI q ∧ absI q ≤ 100001 := by unfold absI; split <;> omega
  have h6 := prod_bd q r 100001 1000000 h3 h4 (by omega) h2
  rw [Int.mul_comm q r] at h6
  have h6' : -100001000000 ≤ r * q ∧ r * q ≤ 100001000000 := by omega
  have h7 := prod_bd (r * q) (absI q) 100001000000 100001 h6'.1 h6'.2 h5.1 h5.2
  have h7' : -20000000000000000 ≤ r * q * absI q ∧ r * q * absI q ≤ 20000000000000000 := by
    revert h7; generalize r * q * absI q = P; intro h7; omega
  have h8 := dr_le (r * q * absI q) 10000000000 2000000 (by omega) (by omega) (absI_le h7'.1 h7'.2)
  refine ⟨h6', h7', h5, ?_⟩
  unfold dropF
  have := of_absI h8
  omega

theorem l03Abs_any (n : Int) (w : World) (h : -9223372036854775807 ≤ n) (h' : n ≤ 9223372036854775807) :
    Calls Try.prog 48 #[.int .i64 n] w fun e w' => e = .returned (.int .i64 (absI n)) ∧ w = w' := by
  go_enter Try.func48, Try.ntmps48
  go_wp2
  all_goals go_ret
  all_goals exact ⟨ret_int (by unfold absI; split <;> omega), rfl⟩

theorem dropOf_any (r q : Int) (w : World) (h1 : 1 ≤ r) (h2 : r ≤ 1000000) (h3 : -100001 ≤ q) (h4 : q ≤ 100001) :
    Calls Try.prog 46 #[.int .i64 r, .int .i64 q] w fun e w' => e = .returned (.int .i64 (dropF r q)) ∧ ∃ n, w' = w.drewN n := by
  have hb := drop_bd r q h1 h2 h3 h4
  go_enter Try.func46, Try.ntmps46
  go_wp2_with (first | (go_at_call 76; refine (abs_any _ _ (by omega) (by omega)).mono ?_; rintro e w' ⟨rfl, rfl⟩) | (first | (go_at_call 50; refine (l00In_any _ _ _ _).mono ?_; rintro e w' ⟨rfl, rfl⟩) | (go_at_call 52; refine (within_any _ _ _ _).mono ?_; rintro e w' ⟨rfl, rfl⟩) | (go_at_call 47; refine (l01Div_any _ _ _ (by omega) (by omega) (by omega) (by omega) (by omega)).mono ?_; rintro e w' ⟨rfl, rfl⟩) | (go_at_call 63; refine (divRound_any _ _ _ (by omega) (by omega) (by omega) (by omega) (by omega)).mono ?_; rintro e w' ⟨rfl, nq, rfl⟩) | go_in))
  go_ret
  exact ⟨rfl, _, rfl⟩
theorem l03Drop_any (r q : Int) (w : World) (h1 : 1 ≤ r) (h2 : r ≤ 1000000) (h3 : -100001 ≤ q) (h4 : q ≤ 100001) :
    Calls Try.prog 43 #[.int .i64 r, .int .i64 q] w fun e w' => e = .returned (.int .i64 (dropF r q)) ∧ ∃ n, w' = w.drewN n := by
  have hb := drop_bd r q h1 h2 h3 h4
  go_enter Try.func43, Try.ntmps43
  go_wp2_with (first | (go_at_call 48; refine (l03Abs_any _ _ (by omega) (by omega)).mono ?_; rintro e w' ⟨rfl, rfl⟩) | (first | (go_at_call 50; refine (l00In_any _ _ _ _).mono ?_; rintro e w' ⟨rfl, rfl⟩) | (go_at_call 52; refine (within_any _ _ _ _).mono ?_; rintro e w' ⟨rfl, rfl⟩) | (go_at_call 47; refine (l01Div_any _ _ _ (by omega) (by omega) (by omega) (by omega) (by omega)).mono ?_; rintro e w' ⟨rfl, rfl⟩) | (go_at_call 63; refine (divRound_any _ _ _ (by omega) (by omega) (by omega) (by omega) (by omega)).mono ?_; rintro e w' ⟨rfl, nq, rfl⟩) | go_in))
  go_ret
  exact ⟨rfl, 0, rfl⟩

def powF (r q : Int) : Int := dr (dropF r (absI q) * absI q) 100
theorem pow_bd (r q : Int) (h1 : 1 ≤ r) (h2 : r ≤ 1000000) (h3 : -100000 ≤ q) (h4 : q ≤ 100000) :
    (0 ≤ absI q ∧ absI q ≤ 100000) ∧ (-2000000000000 ≤ dropF r (absI q) * absI q ∧ dropF r (absI q) * absI q ≤ 2000000000000) := by
  have h5 : 0 ≤ absI q ∧ absI q ≤ 100000 := ⟨absI_nonneg q, absI_le (by omega) (by omega)⟩
  have hd := drop_bd r (absI q) h1 h2 (by omega) (by omega)
  have h6 := prod_bd (dropF r (absI q)) (absI q) 20000000 100000 (by omega) (by omega) (by omega) (by omega)
  exact ⟨h5, by revert h6; generalize dropF r (absI q) * absI q = P; intro h6; omega⟩

theorem airPowerP_any (r q : Int) (w : World) (h1 : 1 ≤ r) (h2 : r ≤ 1000000) (h3 : -100000 ≤ q) (h4 : q ≤ 100000) :
    Calls Try.prog 49 #[.int .i64 r, .int .i64 q] w fun e w' => e = .returned (.int .i64 (powF r q)) ∧ ∃ n, w' = w.drewN n := by
  have hb := pow_bd r q h1 h2 h3 h4
  go_enter Try.func49, Try.ntmps49
  go_wp2_with (first | (go_at_call 76; refine (abs_any _ _ (by omega) (by omega)).mono ?_; rintro e w' ⟨rfl, rfl⟩) | (go_at_call 46; refine (dropOf_any _ _ _ h1 h2 (by omega) (by omega)).mono ?_; rintro e w' ⟨rfl, nd, rfl⟩) | (first | (go_at_call 50; refine (l00In_any _ _ _ _).mono ?_; rintro e w' ⟨rfl, rfl⟩) | (go_at_call 52; refine (within_any _ _ _ _).mono ?_; rintro e w' ⟨rfl, rfl⟩) | (go_at_call 47; refine (l01Div_any _ _ _ (by omega) (by omega) (by omega) (by omega) (by omega)).mono ?_; rintro e w' ⟨rfl, rfl⟩) | (go_at_call 63; refine (divRound_any _ _ _ (by omega) (by omega) (by omega) (by omega) (by omega)).mono ?_; rintro e w' ⟨rfl, nq, rfl⟩) | go_in))
  go_ret
  exact ⟨rfl, _, rfl⟩
end Go.Proofs.Ytmkljkeokcokgaa
