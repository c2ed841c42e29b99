/-
  The contracts of the two densities.
-/
import Derived.Test.YtjpmbjhkolgiiaaNum
import Derived.Test.YtjpmbjhkolgiiaaMono
namespace Go.Proofs.Ytjpmbjhkolgiiaa
open Go.RowKit
set_option linter.unusedVariables false

def densF (t p : Int) : Int := dr (4000000 * p) (57410 * (5463 + 2 * t))
theorem dens_bd (t p : Int) (h1 : -100 ≤ t) (h2 : t ≤ 600) (h3 : 0 ≤ p) (h4 : p ≤ 300000) : 0 ≤ densF t p ∧ densF t p ≤ 4001 := by
  have a := dr_nonneg (4000000 * p) (57410 * (5463 + 2 * t)) (by omega) (by omega)
  have b := of_absI (dr_le (4000000 * p) (57410 * (5463 + 2 * t)) 4000 (by omega) (by omega) (absI_le (by omega) (by omega)))
  unfold densF; omega
theorem densP_any (t p : Int) (w : World) (h1 : -100 ≤ t) (h2 : t ≤ 600) (h3 : 0 ≤ p) (h4 : p ≤ 300000) :
    Calls Try.prog 50 #[.int .i64 t, .int .i64 p] w fun e w' => e = .returned (.int .i64 (densF t p)) ∧ ∃ q, w' = w.drewN q := by
  go_enter Try.func50, Try.ntmps50
  go_wp2_with (first | (go_at_call 69; refine (l00In_any _ _ _ _).mono ?_; rintro e w' ⟨rfl, rfl⟩) | (go_at_call 73; refine (within_any _ _ _ _).mono ?_; rintro e w' ⟨rfl, rfl⟩) | (go_at_call 76; refine (l01Div_any _ _ _ (by omega) (by omega) (by omega) (by omega) (by omega)).mono ?_; rintro e w' ⟨rfl, rfl⟩) | (go_at_call 51; refine (divRound_any _ _ _ (by omega) (by omega) (by omega) (by omega) (by omega)).mono ?_; rintro e w' ⟨rfl, nq, rfl⟩) | go_in)
  go_ret
  exact ⟨rfl, _, rfl⟩
theorem densS_any (t p : Int) (w : World) (h1 : -100 ≤ t) (h2 : t ≤ 600) (h3 : 0 ≤ p) (h4 : p ≤ 300000) :
    Calls Try.prog 84 #[.int .i64 t, .int .i64 p] w fun e w' => e = .returned (.int .i64 (densF t p)) ∧ ∃ q, w' = w.drewN q := by
  go_enter Try.func84, Try.ntmps84
  go_wp2_with (first | (go_at_call 69; refine (l00In_any _ _ _ _).mono ?_; rintro e w' ⟨rfl, rfl⟩) | (go_at_call 73; refine (within_any _ _ _ _).mono ?_; rintro e w' ⟨rfl, rfl⟩) | (go_at_call 76; refine (l01Div_any _ _ _ (by omega) (by omega) (by omega) (by omega) (by omega)).mono ?_; rintro e w' ⟨rfl, rfl⟩) | (go_at_call 51; refine (divRound_any _ _ _ (by omega) (by omega) (by omega) (by omega) (by omega)).mono ?_; rintro e w' ⟨rfl, nq, rfl⟩) | go_in)
  go_ret
  exact ⟨rfl, 0, rfl⟩

end Go.Proofs.Ytjpmbjhkolgiiaa
