/-
  The contracts of the two densities, and the plain law of the pressure at a depth.
-/
import Derived.Test.YtmkljkeokcokgaaNum
import Derived.Test.YtmkljkeokcokgaaMono
namespace Go.Proofs.Ytmkljkeokcokgaa
open Go.RowKit
set_option linter.unusedVariables false

def densF (t p : Int) : Int := dr (4000000 * p) (57410 * (5463 + 2 * t))
theorem dens_bd (t p : Int) (h1 : -100 ≤ t) (h2 : t ≤ 600) (h3 : 0 ≤ p) (h4 : p ≤ 300000) : 0 ≤ densF t p ∧ densF t p ≤ 4001 := by
  have a := dr_nonneg (4000000 * p) (57410 * (5463 + 2 * t)) (by omega) (by omega)
  have b := of_absI (dr_le (4000000 * p) (57410 * (5463 + 2 * t)) 4000 (by omega) (by omega) (absI_le (by omega) (by omega)))
  unfold densF; omega
def stepP (t p h : Int) : Int := p + dr (981 * h * densF t p) 100000
theorem step_bd (t p h : Int) (h1 : -100 ≤ t) (h2 : t ≤ 600) (h3 : 0 ≤ p) (h4 : p ≤ 300000) (h5 : 0 ≤ h) (h6 : h ≤ 100) :
    (0 ≤ 981 * h * densF t p ∧ 981 * h * densF t p ≤ 400000000) ∧ p ≤ stepP t p h ∧ stepP t p h ≤ p + 4001 := by
  have hd := dens_bd t p h1 h2 h3 h4
  have hp := prod_bd (981 * h) (densF t p) 98100 4001 (by omega) (by omega) hd.1 hd.2
  have hn : 0 ≤ 981 * h * densF t p := Int.mul_nonneg (by omega) hd.1
  have hp' : 981 * h * densF t p ≤ 400000000 := by revert hp; generalize 981 * h * densF t p = P; intro hp; omega
  have a := dr_nonneg (981 * h * densF t p) 100000 (by omega) hn
  have b := of_absI (dr_le (981 * h * densF t p) 100000 4000 (by omega) (by omega) (absI_le (by omega) hp'))
  unfold stepP
  exact ⟨⟨hn, hp'⟩, by omega, by omega⟩

theorem densP_any (t p : Int) (w : World) (h1 : -100 ≤ t) (h2 : t ≤ 600) (h3 : 0 ≤ p) (h4 : p ≤ 300000) :
    Calls Try.prog 69 #[.int .i64 t, .int .i64 p] w fun e w' => e = .returned (.int .i64 (densF t p)) ∧ ∃ q, w' = w.drewN q := by
  go_enter Try.func69, Try.ntmps69
  go_wp2_with (first | (go_at_call 50; refine (l00In_any _ _ _ _).mono ?_; rintro e w' ⟨rfl, rfl⟩) | (go_at_call 52; refine (within_any _ _ _ _).mono ?_; rintro e w' ⟨rfl, rfl⟩) | (go_at_call 47; refine (l01Div_any _ _ _ (by omega) (by omega) (by omega) (by omega) (by omega)).mono ?_; rintro e w' ⟨rfl, rfl⟩) | (go_at_call 63; refine (divRound_any _ _ _ (by omega) (by omega) (by omega) (by omega) (by omega)).mono ?_; rintro e w' ⟨rfl, nq, rfl⟩) | go_in)
  go_ret
  exact ⟨rfl, _, rfl⟩
theorem densS_any (t p : Int) (w : World) (h1 : -100 ≤ t) (h2 : t ≤ 600) (h3 : 0 ≤ p) (h4 : p ≤ 300000) :
    Calls Try.prog 66 #[.int .i64 t, .int .i64 p] w fun e w' => e = .returned (.int .i64 (densF t p)) ∧ ∃ q, w' = w.drewN q := by
  go_enter Try.func66, Try.ntmps66
  go_wp2_with (first | (go_at_call 50; refine (l00In_any _ _ _ _).mono ?_; rintro e w' ⟨rfl, rfl⟩) | (go_at_call 52; refine (within_any _ _ _ _).mono ?_; rintro e w' ⟨rfl, rfl⟩) | (go_at_call 47; refine (l01Div_any _ _ _ (by omega) (by omega) (by omega) (by omega) (by omega)).mono ?_; rintro e w' ⟨rfl, rfl⟩) | (go_at_call 63; refine (divRound_any _ _ _ (by omega) (by omega) (by omega) (by omega) (by omega)).mono ?_; rintro e w' ⟨rfl, nq, rfl⟩) | go_in)
  go_ret
  exact ⟨rfl, 0, rfl⟩

/-- the pressure behind so many metres more, a hundred metres a step (n: a bound on the steps) -/
def pres : Nat → Int → Int → Int → Int
  | 0, _, p, _ => p
  | n + 1, t, p, d => if d ≤ 0 then p else pres n t (stepP t p (if d < 100 then d else 100)) (d - (if d < 100 then d else 100))
theorem pres_done (n : Nat) (t p d : Int) (h : d ≤ 0) : pres n t p d = p := by
  cases n with
  | zero => rfl
  | succ n => unfold pres; rw [if_pos h]
theorem pres_step (n : Nat) (t p d : Int) (h : 0 < d) : pres (n + 1) t p d = pres n t (stepP t p (if d < 100 then d else 100)) (d - (if d < 100 then d else 100)) := by
  rw [pres, if_neg (by omega)]
theorem pres_ge (n : Nat) : ∀ (t p d : Int), -100 ≤ t → t ≤ 600 → 0 ≤ p → p + 4001 * n ≤ 300000 → p ≤ pres n t p d := by
  induction n with
  | zero => intro t p d _ _ _ _; unfold pres; omega
  | succ n ih =>
    intro t p d h1 h2 h3 h4
    unfold pres
    split
    · omega
    · have hb := step_bd t p (if d < 100 then d else 100) h1 h2 h3 (by omega) (by split <;> omega) (by split <;> omega)
      have := ih t (stepP t p (if d < 100 then d else 100)) (d - (if d < 100 then d else 100)) h1 h2 (by omega) (by omega)
      omega
end Go.Proofs.Ytmkljkeokcokgaa
