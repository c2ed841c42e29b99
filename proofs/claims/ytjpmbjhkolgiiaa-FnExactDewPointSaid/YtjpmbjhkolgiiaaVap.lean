/-
  The contracts of the two vapour pressures.
-/
import Derived.Test.YtjpmbjhkolgiiaaSat
import Derived.Test.YtjpmbjhkolgiiaaMono
namespace Go.Proofs.Ytjpmbjhkolgiiaa
open Go.RowKit
set_option linter.unusedVariables false

theorem tab_up (k : Nat) (h : k ≤ 13) : tabN k ≤ tabN (k + 1) := by
  rcases (by omega : k = 0 ∨ k = 1 ∨ k = 2 ∨ k = 3 ∨ k = 4 ∨ k = 5 ∨ k = 6 ∨ k = 7 ∨ k = 8 ∨ k = 9 ∨ k = 10 ∨ k = 11 ∨ k = 12 ∨ k = 13) with rfl | rfl | rfl | rfl | rfl | rfl | rfl | rfl | rfl | rfl | rfl | rfl | rfl | rfl <;> decide
theorem satK_bd (k : Nat) (t : Int) (hk : k ≤ 13) (h1 : -100 ≤ t) (h2 : t ≤ 600) : 286 ≤ satK k t ∧ satK k t ≤ 20000 := by
  have t0 := tab_bd k (by omega)
  have t1 := tab_bd (k + 1) (by omega)
  have tu := tab_up k hk
  unfold satK lineF
  split
  · omega
  · split
    · omega
    · have hb := line_bd (-100 + 50 * (k : Int)) (tabN k) (-100 + 50 * (k : Int) + 50) (tabN (k + 1)) t (by omega) (by omega) (by omega) (by omega) (by omega) (by omega) (by omega) (by omega) (by omega) (by omega)
      have hn := dr_nonneg ((tabN (k + 1) - tabN k) * (t - (-100 + 50 * (k : Int)))) (-100 + 50 * (k : Int) + 50 - (-100 + 50 * (k : Int))) (by omega) (Int.mul_nonneg (by omega) (by omega))
      have hm := Int.mul_le_mul_of_nonneg_left (show t - (-100 + 50 * (k : Int)) ≤ 50 by omega) (show 0 ≤ tabN (k + 1) - tabN k by omega)
      have hm0 : 0 ≤ (tabN (k + 1) - tabN k) * (t - (-100 + 50 * (k : Int))) := Int.mul_nonneg (by omega) (by omega)
      have hl := of_absI (dr_le ((tabN (k + 1) - tabN k) * (t - (-100 + 50 * (k : Int)))) (-100 + 50 * (k : Int) + 50 - (-100 + 50 * (k : Int))) (tabN (k + 1) - tabN k) (by omega) (by omega) (by
        rw [show -100 + 50 * (k : Int) + 50 - (-100 + 50 * (k : Int)) = 50 by omega]; exact absI_le (by omega) hm))
      omega
theorem sat_bd (t : Int) (h1 : -100 ≤ t) (h2 : t ≤ 600) : 286 ≤ satF t ∧ satF t ≤ 20000 := by
  unfold satF
  split
  · exact satK_bd _ t (by omega) h1 h2
  · exact satK_bd 13 t (by omega) h1 h2

def vapF (t h : Int) : Int := dr (satF t * h) 1000
theorem vap_bd (t h : Int) (h1 : -100 ≤ t) (h2 : t ≤ 600) (h3 : 0 ≤ h) (h4 : h ≤ 1000) : (0 ≤ satF t * h ∧ satF t * h ≤ 20000000) ∧ 0 ≤ vapF t h ∧ vapF t h ≤ 20001 := by
  have hs := sat_bd t h1 h2
  have hp := prod_bd (satF t) h 20000 1000 (by omega) hs.2 h3 h4
  have hn : 0 ≤ satF t * h := Int.mul_nonneg (by omega) h3
  have hp2 : satF t * h ≤ 20000 * 1000 := hp.2
  have hd := dr_le (satF t * h) 1000 20000 (by omega) (by omega) (absI_le (by omega) hp2)
  have hd2 := dr_nonneg (satF t * h) 1000 (by omega) hn
  refine ⟨⟨hn, by revert hp2; generalize satF t * h = P; intro hp2; omega⟩, ?_⟩
  unfold vapF
  have := of_absI hd
  omega

theorem vapP_any (t h : Int) (w : World) (h1 : -100 ≤ t) (h2 : t ≤ 600) (h3 : 0 ≤ h) (h4 : h ≤ 1000) :
    Calls Try.prog 52 #[.int .i64 t, .int .i64 h] w fun e w' => e = .returned (.int .i64 (vapF t h)) ∧ ∃ (c : Array Value) (t : TypeId) (q : Nat), w' = (w.alloc (.cells c t)).drewN q := by
  have hv := vap_bd t h h1 h2 h3 h4
  go_enter Try.func52, Try.ntmps52
  go_wp2_with (first | (go_at_call 59; refine (satP_any _ _ h1 h2).mono ?_; rintro e w' ⟨rfl, o1, u1, q1, rfl⟩) | (first | (go_at_call 69; refine (l00In_any _ _ _ _).mono ?_; rintro e w' ⟨rfl, rfl⟩) | (go_at_call 73; refine (within_any _ _ _ _).mono ?_; rintro e w' ⟨rfl, rfl⟩) | (go_at_call 76; refine (l01Div_any _ _ _ (by omega) (by omega) (by omega) (by omega) (by omega)).mono ?_; rintro e w' ⟨rfl, rfl⟩) | (go_at_call 51; refine (divRound_any _ _ _ (by omega) (by omega) (by omega) (by omega) (by omega)).mono ?_; rintro e w' ⟨rfl, nq, rfl⟩) | go_in))
  go_ret
  exact ⟨rfl, _, _, _, rfl⟩
theorem vapS_any (t h : Int) (w : World) (h1 : -100 ≤ t) (h2 : t ≤ 600) (h3 : 0 ≤ h) (h4 : h ≤ 1000) :
    Calls Try.prog 55 #[.int .i64 t, .int .i64 h] w fun e w' => e = .returned (.int .i64 (vapF t h)) ∧ ∃ (c : Array Value) (t : TypeId) (q : Nat), w' = (w.alloc (.cells c t)).drewN q := by
  have hv := vap_bd t h h1 h2 h3 h4
  go_enter Try.func55, Try.ntmps55
  go_wp2_with (first | (go_at_call 56; refine (satS_any _ _ h1 h2).mono ?_; rintro e w' ⟨rfl, o1, u1, q1, rfl⟩) | (first | (go_at_call 69; refine (l00In_any _ _ _ _).mono ?_; rintro e w' ⟨rfl, rfl⟩) | (go_at_call 73; refine (within_any _ _ _ _).mono ?_; rintro e w' ⟨rfl, rfl⟩) | (go_at_call 76; refine (l01Div_any _ _ _ (by omega) (by omega) (by omega) (by omega) (by omega)).mono ?_; rintro e w' ⟨rfl, rfl⟩) | (go_at_call 51; refine (divRound_any _ _ _ (by omega) (by omega) (by omega) (by omega) (by omega)).mono ?_; rintro e w' ⟨rfl, nq, rfl⟩) | go_in))
  go_ret
  exact ⟨rfl, _, _, _, rfl⟩
end Go.Proofs.Ytjpmbjhkolgiiaa
