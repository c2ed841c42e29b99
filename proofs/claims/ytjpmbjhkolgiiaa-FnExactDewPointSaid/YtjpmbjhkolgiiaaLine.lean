/-
  The contracts of the program's blend and of the reference's l01Line: a number on a line through two points.
-/
import Derived.Test.YtjpmbjhkolgiiaaNum
namespace Go.Proofs.Ytjpmbjhkolgiiaa
open Go.RowKit
set_option linter.unusedVariables false

def lineF (x0 y0 x1 y1 x : Int) : Int := if x ≤ x0 ∨ x1 ≤ x0 then y0 else if x1 ≤ x then y1 else y0 + dr ((y1 - y0) * (x - x0)) (x1 - x0)

theorem line_bd (x0 y0 x1 y1 x : Int) (a1 : -1000000 ≤ x0) (a2 : x0 ≤ 1000000) (a3 : -1000000 ≤ y0) (a4 : y0 ≤ 1000000) (a5 : -1000000 ≤ x1) (a6 : x1 ≤ 1000000) (a7 : -1000000 ≤ y1) (a8 : y1 ≤ 1000000)
    (h1 : x0 < x) (h2 : x < x1) : (-4000000000000 ≤ (y1 - y0) * (x - x0) ∧ (y1 - y0) * (x - x0) ≤ 4000000000000) ∧ -5000000000000 ≤ dr ((y1 - y0) * (x - x0)) (x1 - x0) ∧ dr ((y1 - y0) * (x - x0)) (x1 - x0) ≤ 5000000000000 := by
  have hp := prod_bd (y1 - y0) (x - x0) 2000000 2000000 (by omega) (by omega) (by omega) (by omega)
  have hd := dr_bd ((y1 - y0) * (x - x0)) (x1 - x0) (by omega)
  revert hp hd
  generalize (y1 - y0) * (x - x0) = P
  generalize dr P (x1 - x0) = D
  intro hp hd
  refine ⟨⟨by omega, by omega⟩, ?_⟩
  revert hd; unfold absI; split <;> split <;> omega

theorem blend_any (x0 y0 x1 y1 x : Int) (w : World) (a1 : -1000000 ≤ x0) (a2 : x0 ≤ 1000000) (a3 : -1000000 ≤ y0) (a4 : y0 ≤ 1000000) (a5 : -1000000 ≤ x1) (a6 : x1 ≤ 1000000) (a7 : -1000000 ≤ y1) (a8 : y1 ≤ 1000000) :
    Calls Try.prog 87 #[.int .i64 x0, .int .i64 y0, .int .i64 x1, .int .i64 y1, .int .i64 x] w fun e w' => e = .returned (.int .i64 (lineF x0 y0 x1 y1 x)) ∧ ∃ n, w' = w.drewN n := by
  by_cases h1 : x ≤ x0
  · go_enter Try.func87, Try.ntmps87
    go_wp2_with (first | (go_at_call 69; refine (l00In_any _ _ _ _).mono ?_; rintro e w' ⟨rfl, rfl⟩) | (go_at_call 73; refine (within_any _ _ _ _).mono ?_; rintro e w' ⟨rfl, rfl⟩) | (go_at_call 76; refine (l01Div_any _ _ _ (by omega) (by omega) (by omega) (by omega) (by omega)).mono ?_; rintro e w' ⟨rfl, rfl⟩) | (go_at_call 51; refine (divRound_any _ _ _ (by omega) (by omega) (by omega) (by omega) (by omega)).mono ?_; rintro e w' ⟨rfl, nq, rfl⟩) | go_in)
    all_goals go_ret
    all_goals exact ⟨ret_int (by unfold lineF; rw [if_pos (.inl (by omega))]), 0, rfl⟩
  · by_cases h2 : x1 ≤ x0
    · go_enter Try.func87, Try.ntmps87
      go_wp2_with (first | (go_at_call 69; refine (l00In_any _ _ _ _).mono ?_; rintro e w' ⟨rfl, rfl⟩) | (go_at_call 73; refine (within_any _ _ _ _).mono ?_; rintro e w' ⟨rfl, rfl⟩) | (go_at_call 76; refine (l01Div_any _ _ _ (by omega) (by omega) (by omega) (by omega) (by omega)).mono ?_; rintro e w' ⟨rfl, rfl⟩) | (go_at_call 51; refine (divRound_any _ _ _ (by omega) (by omega) (by omega) (by omega) (by omega)).mono ?_; rintro e w' ⟨rfl, nq, rfl⟩) | go_in)
      all_goals go_ret
      all_goals exact ⟨ret_int (by unfold lineF; rw [if_pos (.inr (by omega))]), 0, rfl⟩
    · by_cases h3 : x1 ≤ x
      · go_enter Try.func87, Try.ntmps87
        go_wp2_with (first | (go_at_call 69; refine (l00In_any _ _ _ _).mono ?_; rintro e w' ⟨rfl, rfl⟩) | (go_at_call 73; refine (within_any _ _ _ _).mono ?_; rintro e w' ⟨rfl, rfl⟩) | (go_at_call 76; refine (l01Div_any _ _ _ (by omega) (by omega) (by omega) (by omega) (by omega)).mono ?_; rintro e w' ⟨rfl, rfl⟩) | (go_at_call 51; refine (divRound_any _ _ _ (by omega) (by omega) (by omega) (by omega) (by omega)).mono ?_; rintro e w' ⟨rfl, nq, rfl⟩) | go_in)
        all_goals go_ret
        all_goals exact ⟨ret_int (by unfold lineF; rw [if_neg (by omega), if_pos (by omega)]), 0, rfl⟩
      · have hb := line_bd x0 y0 x1 y1 x a1 a2 a3 a4 a5 a6 a7 a8 (by omega) (by omega)
        go_enter Try.func87, Try.ntmps87
        go_wp2_with (first | (go_at_call 69; refine (l00In_any _ _ _ _).mono ?_; rintro e w' ⟨rfl, rfl⟩) | (go_at_call 73; refine (within_any _ _ _ _).mono ?_; rintro e w' ⟨rfl, rfl⟩) | (go_at_call 76; refine (l01Div_any _ _ _ (by omega) (by omega) (by omega) (by omega) (by omega)).mono ?_; rintro e w' ⟨rfl, rfl⟩) | (go_at_call 51; refine (divRound_any _ _ _ (by omega) (by omega) (by omega) (by omega) (by omega)).mono ?_; rintro e w' ⟨rfl, nq, rfl⟩) | go_in)
        all_goals go_ret
        all_goals exact ⟨ret_int (by unfold lineF; rw [if_neg (by omega), if_neg (by omega)]), _, rfl⟩

theorem l01Line_any (x0 y0 x1 y1 x : Int) (w : World) (a1 : -1000000 ≤ x0) (a2 : x0 ≤ 1000000) (a3 : -1000000 ≤ y0) (a4 : y0 ≤ 1000000) (a5 : -1000000 ≤ x1) (a6 : x1 ≤ 1000000) (a7 : -1000000 ≤ y1) (a8 : y1 ≤ 1000000) :
    Calls Try.prog 86 #[.int .i64 x0, .int .i64 y0, .int .i64 x1, .int .i64 y1, .int .i64 x] w fun e w' => e = .returned (.int .i64 (lineF x0 y0 x1 y1 x)) ∧ ∃ n, w' = w.drewN n := by
  by_cases h1 : x ≤ x0
  · go_enter Try.func86, Try.ntmps86
    go_wp2_with (first | (go_at_call 69; refine (l00In_any _ _ _ _).mono ?_; rintro e w' ⟨rfl, rfl⟩) | (go_at_call 73; refine (within_any _ _ _ _).mono ?_; rintro e w' ⟨rfl, rfl⟩) | (go_at_call 76; refine (l01Div_any _ _ _ (by omega) (by omega) (by omega) (by omega) (by omega)).mono ?_; rintro e w' ⟨rfl, rfl⟩) | (go_at_call 51; refine (divRound_any _ _ _ (by omega) (by omega) (by omega) (by omega) (by omega)).mono ?_; rintro e w' ⟨rfl, nq, rfl⟩) | go_in)
    all_goals go_ret
    all_goals exact ⟨ret_int (by unfold lineF; rw [if_pos (.inl (by omega))]), 0, rfl⟩
  · by_cases h2 : x1 ≤ x0
    · go_enter Try.func86, Try.ntmps86
      go_wp2_with (first | (go_at_call 69; refine (l00In_any _ _ _ _).mono ?_; rintro e w' ⟨rfl, rfl⟩) | (go_at_call 73; refine (within_any _ _ _ _).mono ?_; rintro e w' ⟨rfl, rfl⟩) | (go_at_call 76; refine (l01Div_any _ _ _ (by omega) (by omega) (by omega) (by omega) (by omega)).mono ?_; rintro e w' ⟨rfl, rfl⟩) | (go_at_call 51; refine (divRound_any _ _ _ (by omega) (by omega) (by omega) (by omega) (by omega)).mono ?_; rintro e w' ⟨rfl, nq, rfl⟩) | go_in)
      all_goals go_ret
      all_goals exact ⟨ret_int (by unfold lineF; rw [if_pos (.inr (by omega))]), 0, rfl⟩
    · by_cases h3 : x1 ≤ x
      · go_enter Try.func86, Try.ntmps86
        go_wp2_with (first | (go_at_call 69; refine (l00In_any _ _ _ _).mono ?_; rintro e w' ⟨rfl, rfl⟩) | (go_at_call 73; refine (within_any _ _ _ _).mono ?_; rintro e w' ⟨rfl, rfl⟩) | (go_at_call 76; refine (l01Div_any _ _ _ (by omega) (by omega) (by omega) (by omega) (by omega)).mono ?_; rintro e w' ⟨rfl, rfl⟩) | (go_at_call 51; refine (divRound_any _ _ _ (by omega) (by omega) (by omega) (by omega) (by omega)).mono ?_; rintro e w' ⟨rfl, nq, rfl⟩) | go_in)
        all_goals go_ret
        all_goals exact ⟨ret_int (by unfold lineF; rw [if_neg (by omega), if_pos (by omega)]), 0, rfl⟩
      · have hb := line_bd x0 y0 x1 y1 x a1 a2 a3 a4 a5 a6 a7 a8 (by omega) (by omega)
        go_enter Try.func86, Try.ntmps86
        go_wp2_with (first | (go_at_call 69; refine (l00In_any _ _ _ _).mono ?_; rintro e w' ⟨rfl, rfl⟩) | (go_at_call 73; refine (within_any _ _ _ _).mono ?_; rintro e w' ⟨rfl, rfl⟩) | (go_at_call 76; refine (l01Div_any _ _ _ (by omega) (by omega) (by omega) (by omega) (by omega)).mono ?_; rintro e w' ⟨rfl, rfl⟩) | (go_at_call 51; refine (divRound_any _ _ _ (by omega) (by omega) (by omega) (by omega) (by omega)).mono ?_; rintro e w' ⟨rfl, nq, rfl⟩) | go_in)
        all_goals go_ret
        all_goals exact ⟨ret_int (by unfold lineF; rw [if_neg (by omega), if_neg (by omega)]), 0, rfl⟩
end Go.Proofs.Ytjpmbjhkolgiiaa
