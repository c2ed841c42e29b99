/-
  Plain arithmetic: bounds of the nearest quotient by a positive number, and that it grows.
-/
import Derived.Test.YtgiokjflfadeeaaPlain
namespace Go.Proofs.Ytgiokjflfadeeaa
set_option linter.unusedVariables false

theorem absI_le {n A : Int} (h : -A ≤ n) (h' : n ≤ A) : absI n ≤ A := by unfold absI; split <;> omega
theorem of_absI {n A : Int} (h : absI n ≤ A) : -A ≤ n ∧ n ≤ A := by unfold absI at h; split at h <;> omega
theorem dr_pos (a b : Int) (hb : 0 < b) : dr a b = if a < 0 then -((b - 2 * a) / (2 * b)) else (2 * a + b) / (2 * b) := by
  unfold dr absI
  have h : ¬ b < 0 := by omega
  simp only [if_neg h]

theorem dr_le (a b k : Int) (hb : 0 < b) (hk : 0 ≤ k) (h : absI a ≤ k * b) : absI (dr a b) ≤ k + 1 := by
  rw [dr_pos a b hb]
  have e : (k + 2) * (2 * b) = 2 * (k * b) + 4 * b := by rw [Int.add_mul, Int.mul_left_comm]; omega
  unfold absI at h
  split
  · rename_i ha
    rw [if_pos ha] at h
    have h1 : (b - 2 * a) / (2 * b) < k + 2 := (Int.ediv_lt_iff_lt_mul (by omega)).2 (by rw [e]; omega)
    have h2 : 0 ≤ (b - 2 * a) / (2 * b) := Int.ediv_nonneg (by omega) (by omega)
    unfold absI; split <;> omega
  · rename_i ha
    rw [if_neg ha] at h
    have h1 : (2 * a + b) / (2 * b) < k + 2 := (Int.ediv_lt_iff_lt_mul (by omega)).2 (by rw [e]; omega)
    have h2 : 0 ≤ (2 * a + b) / (2 * b) := Int.ediv_nonneg (by omega) (by omega)
    unfold absI; split <;> omega

theorem dr_nonneg (a b : Int) (hb : 0 < b) (ha : 0 ≤ a) : 0 ≤ dr a b := by
  rw [dr_pos a b hb, if_neg (by omega)]
  exact Int.ediv_nonneg (by omega) (by omega)

theorem dr_mono (a a' b : Int) (hb : 0 < b) (h0 : 0 ≤ a) (h : a ≤ a') : dr a b ≤ dr a' b := by
  rw [dr_pos a b hb, dr_pos a' b hb, if_neg (by omega), if_neg (by omega)]
  exact Int.ediv_le_ediv (by omega) (by omega)

theorem dr_neg (a b : Int) (hb : 0 < b) : dr (-a) b = -dr a b := by
  rw [dr_pos a b hb, dr_pos (-a) b hb]
  by_cases h0 : a = 0
  · subst h0
    have e : (2 * 0 + b) / (2 * b) = 0 := Int.ediv_eq_zero_of_lt (by omega) (by omega)
    simp only [Int.neg_zero]
    rw [if_neg (by omega), e]; rfl
  · by_cases h : a < 0
    · rw [if_neg (by omega), if_pos h, Int.neg_neg]; congr 1; omega
    · rw [if_pos (by omega), if_neg h]; congr 2; omega

theorem dr_zero (b : Int) (hb : 0 < b) : dr 0 b = 0 := by
  rw [dr_pos 0 b hb, if_neg (by omega)]
  exact Int.ediv_eq_zero_of_lt (by omega) (by omega)
end Go.Proofs.Ytgiokjflfadeeaa
