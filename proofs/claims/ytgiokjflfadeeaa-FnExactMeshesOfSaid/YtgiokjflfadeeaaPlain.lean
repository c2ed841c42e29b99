/-
  Plain arithmetic: the nearest quotient, absolute values, roots; no program in sight.
-/
namespace Go.Proofs.Ytgiokjflfadeeaa
set_option linter.unusedVariables false

def inB (n lo hi : Int) : Bool := decide (lo ≤ n) && decide (n ≤ hi)
theorem inB_true {n lo hi : Int} : inB n lo hi = true ↔ lo ≤ n ∧ n ≤ hi := by simp [inB]
theorem inB_false {n lo hi : Int} : inB n lo hi = false ↔ n < lo ∨ hi < n := by
  simp [inB]; omega
def absI (n : Int) : Int := if n < 0 then -n else n
theorem absI_nonneg (n : Int) : 0 ≤ absI n := by unfold absI; split <;> omega
theorem absI_cases (n : Int) : (n < 0 ∧ absI n = -n) ∨ (0 ≤ n ∧ absI n = n) := by unfold absI; split <;> omega

/-- the nearest quotient, halves away from 0 -/
def dr (a b : Int) : Int :=
  if (if b < 0 then -a else a) < 0 then -((absI b - 2 * (if b < 0 then -a else a)) / (2 * absI b)) else (2 * (if b < 0 then -a else a) + absI b) / (2 * absI b)

theorem quo_bd (x y : Int) (hx : 0 ≤ x) (hy : 1 ≤ y) : 0 ≤ x / y ∧ x / y ≤ x :=
  ⟨Int.ediv_nonneg hx (by omega), Int.ediv_le_self _ hx⟩

theorem ediv_is (x y k : Int) (hy : 0 < y) (h1 : k * y ≤ x) (h2 : x < k * y + y) : x / y = k := by
  have a1 : k ≤ x / y := (Int.le_ediv_iff_mul_le hy).2 h1
  have a2 : x / y < k + 1 := (Int.ediv_lt_iff_lt_mul hy).2 (by rw [Int.add_mul]; omega)
  omega

/-- quotient and remainder cut towards nought, by their signs -/
theorem tquo (a b : Int) (h0 : b ≠ 0) : ∃ p, a = p + a.tmod b ∧ p = b * a.tdiv b ∧ absI (a.tmod b) < absI b ∧ (0 ≤ a → 0 ≤ a.tmod b) ∧ (a ≤ 0 → a.tmod b ≤ 0) := by
  refine ⟨b * a.tdiv b, (Int.mul_tdiv_add_tmod a b).symm, rfl, ?_, ?_, ?_⟩
  · unfold absI
    have := Int.tmod_lt_of_pos a (b := (b.natAbs : Int)) (by omega)
    have h2 := Int.natAbs_tmod a b
    have h3 : (a.tmod b).natAbs < b.natAbs := by rw [h2]; exact Nat.mod_lt _ (by omega)
    split <;> split <;> omega
  · intro h; exact Int.tmod_nonneg _ h
  · intro h
    have := Int.tmod_nonneg b (a := -a) (by omega)
    rw [Int.neg_tmod] at this
    omega

theorem tquo_bd (a b : Int) (h0 : b ≠ 0) : absI (a.tdiv b) ≤ absI a := by
  have h := Int.natAbs_tdiv_le_natAbs a b
  unfold absI
  split <;> split <;> omega

theorem dr_up (a b : Int) (h0 : b ≠ 0) (h : absI b - absI (a.tmod b) ≤ absI (a.tmod b)) (hs : decide (a < 0) = decide (b < 0)) : dr a b = a.tdiv b + 1 := by
  obtain ⟨p, h1, h2, h3, h4, h5⟩ := tquo a b h0
  revert h1 h2 h3 h4 h5 h
  generalize a.tmod b = r
  generalize a.tdiv b = q
  intro h h1 h2 h3 h4 h5
  unfold dr absI at *
  by_cases hb : b < 0
  · have ha : a < 0 := by simpa [hb] using hs
    simp only [if_pos hb] at *
    rw [if_neg (by omega)]
    have h5' := h5 (by omega)
    refine ediv_is _ _ _ (by omega) ?_ ?_
    · rw [Int.add_mul, Int.mul_comm q, Int.mul_assoc, Int.neg_mul, Int.mul_neg, ← h2]; split at h <;> split at h3 <;> omega
    · rw [Int.add_mul, Int.mul_comm q, Int.mul_assoc, Int.neg_mul, Int.mul_neg, ← h2]; split at h <;> split at h3 <;> omega
  · have ha : ¬ a < 0 := by simpa [hb] using hs
    simp only [if_neg hb] at *
    rw [if_neg (by omega)]
    have h4' := h4 (by omega)
    refine ediv_is _ _ _ (by omega) ?_ ?_
    · rw [Int.add_mul, Int.mul_comm q, Int.mul_assoc, ← h2]; split at h <;> split at h3 <;> omega
    · rw [Int.add_mul, Int.mul_comm q, Int.mul_assoc, ← h2]; split at h <;> split at h3 <;> omega

theorem dr_down (a b : Int) (h0 : b ≠ 0) (h : absI b - absI (a.tmod b) ≤ absI (a.tmod b)) (hs : ¬ decide (a < 0) = decide (b < 0)) : dr a b = a.tdiv b - 1 := by
  obtain ⟨p, h1, h2, h3, h4, h5⟩ := tquo a b h0
  revert h1 h2 h3 h4 h5 h
  generalize a.tmod b = r
  generalize a.tdiv b = q
  intro h h1 h2 h3 h4 h5
  unfold dr absI at *
  by_cases hb : b < 0
  · have ha : ¬ a < 0 := by intro ha; exact hs (by simp [ha, hb])
    simp only [if_pos hb] at *
    have h4' := h4 (by omega)
    have hr : ¬ r < 0 := by omega
    simp only [if_neg hr] at h h3
    rw [if_pos (by omega)]
    have : (-b - 2 * -a) / (2 * -b) = -q + 1 := by
      refine ediv_is _ _ _ (by omega) ?_ ?_
      · rw [Int.add_mul, Int.neg_mul, Int.mul_comm q, Int.mul_assoc, Int.neg_mul, Int.mul_neg, ← h2]; omega
      · rw [Int.add_mul, Int.neg_mul, Int.mul_comm q, Int.mul_assoc, Int.neg_mul, Int.mul_neg, ← h2]; omega
    omega
  · have ha : a < 0 := by
      apply Classical.byContradiction; intro ha; exact hs (by simp [ha, hb])
    simp only [if_neg hb] at *
    have h5' := h5 (by omega)
    rw [if_pos (by omega)]
    have : (b - 2 * a) / (2 * b) = -q + 1 := by
      refine ediv_is _ _ _ (by omega) ?_ ?_
      · rw [Int.add_mul, Int.neg_mul, Int.mul_comm q, Int.mul_assoc, ← h2]; split at h <;> split at h3 <;> omega
      · rw [Int.add_mul, Int.neg_mul, Int.mul_comm q, Int.mul_assoc, ← h2]; split at h <;> split at h3 <;> omega
    omega

theorem dr_near (a b : Int) (h0 : b ≠ 0) (h : absI (a.tmod b) < absI b - absI (a.tmod b)) : dr a b = a.tdiv b := by
  obtain ⟨p, h1, h2, h3, h4, h5⟩ := tquo a b h0
  revert h1 h2 h3 h4 h5 h
  generalize a.tmod b = r
  generalize a.tdiv b = q
  intro h h1 h2 h3 h4 h5
  have hz : b * q = 0 → q = 0 := fun hz => by
    rcases Int.mul_eq_zero.1 hz with h | h
    · exact absurd h h0
    · exact h
  unfold dr absI at *
  by_cases hb : b < 0
  · simp only [if_pos hb] at *
    by_cases ha : -a < 0
    · rw [if_pos ha]
      have h4' := h4 (by omega)
      have : (-b - 2 * -a) / (2 * -b) = -q := by
        refine ediv_is _ _ _ (by omega) ?_ ?_
        · rw [Int.neg_mul, Int.mul_comm q, Int.mul_assoc, Int.neg_mul, Int.mul_neg, ← h2]; split at h <;> split at h3 <;> omega
        · rw [Int.neg_mul, Int.mul_comm q, Int.mul_assoc, Int.neg_mul, Int.mul_neg, ← h2]; split at h <;> split at h3 <;> omega
      omega
    · rw [if_neg ha]
      have h5' := h5 (by omega)
      refine ediv_is _ _ _ (by omega) ?_ ?_
      · rw [Int.mul_comm q, Int.mul_assoc, Int.neg_mul, Int.mul_neg, ← h2]; split at h <;> split at h3 <;> omega
      · rw [Int.mul_comm q, Int.mul_assoc, Int.neg_mul, Int.mul_neg, ← h2]; split at h <;> split at h3 <;> omega
  · simp only [if_neg hb] at *
    by_cases ha : a < 0
    · rw [if_pos ha]
      have h5' := h5 (by omega)
      have : (b - 2 * a) / (2 * b) = -q := by
        refine ediv_is _ _ _ (by omega) ?_ ?_
        · rw [Int.neg_mul, Int.mul_comm q, Int.mul_assoc, ← h2]; split at h <;> split at h3 <;> omega
        · rw [Int.neg_mul, Int.mul_comm q, Int.mul_assoc, ← h2]; split at h <;> split at h3 <;> omega
      omega
    · rw [if_neg ha]
      have h4' := h4 (by omega)
      refine ediv_is _ _ _ (by omega) ?_ ?_
      · rw [Int.mul_comm q, Int.mul_assoc, ← h2]; split at h <;> split at h3 <;> omega
      · rw [Int.mul_comm q, Int.mul_assoc, ← h2]; split at h <;> split at h3 <;> omega

theorem dr_bd (a b : Int) (h0 : b ≠ 0) : absI (dr a b) ≤ absI a + 1 := by
  have h := tquo_bd a b h0
  by_cases h1 : absI b - absI (a.tmod b) ≤ absI (a.tmod b)
  · by_cases hs : decide (a < 0) = decide (b < 0)
    · rw [dr_up a b h0 h1 hs]; revert h; unfold absI; split <;> split <;> split <;> omega
    · rw [dr_down a b h0 h1 hs]; revert h; unfold absI; split <;> split <;> split <;> omega
  · rw [dr_near a b h0 (by omega)]; omega
end Go.Proofs.Ytgiokjflfadeeaa
