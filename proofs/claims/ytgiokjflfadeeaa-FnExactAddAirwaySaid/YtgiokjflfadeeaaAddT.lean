/-
  Plain law: the place of a new name in an ascending list of airways; the list with one airway more.
-/
import Derived.Test.YtgiokjflfadeeaaDropT
namespace Go.Proofs.Ytgiokjflfadeeaa
open Go.RowKit
set_option linter.unusedVariables false

def ltS (a s : ByteArray) : Bool := Op.bytesLess a.toList s.toList
theorem ltS_iff (a s : ByteArray) : ltS a s = true ↔ a.toList < s.toList := by unfold ltS; rw [bytesLess_eq]; simp
def posL (s : ByteArray) : List AW → Nat
  | [] => 0
  | x :: t => if ltS x.a s then posL s t + 1 else 0
def IsPos (xs : List AW) (s : ByteArray) (p : Nat) : Prop := p ≤ xs.length ∧ (∀ k, k < p → ltS (atA xs k).a s = true) ∧ (p < xs.length → ltS (atA xs p).a s = false)
theorem posL_is (s : ByteArray) : ∀ xs, IsPos xs s (posL s xs)
  | [] => ⟨Nat.le_refl _, fun k hk => absurd hk (by simp [posL]), fun h => absurd h (by simp)⟩
  | x :: t => by
    unfold posL
    cases hx : ltS x.a s with
    | true =>
      obtain ⟨h1, h2, h3⟩ := posL_is s t
      rw [if_pos rfl]
      refine ⟨by simpa using h1, fun k hk => ?_, fun h => ?_⟩
      · cases k with
        | zero => exact hx
        | succ k => exact h2 k (by omega)
      · exact h3 (by simpa using h)
    | false => exact ⟨Nat.zero_le _, fun k hk => absurd hk (by simp), fun _ => hx⟩
theorem pos_one {xs : List AW} {s : ByteArray} {p q : Nat} (hp : IsPos xs s p) (hq : IsPos xs s q) : p = q := by
  obtain ⟨h1, h2, h3⟩ := hp
  obtain ⟨g1, g2, g3⟩ := hq
  rcases Nat.lt_trichotomy p q with g | g | g
  · have := g2 p g; rw [h3 (by omega)] at this; cases this
  · exact g
  · have := h2 q g; rw [g3 (by omega)] at this; cases this
theorem pos_is {xs : List AW} {s : ByteArray} {p : Nat} (h : IsPos xs s p) : p = posL s xs := pos_one h (posL_is s xs)
theorem pos_le (xs : List AW) (s : ByteArray) : posL s xs ≤ xs.length := (posL_is s xs).1
/-- what the search knows of the places below and above -/
theorem less_below {j : Int} {xs : List AW} {s : ByteArray} (h : mineB j xs = true) {a k : Nat} (ha : a < xs.length) (hk : k ≤ a) (hl : ltS (atA xs a).a s = true) : ltS (atA xs k).a s = true := by
  rcases Nat.lt_or_ge k a with g | g
  · have h1 := mine_lt h (a - k - 1) k (by omega)
    rw [show k + (a - k - 1) + 1 = a by omega] at h1
    rw [ltS_iff] at hl ⊢
    exact List.lt_trans h1 hl
  · rw [show k = a by omega]; exact hl
theorem less_above {j : Int} {xs : List AW} {s : ByteArray} (h : mineB j xs = true) {a k : Nat} (hk : k < xs.length) (ha : a ≤ k) (hl : ltS (atA xs a).a s = false) : ltS (atA xs k).a s = false := by
  cases hq : ltS (atA xs k).a s with
  | false => rfl
  | true => rw [less_below h hk ha hq] at hl; cases hl
/-- a name that is there stands at its place -/
theorem find_pos {j : Int} {xs : List AW} {s : ByteArray} (h : mineB j xs = true) : (0 ≤ findF xs s ↔ posL s xs < xs.length ∧ eqS (atA xs (posL s xs)).a s = true) := by
  obtain ⟨h1, h2, h3⟩ := posL_is s xs
  constructor
  · intro hf
    rcases findF_spec xs s with ⟨e, _⟩ | ⟨k, hk, e, he, _⟩
    · omega
    · have hes : (atA xs k).a.toList = s.toList := by unfold eqS at he; exact beq_iff_eq.1 he
      have hkp : ¬ k < posL s xs := fun g => by
        have := h2 k g
        rw [ltS_iff, hes] at this
        exact List.lt_irrefl _ this
      have hpk : posL s xs = k := by
        rcases Nat.lt_or_ge (posL s xs) k with g | g
        · have h4 := h3 (by omega)
          have h5 := mine_lt h (k - posL s xs - 1) (posL s xs) (by omega)
          rw [show posL s xs + (k - posL s xs - 1) + 1 = k by omega, hes, ← ltS_iff, h4] at h5
          cases h5
        · omega
      rw [hpk]
      exact ⟨hk, he⟩
  · rintro ⟨hp, he⟩
    rcases findF_spec xs s with ⟨e, hn⟩ | ⟨k, hk, e, _, _⟩
    · rw [hn _ hp] at he; cases he
    · omega
def insA (xs : List AW) (y : AW) (p : Nat) : List AW := xs.take p ++ ([y] ++ xs.drop p)
theorem insA_len (xs : List AW) (y : AW) (p : Nat) : (insA xs y p).length = xs.length + 1 := by
  unfold insA; simp; omega
noncomputable def addC (j : Int) (xs : List AW) (y : AW) : Int := if mineB j xs && y.okB then (if 0 ≤ findF xs y.a then 4 else (if endsB j y then (if xs.length = 24 then 5 else 0) else 2)) else 1
noncomputable def addJ (j : Int) (xs : List AW) (y : AW) : Int := if addC j xs y = 0 then j else 0
noncomputable def addX (j : Int) (xs : List AW) (y : AW) : List AW := if addC j xs y = 0 then insA xs y (posL y.a xs) else []
theorem add_code {j : Int} {xs : List AW} {y : AW} {cd : Int} (h : addC j xs y = cd) (hz : cd ≠ 0) : addJ j xs y = 0 ∧ addX j xs y = [] ∧ addC j xs y = cd := by
  unfold addJ addX; rw [h, if_neg hz, if_neg hz]; exact ⟨rfl, rfl, rfl⟩
theorem add_yes {j : Int} {xs : List AW} {y : AW} (h : addC j xs y = 0) : addJ j xs y = j ∧ addX j xs y = insA xs y (posL y.a xs) ∧ addC j xs y = 0 := by
  unfold addJ addX; rw [h]; exact ⟨rfl, rfl, rfl⟩
theorem add_len (j : Int) (xs : List AW) (y : AW) : (addX j xs y).length ≤ xs.length + 1 := by
  unfold addX
  split
  · rw [insA_len]; exact Nat.le_refl _
  · simp
theorem addC_1 {j : Int} {xs : List AW} {y : AW} (h : mineB j xs = false ∨ y.okB = false) : addC j xs y = 1 := by
  unfold addC; rcases h with h | h <;> simp [h]
theorem addC_4 {j : Int} {xs : List AW} {y : AW} (h : mineB j xs = true) (hy : y.okB = true) (hf : 0 ≤ findF xs y.a) : addC j xs y = 4 := by
  unfold addC; rw [h, hy]; simp [hf]
theorem addC_2 {j : Int} {xs : List AW} {y : AW} (h : mineB j xs = true) (hy : y.okB = true) (hf : ¬ 0 ≤ findF xs y.a) (he : endsB j y = false) : addC j xs y = 2 := by
  unfold addC; rw [h, hy, he]; simp [hf]
theorem addC_5 {j : Int} {xs : List AW} {y : AW} (h : mineB j xs = true) (hy : y.okB = true) (hf : ¬ 0 ≤ findF xs y.a) (he : endsB j y = true) (hl : xs.length = 24) : addC j xs y = 5 := by
  unfold addC; rw [h, hy, he]; simp [hf, hl]
theorem addC_0 {j : Int} {xs : List AW} {y : AW} (h : mineB j xs = true) (hy : y.okB = true) (hf : ¬ 0 ≤ findF xs y.a) (he : endsB j y = true) (hl : ¬ xs.length = 24) : addC j xs y = 0 := by
  unfold addC; rw [h, hy, he]; simp [hf, hl]
end Go.Proofs.Ytgiokjflfadeeaa
