/-
  Plain law: of a mine whose airways' names ascend, the airways with another name are all but one.
-/
import Derived.Test.YtgiokjflfadeeaaFind
import Derived.Sort.Walk0
namespace Go.Proofs.Ytgiokjflfadeeaa
open Go.RowKit
set_option linter.unusedVariables false

theorem filter_one {α : Type} (p : α → Bool) : ∀ (xs : List α) (k : Nat) (hk : k < xs.length), p (xs[k]) = false → (∀ i (hi : i < xs.length), i ≠ k → p (xs[i]) = true) → xs.filter p = xs.eraseIdx k
  | [], k, hk, _, _ => absurd hk (by simp)
  | x :: t, 0, hk, h0, h1 => by
    have hx : p x = false := h0
    rw [List.filter_cons_of_neg (by simp [hx]), List.eraseIdx_cons_zero, List.filter_eq_self]
    intro y hy
    obtain ⟨i, hi, rfl⟩ := List.getElem_of_mem hy
    exact h1 (i + 1) (by simpa using hi) (by omega)
  | x :: t, k + 1, hk, h0, h1 => by
    have hx : p x = true := h1 0 (by simp) (by omega)
    rw [List.filter_cons_of_pos hx, List.eraseIdx_cons_succ]
    congr 1
    exact filter_one p t k (by simpa using hk) h0 fun i hi hne => h1 (i + 1) (by simpa using hi) (by omega)
theorem mine_step {j : Int} {xs : List AW} (h : mineB j xs = true) (k : Nat) (hk : k < xs.length) : stepOk j xs k = true := by
  unfold mineB at h
  simp only [Bool.and_eq_true] at h
  exact List.all_eq_true.1 h.2.2 k (by simpa using hk)
theorem mine_24 {j : Int} {xs : List AW} (h : mineB j xs = true) : xs.length ≤ 24 := by
  unfold mineB at h
  simp only [Bool.and_eq_true, decide_eq_true_eq] at h
  exact h.2.1
theorem mine_next {j : Int} {xs : List AW} (h : mineB j xs = true) (k : Nat) (hk : k + 1 < xs.length) : (atA xs k).a.toList < (atA xs (k + 1)).a.toList := by
  have hs := mine_step h (k + 1) hk
  unfold stepOk at hs
  simp only [Bool.and_eq_true, Bool.or_eq_true, decide_eq_true_eq] at hs
  rcases hs.2.2 with h0 | h0
  · omega
  · rw [leS_ge, Bool.not_not, bytesLess_eq] at h0
    simpa using h0
theorem mine_lt {j : Int} {xs : List AW} (h : mineB j xs = true) : ∀ (d p : Nat), p + d + 1 < xs.length → (atA xs p).a.toList < (atA xs (p + d + 1)).a.toList
  | 0, p, hp => mine_next h p hp
  | d + 1, p, hp => List.lt_trans (mine_lt h d p (by omega)) (mine_next h (p + d + 1) hp)
theorem mine_ne {j : Int} {xs : List AW} (h : mineB j xs = true) {p q : Nat} (hp : p < xs.length) (hq : q < xs.length) (hne : p ≠ q) : (atA xs p).a.toList ≠ (atA xs q).a.toList := by
  intro e
  rcases Nat.lt_or_ge p q with hpq | hpq
  · have := mine_lt h (q - p - 1) p (by omega)
    rw [show p + (q - p - 1) + 1 = q by omega, e] at this
    exact List.lt_irrefl _ this
  · have := mine_lt h (p - q - 1) q (by omega)
    rw [show q + (p - q - 1) + 1 = p by omega, e] at this
    exact List.lt_irrefl _ this
def keepB (s : ByteArray) (x : AW) : Bool := !eqS x.a s
theorem drop_is {j : Int} {xs : List AW} {s : ByteArray} {k : Nat} (h : mineB j xs = true) (hk : findF xs s = (k : Int)) : k < xs.length ∧ xs.filter (keepB s) = xs.eraseIdx k := by
  rcases findF_spec xs s with ⟨h1, _⟩ | ⟨k', hk', h1, he, hb⟩
  · omega
  · have : k' = k := by omega
    subst this
    refine ⟨hk', filter_one _ xs k' hk' (by unfold keepB; rw [← atA_is xs k' hk', he]; rfl) fun i hi hne => ?_⟩
    unfold keepB
    rw [← atA_is xs i hi]
    cases hq : eqS (atA xs i).a s with
    | false => rfl
    | true =>
      unfold eqS at hq he
      have h2 := beq_iff_eq.1 hq
      have h3 := beq_iff_eq.1 he
      exact absurd (h2.trans h3.symm) (mine_ne h hi hk' hne)
noncomputable def dropC (j : Int) (xs : List AW) (s : ByteArray) : Int := if mineB j xs then (if findF xs s < 0 then 3 else 0) else 1
noncomputable def dropJ (j : Int) (xs : List AW) (s : ByteArray) : Int := if mineB j xs then (if findF xs s < 0 then 0 else j) else 0
noncomputable def dropX (j : Int) (xs : List AW) (s : ByteArray) : List AW := if mineB j xs then (if findF xs s < 0 then [] else xs.eraseIdx (findF xs s).toNat) else []
theorem drop_no {j : Int} {xs : List AW} {s : ByteArray} (h : mineB j xs = false) : dropJ j xs s = 0 ∧ dropX j xs s = [] ∧ dropC j xs s = 1 := by
  unfold dropJ dropX dropC; rw [h]; simp
theorem drop_not {j : Int} {xs : List AW} {s : ByteArray} (h : mineB j xs = true) (hf : findF xs s < 0) : dropJ j xs s = 0 ∧ dropX j xs s = [] ∧ dropC j xs s = 3 := by
  unfold dropJ dropX dropC; rw [h]; simp [hf]
theorem drop_yes {j : Int} {xs : List AW} {s : ByteArray} {k : Nat} (h : mineB j xs = true) (hf : findF xs s = (k : Int)) : dropJ j xs s = j ∧ dropX j xs s = xs.eraseIdx k ∧ dropC j xs s = 0 := by
  unfold dropJ dropX dropC; rw [h, hf]
  have : ¬ (k : Int) < 0 := by omega
  simp [this]
theorem drop_len (j : Int) (xs : List AW) (s : ByteArray) : (dropX j xs s).length ≤ xs.length := by
  unfold dropX
  split
  · split
    · simp
    · rw [List.length_eraseIdx]; split <;> omega
  · simp
theorem filter_take (p : AW → Bool) (xs : List AW) (k : Nat) (h : k < xs.length) : (xs.take (k + 1)).filter p = (xs.take k).filter p ++ (if p (atA xs k) then [atA xs k] else []) := by
  rw [List.take_succ_eq_append_getElem h, List.filter_append, atA_is xs k h]
  simp [List.filter_cons]
end Go.Proofs.Ytgiokjflfadeeaa
