/-
  The meshes of a mine, as a plain list of lists; their number and lengths.
-/
import Derived.Test.YtgiokjflfadeeaaLM
import Derived.Test.YtgiokjflfadeeaaPathD
import Derived.Test.YtgiokjflfadeeaaTreeS
namespace Go.Proofs.Ytgiokjflfadeeaa
open Go.RowKit
set_option linter.unusedVariables false

noncomputable def ringL (xs : List AW) (J : Nat) (tr : List Int) (k : Nat) : List Int := ((k : Int) + 1) :: walkF xs tr tr.length J (atA xs k).u.toNat (atA xs k).v.toNat
noncomputable def meshT (xs : List AW) (J : Nat) (tr : List Int) : Nat → List (List Int)
  | 0 => []
  | k + 1 => if hasI tr (k : Int) then meshT xs J tr k else meshT xs J tr k ++ [ringL xs J tr k]
theorem meshT_yes {xs : List AW} {J : Nat} {tr : List Int} {k : Nat} (h : hasI tr (k : Int) = true) : meshT xs J tr (k + 1) = meshT xs J tr k := by
  show (if hasI tr (k : Int) then _ else _) = _
  rw [if_pos h]
theorem meshT_no {xs : List AW} {J : Nat} {tr : List Int} {k : Nat} (h : hasI tr (k : Int) = false) : meshT xs J tr (k + 1) = meshT xs J tr k ++ [ringL xs J tr k] := by
  show (if hasI tr (k : Int) then _ else _) = _
  rw [if_neg (by simp [h])]
theorem meshT_len (xs : List AW) (J : Nat) (tr : List Int) (k : Nat) : (meshT xs J tr k).length ≤ k := by
  induction k with
  | zero => simp [meshT]
  | succ k ih => unfold meshT; split <;> (try simp) <;> omega
theorem meshT_each (xs : List AW) (J n : Nat) (tr : List Int) (hends : ∀ k, k < n → (0 ≤ (atA xs k).u ∧ (atA xs k).u < J) ∧ (0 ≤ (atA xs k).v ∧ (atA xs k).v < J) ∧ (atA xs k).u ≠ (atA xs k).v) (hes : ∀ k, k < tr.length → 0 ≤ atI tr k ∧ atI tr k < n) :
    ∀ k, k ≤ n → ∀ i, i < (meshT xs J tr k).length → (atLL (meshT xs J tr k) i).length ≤ J + 1
  | 0, _, i, hi => by simp [meshT] at hi
  | k + 1, hk, i, hi => by
    have ih := meshT_each xs J n tr hends hes k (by omega)
    by_cases h : hasI tr (k : Int) = true
    · rw [meshT_yes h] at hi ⊢
      exact ih i hi
    · simp only [Bool.not_eq_true] at h
      rw [meshT_no h] at hi ⊢
      rw [List.length_append, List.length_singleton] at hi
      rcases Nat.lt_or_ge i (meshT xs J tr k).length with hl | hl
      · rw [atLL_app _ _ i hl]; exact ih i hl
      · obtain rfl : i = (meshT xs J tr k).length := by omega
        rw [atLL_last]
        obtain ⟨⟨hu1, hu2⟩, ⟨hv1, hv2⟩, hne⟩ := hends k (by omega)
        have := walkF_len (to := (atA xs k).u.toNat) (edges_all hends hes) (fr := (atA xs k).v.toNat) (by omega)
        unfold ringL
        rw [List.length_cons]
        omega
def OneLLPost (lls : List (List Int)) (w : World) (e : Ending) (w' : World) : Prop := ∃ v, e = .returned v ∧ OwnLL w' w.heap.size v lls ∧ Below w.heap.size w w'
def LLPost (lls : List (List Int)) (code : Int) (w : World) (e : Ending) (w' : World) : Prop :=
  ∃ v, e = .returned (.tuple #[v, .int .i64 code]) ∧ OwnLL w' w.heap.size v lls ∧ Below w.heap.size w w'
theorem ll_ret {ls ls' : List (List Int)} {code code' : Int} {w w' : World} {v : Value} (h : ls' = ls ∧ code' = code) (ho : OwnLL w' w.heap.size v ls) (hb : Below w.heap.size w w') : LLPost ls' code' w (.returned (.tuple #[v, .int .i64 code])) w' := by
  rw [h.1, h.2]; exact ⟨v, rfl, ho, hb⟩
noncomputable def msF (j : Int) (xs : List AW) : List (List Int) := if mineB j xs then meshT xs j.toNat (treeT xs xs.length) xs.length else []
def msC (j : Int) (xs : List AW) : Int := if mineB j xs then 0 else 1
theorem ms_in {j : Int} {xs : List AW} (h : mineB j xs = true) : msF j xs = meshT xs j.toNat (treeT xs xs.length) xs.length ∧ msC j xs = 0 := by
  unfold msF msC; rw [h]; exact ⟨rfl, rfl⟩
theorem ms_no {j : Int} {xs : List AW} (h : mineB j xs = false) : msF j xs = [] ∧ msC j xs = 1 := by
  unfold msF msC; rw [h]; exact ⟨rfl, rfl⟩
theorem msF_len (j : Int) (xs : List AW) : (msF j xs).length ≤ 24 ∧ ∀ k, k < (msF j xs).length → (atLL (msF j xs) k).length ≤ 17 := by
  by_cases h : mineB j xs = true
  · obtain ⟨h24, hj, hends⟩ := mine_ends h
    rw [(ms_in h).1]
    have hJ : ((j.toNat : Nat) : Int) = j := by omega
    refine ⟨by have := meshT_len xs j.toNat (treeT xs xs.length) xs.length; omega, fun k hk => ?_⟩
    have := meshT_each xs j.toNat xs.length (treeT xs xs.length) (by rw [hJ]; exact hends) (treeT_bd xs xs.length xs.length (Nat.le_refl _)) xs.length (Nat.le_refl _) k hk
    omega
  · rw [(ms_no (by simpa using h)).1]
    exact ⟨by simp, fun k hk => absurd hk (by simp)⟩
end Go.Proofs.Ytgiokjflfadeeaa
