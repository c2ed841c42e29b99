/-
  What the laws over one mine have in common: the last comparison of the mine with a fresh copy.
-/
import Derived.Test.YtgiokjflfadeeaaValidS
namespace Go.Proofs.Ytgiokjflfadeeaa
open Go.RowKit
set_option linter.unusedVariables false

theorem q_next {w w1 : World} {j : Int} {A B : Option Addr} {n c d g h : Nat} (hb : Below w.heap.size w w1) (hS : w.cell? ⟨g, 0, none⟩ = some (.int .i64 j) ∧ w.cell? ⟨g, 1, none⟩ = some (.slice A n c) ∧ w.cell? ⟨h, 0, none⟩ = some (.int .i64 j) ∧ w.cell? ⟨h, 1, none⟩ = some (.slice B n d)) : w1.cell? ⟨g, 0, none⟩ = some (.int .i64 j) ∧ w1.cell? ⟨g, 1, none⟩ = some (.slice A n c) ∧ w1.cell? ⟨h, 0, none⟩ = some (.int .i64 j) ∧ w1.cell? ⟨h, 1, none⟩ = some (.slice B n d) := by
  obtain ⟨a0, a1, a2, a3⟩ := hS
  have f : ∀ {a : Addr} {v : Value}, w.cell? a = some v → w1.cell? a = some v := fun {a v} h => (hb.cell (World.block_lt_of_cell? w a h)).trans h
  exact ⟨f a0, f a1, f a2, f a3⟩
theorem Airs.drew {w : World} {A : Option Addr} {xs : List AW} (h : Airs w A xs) : Airs w.drew A xs := h.next ⟨rfl, rfl, rfl, Nat.le_refl _, fun _ _ => rfl⟩
end Go.Proofs.Ytgiokjflfadeeaa
