/-
  What the laws over a mine with a list of numbers for a result have in common.
-/
import Derived.Test.YtgiokjflfadeeaaMarks
namespace Go.Proofs.Ytgiokjflfadeeaa
open Go.RowKit
set_option linter.unusedVariables false

def OtherPost (b : Bool) (w : World) (e : Ending) (w' : World) : Prop := ∃ z : Int, e = .returned (.tuple #[.int .i64 z, .bool b]) ∧ Below w.heap.size w w'
def ListPost (ls : List Int) (code : Int) (w : World) (e : Ending) (w' : World) : Prop :=
  ∃ v, e = .returned (.tuple #[v, .int .i64 code]) ∧ OwnI w' w.heap.size v ls ∧ Below w.heap.size w w'
theorem OwnI.ints {w : World} {B : Nat} {A : Option Addr} {c : Nat} {xs : List Int} {n : Nat} (h : OwnI w B (.slice A n c) xs) : n = xs.length ∧ Ints w w.heap.size A xs := by
  obtain ⟨A', c', e, hi⟩ := h.reads
  injection e with e1 e2 e3
  subst e1
  exact ⟨e2, hi⟩
theorem RowA.rowN {w : World} {g n k : Nat} {xs : List AW} (h : RowA w g n k xs) : RowN w g n := by
  obtain ⟨cur, h1, h2, _⟩ := h
  exact ⟨cur, h1, h2⟩
end Go.Proofs.Ytgiokjflfadeeaa
