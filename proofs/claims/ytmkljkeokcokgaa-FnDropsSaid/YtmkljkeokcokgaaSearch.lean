/-
  The contract of sort.Search at a function value that only reads: the place that it finds has the property, the place before it has not.
-/
import Derived.Test.YtmkljkeokcokgaaNum
namespace Go.Proofs.Ytmkljkeokcokgaa
open Go.RowKit
set_option linter.unusedVariables false

def SearchPost (N : Nat) (p : Nat → Bool) (w : World) (e : Ending) (w' : World) : Prop :=
  ∃ r : Nat, r ≤ N ∧ e = .returned (.int .i64 r) ∧ (0 < r → p (r - 1) = false) ∧ (r < N → p r = true) ∧ ∃ q, w' = w.drewN q
def SearchPostB (N : Nat) (p : Nat → Bool) (w : World) (e : Ending) (w' : World) : Prop :=
  ∃ r : Nat, r ≤ N ∧ e = .returned (.int .i64 r) ∧ (0 < r → p (r - 1) = false) ∧ (r < N → p r = true) ∧ Below w.heap.size w w'
theorem mid_is (a b : Nat) : ((a : Int) + (b : Int)) / 2 = (((a + b) / 2 : Nat) : Int) := by omega

end Go.Proofs.Ytmkljkeokcokgaa
