/-
  The contracts of a few small number functions: the greater of two, the quotient rounded up, the absolute value.
-/
import Derived.Test.YtjpmbjhkolgiiaaNum
import Derived.Test.YtjpmbjhkolgiiaaMono
namespace Go.Proofs.Ytjpmbjhkolgiiaa
open Go.RowKit
set_option linter.unusedVariables false

def maxI (a b : Int) : Int := if b < a then a else b
theorem l00Max_any (a b : Int) (w : World) : Calls Try.prog 96 #[.int .i64 a, .int .i64 b] w fun e w' => e = .returned (.int .i64 (maxI a b)) ∧ w = w' := by
  go_enter Try.func96, Try.ntmps96
  go_wp2
  all_goals go_ret
  all_goals exact ⟨ret_int (by unfold maxI; split <;> omega), rfl⟩
theorem divUp_any (a b : Int) (w : World) (h0 : 0 ≤ a) (h1 : a ≤ 1000000000000000000) (h2 : 1 ≤ b) (h3 : b ≤ 1000000000000000000) :
    Calls Try.prog 79 #[.int .i64 a, .int .i64 b] w fun e w' => e = .returned (.int .i64 ((a + b - 1) / b)) ∧ w = w' := by
  go_enter Try.func79, Try.ntmps79
  go_wp2
  go_ret
  exact ⟨rfl, rfl⟩
theorem l03Abs_any (n : Int) (w : World) (h : -9223372036854775807 ≤ n) (h' : n ≤ 9223372036854775807) :
    Calls Try.prog 95 #[.int .i64 n] w fun e w' => e = .returned (.int .i64 (absI n)) ∧ w = w' := by
  go_enter Try.func95, Try.ntmps95
  go_wp2
  all_goals go_ret
  all_goals exact ⟨ret_int (by unfold absI; split <;> omega), rfl⟩
end Go.Proofs.Ytjpmbjhkolgiiaa
