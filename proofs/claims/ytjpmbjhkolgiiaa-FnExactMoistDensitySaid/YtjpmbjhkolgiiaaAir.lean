/-
  The contract of toAir: it hands back the same three numbers.
-/
import Derived.Test.YtjpmbjhkolgiiaaNum
namespace Go.Proofs.Ytjpmbjhkolgiiaa
open Go.RowKit
set_option linter.unusedVariables false

theorem toAir_any (t p h : Int) (w : World) :
    Calls Try.prog 16 #[.agg #[.int .i64 t, .int .i64 p, .int .i64 h]] w fun e w' => e = .returned (.agg #[.int .i64 t, .int .i64 p, .int .i64 h]) ∧ ∃ (c1 c2 c3 : Array Value) (t1 t2 t3 : TypeId), w' = ((w.alloc (.cells c1 t1)).alloc (.cells c2 t2)).alloc (.cells c3 t3) := by
  go_enter Try.func16, Try.ntmps16
  go_wp2
  simp [bodyPost, results, Try.results16, go_sem]
  exact ⟨_, _, _, _, _, _, rfl⟩
end Go.Proofs.Ytjpmbjhkolgiiaa
