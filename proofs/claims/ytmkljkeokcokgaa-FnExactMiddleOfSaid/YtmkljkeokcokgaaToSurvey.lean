/-
  The contract of toSurvey: it hands back the same survey.
-/
import Derived.Test.YtmkljkeokcokgaaNum
namespace Go.Proofs.Ytmkljkeokcokgaa
open Go.RowKit
set_option linter.unusedVariables false

theorem toSurvey_any (a : ByteArray) (d de f fe : Int) (w : World) :
    Calls Try.prog 25 #[.agg #[.string a, .int .i64 d, .int .i64 de, .int .i64 f, .int .i64 fe]] w fun e w' => e = .returned (.agg #[.string a, .int .i64 d, .int .i64 de, .int .i64 f, .int .i64 fe]) ∧ ∃ (c1 c2 c3 : Array Value) (t1 t2 t3 : TypeId), w' = ((w.alloc (.cells c1 t1)).alloc (.cells c2 t2)).alloc (.cells c3 t3) := by
  go_enter Try.func25, Try.ntmps25
  go_wp2
  simp [bodyPost, results, Try.results25, go_sem]
  exact ⟨_, _, _, _, _, _, rfl⟩
end Go.Proofs.Ytmkljkeokcokgaa
