/-
  The contract of toAir: it hands back the same three numbers.
-/
import Derived.Test.YtfgfoggnhjchiaaDoorNum
namespace Go.Proofs.YtfgfoggnhjchiaaDoor
open Go.RowKit
set_option linter.unusedVariables false

theorem toAir_any (t p h : Int) (w : World) :
    Calls Tryd.prog 25 #[.agg #[.int .i64 t, .int .i64 p, .int .i64 h]] w fun e w' => e = .returned (.agg #[.int .i64 t, .int .i64 p, .int .i64 h]) ∧ ∃ (c1 c2 c3 : Array Value) (t1 t2 t3 : TypeId), w' = ((w.alloc (.cells c1 t1)).alloc (.cells c2 t2)).alloc (.cells c3 t3) := by
  go_enter Tryd.func25, Tryd.ntmps25
  go_wp2
  simp [bodyPost, results, Tryd.results25, go_sem]
  exact ⟨_, _, _, _, _, _, rfl⟩
end Go.Proofs.YtfgfoggnhjchiaaDoor
