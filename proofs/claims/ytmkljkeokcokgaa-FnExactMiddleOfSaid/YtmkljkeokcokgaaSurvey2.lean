/-
  The contract of the reference's l05Bounds.
-/
import Derived.Test.YtmkljkeokcokgaaSurvey
namespace Go.Proofs.Ytmkljkeokcokgaa
open Go.RowKit
set_option linter.unusedVariables false

theorem l05Bounds_any (b : Nat) (a : ByteArray) (d de f fe : Int) (w : World) (h : survB a d de f fe = true)
    (c1 : w.cell? ⟨b, 1, none⟩ = some (.int .i64 d)) (c2 : w.cell? ⟨b, 2, none⟩ = some (.int .i64 de)) (c3 : w.cell? ⟨b, 3, none⟩ = some (.int .i64 f)) (c4 : w.cell? ⟨b, 4, none⟩ = some (.int .i64 fe)) :
    Calls Try.prog 58 #[.pointer (some ⟨b, 0, none⟩)] w fun e w' => e = .returned (.tuple #[.int .i64 (lowF d de f fe), .int .i64 (highF d de f fe)]) ∧ ∃ q, w' = w.drewN q := by
  obtain ⟨⟨b1, b2⟩, ⟨b3, b4⟩, ⟨b5, b6⟩, b7, b8⟩ := surv_bd h
  have s1 := sq_bd2 (f + fe) 199999 (by omega) (by omega)
  have s2 := sq_bd2 (f - fe) 100000 (by omega) (by omega)
  have hm : 0 ≤ maxI 0 (d - de) ∧ maxI 0 (d - de) ≤ 10000 := by unfold maxI; split <;> omega
  clear h
  have q0 : IntKind.i64.wrap (d - de) = d - de := IntWalk.i64_in _ (by omega)
  go_enter Try.func58, Try.ntmps58
  go_wp2_with fail
  go_quiet ((go_at_call 61; exact quiet_left (l00Max_any _ _ _)))
  go_wp2_with fail
  have q1 : IntKind.i64.wrap (f + fe) = f + fe := IntWalk.i64_in _ (by omega)
  have q2 : IntKind.i64.wrap (f - fe) = f - fe := IntWalk.i64_in _ (by omega)
  go_quiet (fail)
  go_wp2_with fail
  go_quiet (fail)
  go_wp2_with fail
  have q3 : IntKind.i64.wrap (d + de) = d + de := IntWalk.i64_in _ (by omega)
  have q4 : IntKind.i64.wrap ((d + de) * 10000000000) = (d + de) * 10000000000 := IntWalk.i64_in _ (by omega)
  have q5 : IntKind.i64.wrap ((f - fe) * (f - fe)) = (f - fe) * (f - fe) := IntWalk.i64_in _ (by omega)
  have q6 : IntKind.i64.wrap ((d + de) * 10000000000 + (f - fe) * (f - fe)) = (d + de) * 10000000000 + (f - fe) * (f - fe) := IntWalk.i64_in _ (by omega)
  have q7 : IntKind.i64.wrap ((d + de) * 10000000000 + (f - fe) * (f - fe) - 1) = (d + de) * 10000000000 + (f - fe) * (f - fe) - 1 := IntWalk.i64_in _ (by omega)
  have q8 : IntKind.i64.wrap (((d + de) * 10000000000 + (f - fe) * (f - fe) - 1).tdiv ((f - fe) * (f - fe))) = ((d + de) * 10000000000 + (f - fe) * (f - fe) - 1) / ((f - fe) * (f - fe)) := IntWalk.i64_quo _ _ (by omega)
  go_quiet (fail)
  clear q0 q1 q2 q3 q4 q5 q6 q7 q8
  go_wp2_with (first | (go_at_call 61; refine (l00Max_any _ _ _).mono ?_; rintro e w' ⟨rfl, rfl⟩) | (go_at_call 60; refine (l00Min_any _ _ _).mono ?_; rintro e w' ⟨rfl, rfl⟩))
  go_ret2
  exact ⟨rfl, _, rfl⟩
end Go.Proofs.Ytmkljkeokcokgaa
