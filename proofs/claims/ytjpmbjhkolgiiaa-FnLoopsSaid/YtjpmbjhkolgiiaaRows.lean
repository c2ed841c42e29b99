/-
  No cell of these rows narrows 'for every input' (looked for: loops, veiled, ifaces, maps, wideKeys, modest, calm, conditions, laid).
  DERIVED. THE GIVEN ROWS OF THIS SEAT. 12 by the template 'for every input the law returns true; each argument reads behind the call as it read before'; 0 by the template 'total and deterministic' (their statements: YtjpmbjhkolgiiaaTotals.lean).
  GIVEN WITH THE SEED: the statements are not yours to turn. If you find one false, say at which input.
  Laid BY PROGRAM, IN A SANDBOX (cutbox-rows.mjs): the forced cells as the released guide's own fill.sh prints them over the translation 46644c0a03c6c2b9… (all of the seat's roots in one cut). By AI agents, Wed Nov 11 2026. No macro, syntax, notation, axiom, sorry.
-/
import Derived.Test.YtjpmbjhkolgiiaaChecked
import GoSem.Claim
import GoSem.ClaimJoined
import GoSem.ClaimMapViews
import Derived.JoinedTies
import Derived.KernelRfl
namespace Go.Proofs.Ytjpmbjhkolgiiaa
/- THE CELL 'sum', in the pinned program and in every row, IS THE sha256 OF THE DUMP (.gsa) THAT YtjpmbjhkolgiiaaProg.lean LOADS. Nothing in Lean hashes anything: it is a label: what it is worth is what the hold of that sum in a sandbox is worth. -/
noncomputable def Try.pinned : Pinned := { name := "ytjpmbjhkolgiiaa", sum := "46644c0a03c6c2b93984fe5ee93dbd807d902e8f4ac7886606dcb7003a90457f", checked := Try.checked }
namespace Rows
def none {H : Type} : Left H := { results := [], args := [] }

/-- 'laws.FnExactMoistDensity': WHATEVER THE INPUT: true; the input reads as it did. -/
def fnExactMoistDensitySpec : ChangeSpec := { name := "fnExactMoistDensity", fn := fun _ => fun
  | [d] => { results := [.lit (.bool true)], args := [d] }
  | _ => none }
def fnExactMoistDensityRow : OpenClaim := { program := "ytjpmbjhkolgiiaa", sum := "46644c0a03c6c2b93984fe5ee93dbd807d902e8f4ac7886606dcb7003a90457f", func := "loop.example/g01021/laws.FnExactMoistDensity", spec := "fnExactMoistDensity", apart := false }
def FnExactMoistDensitySaid : Prop := fnExactMoistDensityRow.holds Try.pinned (OpenSpec.ofChange fnExactMoistDensitySpec)

/-- ITS FALSE NEIGHBOUR: 'it returns false'. Refute it at one input. -/
def fnExactMoistDensityWrong : ChangeSpec := { name := "fnExactMoistDensity", fn := fun _ => fun
  | [d] => { results := [.lit (.bool false)], args := [d] }
  | _ => none }
def FnExactMoistDensityWrongFalsely : Prop := fnExactMoistDensityRow.holds Try.pinned (OpenSpec.ofChange fnExactMoistDensityWrong)

/-- 'laws.FnExactDewPoint': WHATEVER THE INPUT: true; the input reads as it did. -/
def fnExactDewPointSpec : ChangeSpec := { name := "fnExactDewPoint", fn := fun _ => fun
  | [d1, d2] => { results := [.lit (.bool true)], args := [d1, d2] }
  | _ => none }
def fnExactDewPointRow : OpenClaim := { program := "ytjpmbjhkolgiiaa", sum := "46644c0a03c6c2b93984fe5ee93dbd807d902e8f4ac7886606dcb7003a90457f", func := "loop.example/g01021/laws.FnExactDewPoint", spec := "fnExactDewPoint", unfollowed := true, recurses := true, apart := false }
def FnExactDewPointSaid : Prop := fnExactDewPointRow.holds Try.pinned (OpenSpec.ofChange fnExactDewPointSpec)

/-- ITS FALSE NEIGHBOUR: 'it returns false'. Refute it at one input. -/
def fnExactDewPointWrong : ChangeSpec := { name := "fnExactDewPoint", fn := fun _ => fun
  | [d1, d2] => { results := [.lit (.bool false)], args := [d1, d2] }
  | _ => none }
def FnExactDewPointWrongFalsely : Prop := fnExactDewPointRow.holds Try.pinned (OpenSpec.ofChange fnExactDewPointWrong)

/-- 'laws.FnExactLoopError': WHATEVER THE INPUT: true; the input reads as it did. -/
def fnExactLoopErrorSpec : ChangeSpec := { name := "fnExactLoopError", fn := fun _ => fun
  | [d] => { results := [.lit (.bool true)], args := [d] }
  | _ => none }
def fnExactLoopErrorRow : OpenClaim := { program := "ytjpmbjhkolgiiaa", sum := "46644c0a03c6c2b93984fe5ee93dbd807d902e8f4ac7886606dcb7003a90457f", func := "loop.example/g01021/laws.FnExactLoopError", spec := "fnExactLoopError", unfollowed := true, recurses := true, apart := false }
def FnExactLoopErrorSaid : Prop := fnExactLoopErrorRow.holds Try.pinned (OpenSpec.ofChange fnExactLoopErrorSpec)

/-- ITS FALSE NEIGHBOUR: 'it returns false'. Refute it at one input. -/
def fnExactLoopErrorWrong : ChangeSpec := { name := "fnExactLoopError", fn := fun _ => fun
  | [d] => { results := [.lit (.bool false)], args := [d] }
  | _ => none }
def FnExactLoopErrorWrongFalsely : Prop := fnExactLoopErrorRow.holds Try.pinned (OpenSpec.ofChange fnExactLoopErrorWrong)

/-- 'laws.FnLoops': WHATEVER THE INPUT: true; the input reads as it did. -/
def fnLoopsSpec : ChangeSpec := { name := "fnLoops", fn := fun _ => fun
  | [d] => { results := [.lit (.bool true)], args := [d] }
  | _ => none }
def fnLoopsRow : OpenClaim := { program := "ytjpmbjhkolgiiaa", sum := "46644c0a03c6c2b93984fe5ee93dbd807d902e8f4ac7886606dcb7003a90457f", func := "loop.example/g01021/laws.FnLoops", spec := "fnLoops", unfollowed := true, recurses := true, apart := false }
def FnLoopsSaid : Prop := fnLoopsRow.holds Try.pinned (OpenSpec.ofChange fnLoopsSpec)

/-- ITS FALSE NEIGHBOUR: 'it returns false'. Refute it at one input. -/
def fnLoopsWrong : ChangeSpec := { name := "fnLoops", fn := fun _ => fun
  | [d] => { results := [.lit (.bool false)], args := [d] }
  | _ => none }
def FnLoopsWrongFalsely : Prop := fnLoopsRow.holds Try.pinned (OpenSpec.ofChange fnLoopsWrong)

/-- 'laws.FnExactJunctionError': WHATEVER THE INPUT: true; the input reads as it did. -/
def fnExactJunctionErrorSpec : ChangeSpec := { name := "fnExactJunctionError", fn := fun _ => fun
  | [d1, d2] => { results := [.lit (.bool true)], args := [d1, d2] }
  | _ => none }
def fnExactJunctionErrorRow : OpenClaim := { program := "ytjpmbjhkolgiiaa", sum := "46644c0a03c6c2b93984fe5ee93dbd807d902e8f4ac7886606dcb7003a90457f", func := "loop.example/g01021/laws.FnExactJunctionError", spec := "fnExactJunctionError", unfollowed := true, recurses := true, apart := false }
def FnExactJunctionErrorSaid : Prop := fnExactJunctionErrorRow.holds Try.pinned (OpenSpec.ofChange fnExactJunctionErrorSpec)

/-- ITS FALSE NEIGHBOUR: 'it returns false'. Refute it at one input. -/
def fnExactJunctionErrorWrong : ChangeSpec := { name := "fnExactJunctionError", fn := fun _ => fun
  | [d1, d2] => { results := [.lit (.bool false)], args := [d1, d2] }
  | _ => none }
def FnExactJunctionErrorWrongFalsely : Prop := fnExactJunctionErrorRow.holds Try.pinned (OpenSpec.ofChange fnExactJunctionErrorWrong)

/-- 'laws.FnExactValidAirway': WHATEVER THE INPUT: true; the input reads as it did. -/
def fnExactValidAirwaySpec : ChangeSpec := { name := "fnExactValidAirway", fn := fun _ => fun
  | [d] => { results := [.lit (.bool true)], args := [d] }
  | _ => none }
def fnExactValidAirwayRow : OpenClaim := { program := "ytjpmbjhkolgiiaa", sum := "46644c0a03c6c2b93984fe5ee93dbd807d902e8f4ac7886606dcb7003a90457f", func := "loop.example/g01021/laws.FnExactValidAirway", spec := "fnExactValidAirway", apart := false }
def FnExactValidAirwaySaid : Prop := fnExactValidAirwayRow.holds Try.pinned (OpenSpec.ofChange fnExactValidAirwaySpec)

/-- ITS FALSE NEIGHBOUR: 'it returns false'. Refute it at one input. -/
def fnExactValidAirwayWrong : ChangeSpec := { name := "fnExactValidAirway", fn := fun _ => fun
  | [d] => { results := [.lit (.bool false)], args := [d] }
  | _ => none }
def FnExactValidAirwayWrongFalsely : Prop := fnExactValidAirwayRow.holds Try.pinned (OpenSpec.ofChange fnExactValidAirwayWrong)

/-- 'laws.FnExactVolumeOf': WHATEVER THE INPUT: true; the input reads as it did. -/
def fnExactVolumeOfSpec : ChangeSpec := { name := "fnExactVolumeOf", fn := fun _ => fun
  | [d] => { results := [.lit (.bool true)], args := [d] }
  | _ => none }
def fnExactVolumeOfRow : OpenClaim := { program := "ytjpmbjhkolgiiaa", sum := "46644c0a03c6c2b93984fe5ee93dbd807d902e8f4ac7886606dcb7003a90457f", func := "loop.example/g01021/laws.FnExactVolumeOf", spec := "fnExactVolumeOf", apart := false }
def FnExactVolumeOfSaid : Prop := fnExactVolumeOfRow.holds Try.pinned (OpenSpec.ofChange fnExactVolumeOfSpec)

/-- ITS FALSE NEIGHBOUR: 'it returns false'. Refute it at one input. -/
def fnExactVolumeOfWrong : ChangeSpec := { name := "fnExactVolumeOf", fn := fun _ => fun
  | [d] => { results := [.lit (.bool false)], args := [d] }
  | _ => none }
def FnExactVolumeOfWrongFalsely : Prop := fnExactVolumeOfRow.holds Try.pinned (OpenSpec.ofChange fnExactVolumeOfWrong)

/-- 'laws.FnExactFlowLimit': WHATEVER THE INPUT: true; the input reads as it did. -/
def fnExactFlowLimitSpec : ChangeSpec := { name := "fnExactFlowLimit", fn := fun _ => fun
  | [d1, d2] => { results := [.lit (.bool true)], args := [d1, d2] }
  | _ => none }
def fnExactFlowLimitRow : OpenClaim := { program := "ytjpmbjhkolgiiaa", sum := "46644c0a03c6c2b93984fe5ee93dbd807d902e8f4ac7886606dcb7003a90457f", func := "loop.example/g01021/laws.FnExactFlowLimit", spec := "fnExactFlowLimit", apart := false }
def FnExactFlowLimitSaid : Prop := fnExactFlowLimitRow.holds Try.pinned (OpenSpec.ofChange fnExactFlowLimitSpec)

/-- ITS FALSE NEIGHBOUR: 'it returns false'. Refute it at one input. -/
def fnExactFlowLimitWrong : ChangeSpec := { name := "fnExactFlowLimit", fn := fun _ => fun
  | [d1, d2] => { results := [.lit (.bool false)], args := [d1, d2] }
  | _ => none }
def FnExactFlowLimitWrongFalsely : Prop := fnExactFlowLimitRow.holds Try.pinned (OpenSpec.ofChange fnExactFlowLimitWrong)

/-- 'laws.FnExactTurnAirway': WHATEVER THE INPUT: true; the input reads as it did. -/
def fnExactTurnAirwaySpec : ChangeSpec := { name := "fnExactTurnAirway", fn := fun _ => fun
  | [d] => { results := [.lit (.bool true)], args := [d] }
  | _ => none }
def fnExactTurnAirwayRow : OpenClaim := { program := "ytjpmbjhkolgiiaa", sum := "46644c0a03c6c2b93984fe5ee93dbd807d902e8f4ac7886606dcb7003a90457f", func := "loop.example/g01021/laws.FnExactTurnAirway", spec := "fnExactTurnAirway", apart := false }
def FnExactTurnAirwaySaid : Prop := fnExactTurnAirwayRow.holds Try.pinned (OpenSpec.ofChange fnExactTurnAirwaySpec)

/-- ITS FALSE NEIGHBOUR: 'it returns false'. Refute it at one input. -/
def fnExactTurnAirwayWrong : ChangeSpec := { name := "fnExactTurnAirway", fn := fun _ => fun
  | [d] => { results := [.lit (.bool false)], args := [d] }
  | _ => none }
def FnExactTurnAirwayWrongFalsely : Prop := fnExactTurnAirwayRow.holds Try.pinned (OpenSpec.ofChange fnExactTurnAirwayWrong)

/-- 'laws.FnExactSpeedOf': WHATEVER THE INPUT: true; the input reads as it did. -/
def fnExactSpeedOfSpec : ChangeSpec := { name := "fnExactSpeedOf", fn := fun _ => fun
  | [d1, d2] => { results := [.lit (.bool true)], args := [d1, d2] }
  | _ => none }
def fnExactSpeedOfRow : OpenClaim := { program := "ytjpmbjhkolgiiaa", sum := "46644c0a03c6c2b93984fe5ee93dbd807d902e8f4ac7886606dcb7003a90457f", func := "loop.example/g01021/laws.FnExactSpeedOf", spec := "fnExactSpeedOf", apart := false }
def FnExactSpeedOfSaid : Prop := fnExactSpeedOfRow.holds Try.pinned (OpenSpec.ofChange fnExactSpeedOfSpec)

/-- ITS FALSE NEIGHBOUR: 'it returns false'. Refute it at one input. -/
def fnExactSpeedOfWrong : ChangeSpec := { name := "fnExactSpeedOf", fn := fun _ => fun
  | [d1, d2] => { results := [.lit (.bool false)], args := [d1, d2] }
  | _ => none }
def FnExactSpeedOfWrongFalsely : Prop := fnExactSpeedOfRow.holds Try.pinned (OpenSpec.ofChange fnExactSpeedOfWrong)

/-- 'laws.FnExactTravelTime': WHATEVER THE INPUT: true; the input reads as it did. -/
def fnExactTravelTimeSpec : ChangeSpec := { name := "fnExactTravelTime", fn := fun _ => fun
  | [d1, d2] => { results := [.lit (.bool true)], args := [d1, d2] }
  | _ => none }
def fnExactTravelTimeRow : OpenClaim := { program := "ytjpmbjhkolgiiaa", sum := "46644c0a03c6c2b93984fe5ee93dbd807d902e8f4ac7886606dcb7003a90457f", func := "loop.example/g01021/laws.FnExactTravelTime", spec := "fnExactTravelTime", apart := false }
def FnExactTravelTimeSaid : Prop := fnExactTravelTimeRow.holds Try.pinned (OpenSpec.ofChange fnExactTravelTimeSpec)

/-- ITS FALSE NEIGHBOUR: 'it returns false'. Refute it at one input. -/
def fnExactTravelTimeWrong : ChangeSpec := { name := "fnExactTravelTime", fn := fun _ => fun
  | [d1, d2] => { results := [.lit (.bool false)], args := [d1, d2] }
  | _ => none }
def FnExactTravelTimeWrongFalsely : Prop := fnExactTravelTimeRow.holds Try.pinned (OpenSpec.ofChange fnExactTravelTimeWrong)

/-- 'laws.FnExactResistanceOf': WHATEVER THE INPUT: true; the input reads as it did. -/
def fnExactResistanceOfSpec : ChangeSpec := { name := "fnExactResistanceOf", fn := fun _ => fun
  | [d] => { results := [.lit (.bool true)], args := [d] }
  | _ => none }
def fnExactResistanceOfRow : OpenClaim := { program := "ytjpmbjhkolgiiaa", sum := "46644c0a03c6c2b93984fe5ee93dbd807d902e8f4ac7886606dcb7003a90457f", func := "loop.example/g01021/laws.FnExactResistanceOf", spec := "fnExactResistanceOf", unfollowed := true, recurses := true, apart := false }
def FnExactResistanceOfSaid : Prop := fnExactResistanceOfRow.holds Try.pinned (OpenSpec.ofChange fnExactResistanceOfSpec)

/-- ITS FALSE NEIGHBOUR: 'it returns false'. Refute it at one input. -/
def fnExactResistanceOfWrong : ChangeSpec := { name := "fnExactResistanceOf", fn := fun _ => fun
  | [d] => { results := [.lit (.bool false)], args := [d] }
  | _ => none }
def FnExactResistanceOfWrongFalsely : Prop := fnExactResistanceOfRow.holds Try.pinned (OpenSpec.ofChange fnExactResistanceOfWrong)

/- THE SECOND FORM. 'bulk': how many values and letters a reading holds, each counted each time it is reached (what is shared counts as often as it is met; a slice's spare places count too). A statement '..UptoSaid' is the law's where the arguments, and the package variables that the reading takes, are together of bulk at most 1048576: NARROWER than '..Said'. Prove '..Said' where nothing that the law and all that it calls make is longer than what came in: it says more and counts as full. Else prove '..UptoSaid'. A law counts once. -/
mutual
def uptoBulk {H : Type} : DataW H → Nat
  | .lit (.string bytes) => bytes.length + 1
  | .lit _ => 1
  | .nil => 1
  | .ptr d => uptoBulk d + 1
  | .slice elems spare => uptoBulkAll elems + uptoBulkAll spare + 1
  | .agg parts => uptoBulkAll parts + 1
  | .iface _ d => uptoBulk d + 1
  | .map entries => uptoBulkEntries entries + 1
  | .held _ => 1
def uptoBulkAll {H : Type} : List (DataW H) → Nat
  | [] => 0
  | d :: r => uptoBulk d + uptoBulkAll r
def uptoBulkEntries {H : Type} : List (Lit × DataW H) → Nat
  | [] => 0
  | x :: r => uptoBulkEntry x + uptoBulkEntries r
def uptoBulkEntry {H : Type} : Lit × DataW H → Nat
  | (.string bytes, d) => bytes.length + uptoBulk d + 1
  | (_, d) => uptoBulk d + 1
 end
def uptoSmall : (H : Type) → List (DataW H) → Bool := fun _ ds => decide (uptoBulkAll ds ≤ 1048576)
def OpenSpec.upto (s : _root_.Go.ChangeSpec) : _root_.Go.OpenSpec := { _root_.Go.OpenSpec.ofChange s with cond := some uptoSmall }

/-- 'laws.FnExactMoistDensity', WHERE WHAT IT READS IS OF BULK AT MOST 1048576: true; the input reads as it did. -/
def fnExactMoistDensityUptoRow : OpenClaim := { program := "ytjpmbjhkolgiiaa", sum := "46644c0a03c6c2b93984fe5ee93dbd807d902e8f4ac7886606dcb7003a90457f", func := "loop.example/g01021/laws.FnExactMoistDensity", spec := "fnExactMoistDensity", apart := false, narrowed := true }
def FnExactMoistDensityUptoSaid : Prop := fnExactMoistDensityUptoRow.holds Try.pinned (OpenSpec.upto fnExactMoistDensitySpec)

/-- 'laws.FnExactDewPoint', WHERE WHAT IT READS IS OF BULK AT MOST 1048576: true; the input reads as it did. -/
def fnExactDewPointUptoRow : OpenClaim := { program := "ytjpmbjhkolgiiaa", sum := "46644c0a03c6c2b93984fe5ee93dbd807d902e8f4ac7886606dcb7003a90457f", func := "loop.example/g01021/laws.FnExactDewPoint", spec := "fnExactDewPoint", unfollowed := true, recurses := true, apart := false, narrowed := true }
def FnExactDewPointUptoSaid : Prop := fnExactDewPointUptoRow.holds Try.pinned (OpenSpec.upto fnExactDewPointSpec)

/-- 'laws.FnExactLoopError', WHERE WHAT IT READS IS OF BULK AT MOST 1048576: true; the input reads as it did. -/
def fnExactLoopErrorUptoRow : OpenClaim := { program := "ytjpmbjhkolgiiaa", sum := "46644c0a03c6c2b93984fe5ee93dbd807d902e8f4ac7886606dcb7003a90457f", func := "loop.example/g01021/laws.FnExactLoopError", spec := "fnExactLoopError", unfollowed := true, recurses := true, apart := false, narrowed := true }
def FnExactLoopErrorUptoSaid : Prop := fnExactLoopErrorUptoRow.holds Try.pinned (OpenSpec.upto fnExactLoopErrorSpec)

/-- 'laws.FnLoops', WHERE WHAT IT READS IS OF BULK AT MOST 1048576: true; the input reads as it did. -/
def fnLoopsUptoRow : OpenClaim := { program := "ytjpmbjhkolgiiaa", sum := "46644c0a03c6c2b93984fe5ee93dbd807d902e8f4ac7886606dcb7003a90457f", func := "loop.example/g01021/laws.FnLoops", spec := "fnLoops", unfollowed := true, recurses := true, apart := false, narrowed := true }
def FnLoopsUptoSaid : Prop := fnLoopsUptoRow.holds Try.pinned (OpenSpec.upto fnLoopsSpec)

/-- 'laws.FnExactJunctionError', WHERE WHAT IT READS IS OF BULK AT MOST 1048576: true; the input reads as it did. -/
def fnExactJunctionErrorUptoRow : OpenClaim := { program := "ytjpmbjhkolgiiaa", sum := "46644c0a03c6c2b93984fe5ee93dbd807d902e8f4ac7886606dcb7003a90457f", func := "loop.example/g01021/laws.FnExactJunctionError", spec := "fnExactJunctionError", unfollowed := true, recurses := true, apart := false, narrowed := true }
def FnExactJunctionErrorUptoSaid : Prop := fnExactJunctionErrorUptoRow.holds Try.pinned (OpenSpec.upto fnExactJunctionErrorSpec)

/-- 'laws.FnExactValidAirway', WHERE WHAT IT READS IS OF BULK AT MOST 1048576: true; the input reads as it did. -/
def fnExactValidAirwayUptoRow : OpenClaim := { program := "ytjpmbjhkolgiiaa", sum := "46644c0a03c6c2b93984fe5ee93dbd807d902e8f4ac7886606dcb7003a90457f", func := "loop.example/g01021/laws.FnExactValidAirway", spec := "fnExactValidAirway", apart := false, narrowed := true }
def FnExactValidAirwayUptoSaid : Prop := fnExactValidAirwayUptoRow.holds Try.pinned (OpenSpec.upto fnExactValidAirwaySpec)

/-- 'laws.FnExactVolumeOf', WHERE WHAT IT READS IS OF BULK AT MOST 1048576: true; the input reads as it did. -/
def fnExactVolumeOfUptoRow : OpenClaim := { program := "ytjpmbjhkolgiiaa", sum := "46644c0a03c6c2b93984fe5ee93dbd807d902e8f4ac7886606dcb7003a90457f", func := "loop.example/g01021/laws.FnExactVolumeOf", spec := "fnExactVolumeOf", apart := false, narrowed := true }
def FnExactVolumeOfUptoSaid : Prop := fnExactVolumeOfUptoRow.holds Try.pinned (OpenSpec.upto fnExactVolumeOfSpec)

/-- 'laws.FnExactFlowLimit', WHERE WHAT IT READS IS OF BULK AT MOST 1048576: true; the input reads as it did. -/
def fnExactFlowLimitUptoRow : OpenClaim := { program := "ytjpmbjhkolgiiaa", sum := "46644c0a03c6c2b93984fe5ee93dbd807d902e8f4ac7886606dcb7003a90457f", func := "loop.example/g01021/laws.FnExactFlowLimit", spec := "fnExactFlowLimit", apart := false, narrowed := true }
def FnExactFlowLimitUptoSaid : Prop := fnExactFlowLimitUptoRow.holds Try.pinned (OpenSpec.upto fnExactFlowLimitSpec)

/-- 'laws.FnExactTurnAirway', WHERE WHAT IT READS IS OF BULK AT MOST 1048576: true; the input reads as it did. -/
def fnExactTurnAirwayUptoRow : OpenClaim := { program := "ytjpmbjhkolgiiaa", sum := "46644c0a03c6c2b93984fe5ee93dbd807d902e8f4ac7886606dcb7003a90457f", func := "loop.example/g01021/laws.FnExactTurnAirway", spec := "fnExactTurnAirway", apart := false, narrowed := true }
def FnExactTurnAirwayUptoSaid : Prop := fnExactTurnAirwayUptoRow.holds Try.pinned (OpenSpec.upto fnExactTurnAirwaySpec)

/-- 'laws.FnExactSpeedOf', WHERE WHAT IT READS IS OF BULK AT MOST 1048576: true; the input reads as it did. -/
def fnExactSpeedOfUptoRow : OpenClaim := { program := "ytjpmbjhkolgiiaa", sum := "46644c0a03c6c2b93984fe5ee93dbd807d902e8f4ac7886606dcb7003a90457f", func := "loop.example/g01021/laws.FnExactSpeedOf", spec := "fnExactSpeedOf", apart := false, narrowed := true }
def FnExactSpeedOfUptoSaid : Prop := fnExactSpeedOfUptoRow.holds Try.pinned (OpenSpec.upto fnExactSpeedOfSpec)

/-- 'laws.FnExactTravelTime', WHERE WHAT IT READS IS OF BULK AT MOST 1048576: true; the input reads as it did. -/
def fnExactTravelTimeUptoRow : OpenClaim := { program := "ytjpmbjhkolgiiaa", sum := "46644c0a03c6c2b93984fe5ee93dbd807d902e8f4ac7886606dcb7003a90457f", func := "loop.example/g01021/laws.FnExactTravelTime", spec := "fnExactTravelTime", apart := false, narrowed := true }
def FnExactTravelTimeUptoSaid : Prop := fnExactTravelTimeUptoRow.holds Try.pinned (OpenSpec.upto fnExactTravelTimeSpec)

/-- 'laws.FnExactResistanceOf', WHERE WHAT IT READS IS OF BULK AT MOST 1048576: true; the input reads as it did. -/
def fnExactResistanceOfUptoRow : OpenClaim := { program := "ytjpmbjhkolgiiaa", sum := "46644c0a03c6c2b93984fe5ee93dbd807d902e8f4ac7886606dcb7003a90457f", func := "loop.example/g01021/laws.FnExactResistanceOf", spec := "fnExactResistanceOf", unfollowed := true, recurses := true, apart := false, narrowed := true }
def FnExactResistanceOfUptoSaid : Prop := fnExactResistanceOfUptoRow.holds Try.pinned (OpenSpec.upto fnExactResistanceOfSpec)

end Rows
end Go.Proofs.Ytjpmbjhkolgiiaa
