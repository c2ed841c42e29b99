/-
  No cell of these rows narrows 'for every input' (looked for: loops, veiled, ifaces, maps, wideKeys, modest, calm, conditions, laid).
  DERIVED. THE GIVEN ROWS OF THIS SEAT. 12 by the template 'for every input the law returns true; each argument reads behind the call as it read before'; 0 by the template 'total and deterministic' (their statements: YtmkljkeokcokgaaTotals.lean).
  GIVEN WITH THE SEED: the statements are not yours to turn. If you find one false, say at which input.
  Laid BY PROGRAM, IN A SANDBOX (cutbox-rows.mjs): the forced cells as the released guide's own fill.sh prints them over the translation 78092bc0ed066c59… (all of the seat's roots in one cut). By AI agents, Wed Nov 11 2026. No macro, syntax, notation, axiom, sorry.
-/
import Derived.Test.YtmkljkeokcokgaaChecked
import GoSem.Claim
import GoSem.ClaimJoined
import GoSem.ClaimMapViews
import Derived.JoinedTies
import Derived.KernelRfl
namespace Go.Proofs.Ytmkljkeokcokgaa
/- THE CELL 'sum', in the pinned program and in every row, IS THE sha256 OF THE DUMP (.gsa) THAT YtmkljkeokcokgaaProg.lean LOADS. Nothing in Lean hashes anything: it is a label: what it is worth is what the hold of that sum in a sandbox is worth. -/
noncomputable def Try.pinned : Pinned := { name := "ytmkljkeokcokgaa", sum := "78092bc0ed066c5910331362a21b7a9c1ff27a63e1363678d98a7951a4a3692e", checked := Try.checked }
namespace Rows
def none {H : Type} : Left H := { results := [], args := [] }

/-- 'laws.FnExactDropOf': WHATEVER THE INPUT: true; the input reads as it did. -/
def fnExactDropOfSpec : ChangeSpec := { name := "fnExactDropOf", fn := fun _ => fun
  | [d1, d2] => { results := [.lit (.bool true)], args := [d1, d2] }
  | _ => none }
def fnExactDropOfRow : OpenClaim := { program := "ytmkljkeokcokgaa", sum := "78092bc0ed066c5910331362a21b7a9c1ff27a63e1363678d98a7951a4a3692e", func := "loop.example/g01021/laws.FnExactDropOf", spec := "fnExactDropOf", apart := false }
def FnExactDropOfSaid : Prop := fnExactDropOfRow.holds Try.pinned (OpenSpec.ofChange fnExactDropOfSpec)

/-- ITS FALSE NEIGHBOUR: 'it returns false'. Refute it at one input. -/
def fnExactDropOfWrong : ChangeSpec := { name := "fnExactDropOf", fn := fun _ => fun
  | [d1, d2] => { results := [.lit (.bool false)], args := [d1, d2] }
  | _ => none }
def FnExactDropOfWrongFalsely : Prop := fnExactDropOfRow.holds Try.pinned (OpenSpec.ofChange fnExactDropOfWrong)

/-- 'laws.FnExactAirPower': WHATEVER THE INPUT: true; the input reads as it did. -/
def fnExactAirPowerSpec : ChangeSpec := { name := "fnExactAirPower", fn := fun _ => fun
  | [d1, d2] => { results := [.lit (.bool true)], args := [d1, d2] }
  | _ => none }
def fnExactAirPowerRow : OpenClaim := { program := "ytmkljkeokcokgaa", sum := "78092bc0ed066c5910331362a21b7a9c1ff27a63e1363678d98a7951a4a3692e", func := "loop.example/g01021/laws.FnExactAirPower", spec := "fnExactAirPower", apart := false }
def FnExactAirPowerSaid : Prop := fnExactAirPowerRow.holds Try.pinned (OpenSpec.ofChange fnExactAirPowerSpec)

/-- ITS FALSE NEIGHBOUR: 'it returns false'. Refute it at one input. -/
def fnExactAirPowerWrong : ChangeSpec := { name := "fnExactAirPower", fn := fun _ => fun
  | [d1, d2] => { results := [.lit (.bool false)], args := [d1, d2] }
  | _ => none }
def FnExactAirPowerWrongFalsely : Prop := fnExactAirPowerRow.holds Try.pinned (OpenSpec.ofChange fnExactAirPowerWrong)

/-- 'laws.FnExactFlowFor': WHATEVER THE INPUT: true; the input reads as it did. -/
def fnExactFlowForSpec : ChangeSpec := { name := "fnExactFlowFor", fn := fun _ => fun
  | [d1, d2] => { results := [.lit (.bool true)], args := [d1, d2] }
  | _ => none }
def fnExactFlowForRow : OpenClaim := { program := "ytmkljkeokcokgaa", sum := "78092bc0ed066c5910331362a21b7a9c1ff27a63e1363678d98a7951a4a3692e", func := "loop.example/g01021/laws.FnExactFlowFor", spec := "fnExactFlowFor", unfollowed := true, recurses := true, apart := false }
def FnExactFlowForSaid : Prop := fnExactFlowForRow.holds Try.pinned (OpenSpec.ofChange fnExactFlowForSpec)

/-- ITS FALSE NEIGHBOUR: 'it returns false'. Refute it at one input. -/
def fnExactFlowForWrong : ChangeSpec := { name := "fnExactFlowFor", fn := fun _ => fun
  | [d1, d2] => { results := [.lit (.bool false)], args := [d1, d2] }
  | _ => none }
def FnExactFlowForWrongFalsely : Prop := fnExactFlowForRow.holds Try.pinned (OpenSpec.ofChange fnExactFlowForWrong)

/-- 'laws.FnDrops': WHATEVER THE INPUT: true; the input reads as it did. -/
def fnDropsSpec : ChangeSpec := { name := "fnDrops", fn := fun _ => fun
  | [d] => { results := [.lit (.bool true)], args := [d] }
  | _ => none }
def fnDropsRow : OpenClaim := { program := "ytmkljkeokcokgaa", sum := "78092bc0ed066c5910331362a21b7a9c1ff27a63e1363678d98a7951a4a3692e", func := "loop.example/g01021/laws.FnDrops", spec := "fnDrops", unfollowed := true, recurses := true, apart := false }
def FnDropsSaid : Prop := fnDropsRow.holds Try.pinned (OpenSpec.ofChange fnDropsSpec)

/-- ITS FALSE NEIGHBOUR: 'it returns false'. Refute it at one input. -/
def fnDropsWrong : ChangeSpec := { name := "fnDrops", fn := fun _ => fun
  | [d] => { results := [.lit (.bool false)], args := [d] }
  | _ => none }
def FnDropsWrongFalsely : Prop := fnDropsRow.holds Try.pinned (OpenSpec.ofChange fnDropsWrong)

/-- 'laws.FnExactValidSurvey': WHATEVER THE INPUT: true; the input reads as it did. -/
def fnExactValidSurveySpec : ChangeSpec := { name := "fnExactValidSurvey", fn := fun _ => fun
  | [d] => { results := [.lit (.bool true)], args := [d] }
  | _ => none }
def fnExactValidSurveyRow : OpenClaim := { program := "ytmkljkeokcokgaa", sum := "78092bc0ed066c5910331362a21b7a9c1ff27a63e1363678d98a7951a4a3692e", func := "loop.example/g01021/laws.FnExactValidSurvey", spec := "fnExactValidSurvey", apart := false }
def FnExactValidSurveySaid : Prop := fnExactValidSurveyRow.holds Try.pinned (OpenSpec.ofChange fnExactValidSurveySpec)

/-- ITS FALSE NEIGHBOUR: 'it returns false'. Refute it at one input. -/
def fnExactValidSurveyWrong : ChangeSpec := { name := "fnExactValidSurvey", fn := fun _ => fun
  | [d] => { results := [.lit (.bool false)], args := [d] }
  | _ => none }
def FnExactValidSurveyWrongFalsely : Prop := fnExactValidSurveyRow.holds Try.pinned (OpenSpec.ofChange fnExactValidSurveyWrong)

/-- 'laws.FnExactBoundsOf': WHATEVER THE INPUT: true; the input reads as it did. -/
def fnExactBoundsOfSpec : ChangeSpec := { name := "fnExactBoundsOf", fn := fun _ => fun
  | [d] => { results := [.lit (.bool true)], args := [d] }
  | _ => none }
def fnExactBoundsOfRow : OpenClaim := { program := "ytmkljkeokcokgaa", sum := "78092bc0ed066c5910331362a21b7a9c1ff27a63e1363678d98a7951a4a3692e", func := "loop.example/g01021/laws.FnExactBoundsOf", spec := "fnExactBoundsOf", apart := false }
def FnExactBoundsOfSaid : Prop := fnExactBoundsOfRow.holds Try.pinned (OpenSpec.ofChange fnExactBoundsOfSpec)

/-- ITS FALSE NEIGHBOUR: 'it returns false'. Refute it at one input. -/
def fnExactBoundsOfWrong : ChangeSpec := { name := "fnExactBoundsOf", fn := fun _ => fun
  | [d] => { results := [.lit (.bool false)], args := [d] }
  | _ => none }
def FnExactBoundsOfWrongFalsely : Prop := fnExactBoundsOfRow.holds Try.pinned (OpenSpec.ofChange fnExactBoundsOfWrong)

/-- 'laws.FnExactFitsSurvey': WHATEVER THE INPUT: true; the input reads as it did. -/
def fnExactFitsSurveySpec : ChangeSpec := { name := "fnExactFitsSurvey", fn := fun _ => fun
  | [d1, d2] => { results := [.lit (.bool true)], args := [d1, d2] }
  | _ => none }
def fnExactFitsSurveyRow : OpenClaim := { program := "ytmkljkeokcokgaa", sum := "78092bc0ed066c5910331362a21b7a9c1ff27a63e1363678d98a7951a4a3692e", func := "loop.example/g01021/laws.FnExactFitsSurvey", spec := "fnExactFitsSurvey", apart := false }
def FnExactFitsSurveySaid : Prop := fnExactFitsSurveyRow.holds Try.pinned (OpenSpec.ofChange fnExactFitsSurveySpec)

/-- ITS FALSE NEIGHBOUR: 'it returns false'. Refute it at one input. -/
def fnExactFitsSurveyWrong : ChangeSpec := { name := "fnExactFitsSurvey", fn := fun _ => fun
  | [d1, d2] => { results := [.lit (.bool false)], args := [d1, d2] }
  | _ => none }
def FnExactFitsSurveyWrongFalsely : Prop := fnExactFitsSurveyRow.holds Try.pinned (OpenSpec.ofChange fnExactFitsSurveyWrong)

/-- 'laws.FnExactMiddleOf': WHATEVER THE INPUT: true; the input reads as it did. -/
def fnExactMiddleOfSpec : ChangeSpec := { name := "fnExactMiddleOf", fn := fun _ => fun
  | [d] => { results := [.lit (.bool true)], args := [d] }
  | _ => none }
def fnExactMiddleOfRow : OpenClaim := { program := "ytmkljkeokcokgaa", sum := "78092bc0ed066c5910331362a21b7a9c1ff27a63e1363678d98a7951a4a3692e", func := "loop.example/g01021/laws.FnExactMiddleOf", spec := "fnExactMiddleOf", apart := false }
def FnExactMiddleOfSaid : Prop := fnExactMiddleOfRow.holds Try.pinned (OpenSpec.ofChange fnExactMiddleOfSpec)

/-- ITS FALSE NEIGHBOUR: 'it returns false'. Refute it at one input. -/
def fnExactMiddleOfWrong : ChangeSpec := { name := "fnExactMiddleOf", fn := fun _ => fun
  | [d] => { results := [.lit (.bool false)], args := [d] }
  | _ => none }
def FnExactMiddleOfWrongFalsely : Prop := fnExactMiddleOfRow.holds Try.pinned (OpenSpec.ofChange fnExactMiddleOfWrong)

/-- 'laws.FnExactPressureAtDepth': WHATEVER THE INPUT: true; the input reads as it did. -/
def fnExactPressureAtDepthSpec : ChangeSpec := { name := "fnExactPressureAtDepth", fn := fun _ => fun
  | [d1, d2, d3] => { results := [.lit (.bool true)], args := [d1, d2, d3] }
  | _ => none }
def fnExactPressureAtDepthRow : OpenClaim := { program := "ytmkljkeokcokgaa", sum := "78092bc0ed066c5910331362a21b7a9c1ff27a63e1363678d98a7951a4a3692e", func := "loop.example/g01021/laws.FnExactPressureAtDepth", spec := "fnExactPressureAtDepth", apart := false }
def FnExactPressureAtDepthSaid : Prop := fnExactPressureAtDepthRow.holds Try.pinned (OpenSpec.ofChange fnExactPressureAtDepthSpec)

/-- ITS FALSE NEIGHBOUR: 'it returns false'. Refute it at one input. -/
def fnExactPressureAtDepthWrong : ChangeSpec := { name := "fnExactPressureAtDepth", fn := fun _ => fun
  | [d1, d2, d3] => { results := [.lit (.bool false)], args := [d1, d2, d3] }
  | _ => none }
def FnExactPressureAtDepthWrongFalsely : Prop := fnExactPressureAtDepthRow.holds Try.pinned (OpenSpec.ofChange fnExactPressureAtDepthWrong)

/-- 'laws.FnExactSaturationOf': WHATEVER THE INPUT: true; the input reads as it did. -/
def fnExactSaturationOfSpec : ChangeSpec := { name := "fnExactSaturationOf", fn := fun _ => fun
  | [d] => { results := [.lit (.bool true)], args := [d] }
  | _ => none }
def fnExactSaturationOfRow : OpenClaim := { program := "ytmkljkeokcokgaa", sum := "78092bc0ed066c5910331362a21b7a9c1ff27a63e1363678d98a7951a4a3692e", func := "loop.example/g01021/laws.FnExactSaturationOf", spec := "fnExactSaturationOf", apart := false }
def FnExactSaturationOfSaid : Prop := fnExactSaturationOfRow.holds Try.pinned (OpenSpec.ofChange fnExactSaturationOfSpec)

/-- ITS FALSE NEIGHBOUR: 'it returns false'. Refute it at one input. -/
def fnExactSaturationOfWrong : ChangeSpec := { name := "fnExactSaturationOf", fn := fun _ => fun
  | [d] => { results := [.lit (.bool false)], args := [d] }
  | _ => none }
def FnExactSaturationOfWrongFalsely : Prop := fnExactSaturationOfRow.holds Try.pinned (OpenSpec.ofChange fnExactSaturationOfWrong)

/-- 'laws.FnExactVapourOf': WHATEVER THE INPUT: true; the input reads as it did. -/
def fnExactVapourOfSpec : ChangeSpec := { name := "fnExactVapourOf", fn := fun _ => fun
  | [d1, d2] => { results := [.lit (.bool true)], args := [d1, d2] }
  | _ => none }
def fnExactVapourOfRow : OpenClaim := { program := "ytmkljkeokcokgaa", sum := "78092bc0ed066c5910331362a21b7a9c1ff27a63e1363678d98a7951a4a3692e", func := "loop.example/g01021/laws.FnExactVapourOf", spec := "fnExactVapourOf", apart := false }
def FnExactVapourOfSaid : Prop := fnExactVapourOfRow.holds Try.pinned (OpenSpec.ofChange fnExactVapourOfSpec)

/-- ITS FALSE NEIGHBOUR: 'it returns false'. Refute it at one input. -/
def fnExactVapourOfWrong : ChangeSpec := { name := "fnExactVapourOf", fn := fun _ => fun
  | [d1, d2] => { results := [.lit (.bool false)], args := [d1, d2] }
  | _ => none }
def FnExactVapourOfWrongFalsely : Prop := fnExactVapourOfRow.holds Try.pinned (OpenSpec.ofChange fnExactVapourOfWrong)

/-- 'laws.FnExactHumidityFor': WHATEVER THE INPUT: true; the input reads as it did. -/
def fnExactHumidityForSpec : ChangeSpec := { name := "fnExactHumidityFor", fn := fun _ => fun
  | [d1, d2, d3] => { results := [.lit (.bool true)], args := [d1, d2, d3] }
  | _ => none }
def fnExactHumidityForRow : OpenClaim := { program := "ytmkljkeokcokgaa", sum := "78092bc0ed066c5910331362a21b7a9c1ff27a63e1363678d98a7951a4a3692e", func := "loop.example/g01021/laws.FnExactHumidityFor", spec := "fnExactHumidityFor", apart := false }
def FnExactHumidityForSaid : Prop := fnExactHumidityForRow.holds Try.pinned (OpenSpec.ofChange fnExactHumidityForSpec)

/-- ITS FALSE NEIGHBOUR: 'it returns false'. Refute it at one input. -/
def fnExactHumidityForWrong : ChangeSpec := { name := "fnExactHumidityFor", fn := fun _ => fun
  | [d1, d2, d3] => { results := [.lit (.bool false)], args := [d1, d2, d3] }
  | _ => none }
def FnExactHumidityForWrongFalsely : Prop := fnExactHumidityForRow.holds Try.pinned (OpenSpec.ofChange fnExactHumidityForWrong)

/- THE SECOND FORM. 'bulk': how many values and letters a reading holds, each counted each time it is reached (what is shared counts as often as it is met; a slice's spare places count too). A statement '..UptoSaid' is the law's where the arguments, and the package variables that the reading takes, are together of bulk at most 1048576: NARROWER than '..Said'. Prove '..Said' where nothing that the law and all that it calls make is longer than what came in: it says more and counts as full. Else prove '..UptoSaid'. A law counts once. -/
mutual
def uptoBulk {H : Type} : DataW H → Nat
  | .lit (.string bytes) => bytes.length + 1
  | .lit _ => 1
  | .nil => 1
  | .ptr d => uptoBulk d + 1
  | .slice elems spare => uptoBulkAll elems + uptoBulkAll spare + 1
  | .agg parts => uptoBulkAll parts + 1
  | .iface _ d => uptoBulk d + 1
  | .map entries => uptoBulkEntries entries + 1
  | .held _ => 1
def uptoBulkAll {H : Type} : List (DataW H) → Nat
  | [] => 0
  | d :: r => uptoBulk d + uptoBulkAll r
def uptoBulkEntries {H : Type} : List (Lit × DataW H) → Nat
  | [] => 0
  | x :: r => uptoBulkEntry x + uptoBulkEntries r
def uptoBulkEntry {H : Type} : Lit × DataW H → Nat
  | (.string bytes, d) => bytes.length + uptoBulk d + 1
  | (_, d) => uptoBulk d + 1
 end
def uptoSmall : (H : Type) → List (DataW H) → Bool := fun _ ds => decide (uptoBulkAll ds ≤ 1048576)
def OpenSpec.upto (s : _root_.Go.ChangeSpec) : _root_.Go.OpenSpec := { _root_.Go.OpenSpec.ofChange s with cond := some uptoSmall }

/-- 'laws.FnExactDropOf', WHERE WHAT IT READS IS OF BULK AT MOST 1048576: true; the input reads as it did. -/
def fnExactDropOfUptoRow : OpenClaim := { program := "ytmkljkeokcokgaa", sum := "78092bc0ed066c5910331362a21b7a9c1ff27a63e1363678d98a7951a4a3692e", func := "loop.example/g01021/laws.FnExactDropOf", spec := "fnExactDropOf", apart := false, narrowed := true }
def FnExactDropOfUptoSaid : Prop := fnExactDropOfUptoRow.holds Try.pinned (OpenSpec.upto fnExactDropOfSpec)

/-- 'laws.FnExactAirPower', WHERE WHAT IT READS IS OF BULK AT MOST 1048576: true; the input reads as it did. -/
def fnExactAirPowerUptoRow : OpenClaim := { program := "ytmkljkeokcokgaa", sum := "78092bc0ed066c5910331362a21b7a9c1ff27a63e1363678d98a7951a4a3692e", func := "loop.example/g01021/laws.FnExactAirPower", spec := "fnExactAirPower", apart := false, narrowed := true }
def FnExactAirPowerUptoSaid : Prop := fnExactAirPowerUptoRow.holds Try.pinned (OpenSpec.upto fnExactAirPowerSpec)

/-- 'laws.FnExactFlowFor', WHERE WHAT IT READS IS OF BULK AT MOST 1048576: true; the input reads as it did. -/
def fnExactFlowForUptoRow : OpenClaim := { program := "ytmkljkeokcokgaa", sum := "78092bc0ed066c5910331362a21b7a9c1ff27a63e1363678d98a7951a4a3692e", func := "loop.example/g01021/laws.FnExactFlowFor", spec := "fnExactFlowFor", unfollowed := true, recurses := true, apart := false, narrowed := true }
def FnExactFlowForUptoSaid : Prop := fnExactFlowForUptoRow.holds Try.pinned (OpenSpec.upto fnExactFlowForSpec)

/-- 'laws.FnDrops', WHERE WHAT IT READS IS OF BULK AT MOST 1048576: true; the input reads as it did. -/
def fnDropsUptoRow : OpenClaim := { program := "ytmkljkeokcokgaa", sum := "78092bc0ed066c5910331362a21b7a9c1ff27a63e1363678d98a7951a4a3692e", func := "loop.example/g01021/laws.FnDrops", spec := "fnDrops", unfollowed := true, recurses := true, apart := false, narrowed := true }
def FnDropsUptoSaid : Prop := fnDropsUptoRow.holds Try.pinned (OpenSpec.upto fnDropsSpec)

/-- 'laws.FnExactValidSurvey', WHERE WHAT IT READS IS OF BULK AT MOST 1048576: true; the input reads as it did. -/
def fnExactValidSurveyUptoRow : OpenClaim := { program := "ytmkljkeokcokgaa", sum := "78092bc0ed066c5910331362a21b7a9c1ff27a63e1363678d98a7951a4a3692e", func := "loop.example/g01021/laws.FnExactValidSurvey", spec := "fnExactValidSurvey", apart := false, narrowed := true }
def FnExactValidSurveyUptoSaid : Prop := fnExactValidSurveyUptoRow.holds Try.pinned (OpenSpec.upto fnExactValidSurveySpec)

/-- 'laws.FnExactBoundsOf', WHERE WHAT IT READS IS OF BULK AT MOST 1048576: true; the input reads as it did. -/
def fnExactBoundsOfUptoRow : OpenClaim := { program := "ytmkljkeokcokgaa", sum := "78092bc0ed066c5910331362a21b7a9c1ff27a63e1363678d98a7951a4a3692e", func := "loop.example/g01021/laws.FnExactBoundsOf", spec := "fnExactBoundsOf", apart := false, narrowed := true }
def FnExactBoundsOfUptoSaid : Prop := fnExactBoundsOfUptoRow.holds Try.pinned (OpenSpec.upto fnExactBoundsOfSpec)

/-- 'laws.FnExactFitsSurvey', WHERE WHAT IT READS IS OF BULK AT MOST 1048576: true; the input reads as it did. -/
def fnExactFitsSurveyUptoRow : OpenClaim := { program := "ytmkljkeokcokgaa", sum := "78092bc0ed066c5910331362a21b7a9c1ff27a63e1363678d98a7951a4a3692e", func := "loop.example/g01021/laws.FnExactFitsSurvey", spec := "fnExactFitsSurvey", apart := false, narrowed := true }
def FnExactFitsSurveyUptoSaid : Prop := fnExactFitsSurveyUptoRow.holds Try.pinned (OpenSpec.upto fnExactFitsSurveySpec)

/-- 'laws.FnExactMiddleOf', WHERE WHAT IT READS IS OF BULK AT MOST 1048576: true; the input reads as it did. -/
def fnExactMiddleOfUptoRow : OpenClaim := { program := "ytmkljkeokcokgaa", sum := "78092bc0ed066c5910331362a21b7a9c1ff27a63e1363678d98a7951a4a3692e", func := "loop.example/g01021/laws.FnExactMiddleOf", spec := "fnExactMiddleOf", apart := false, narrowed := true }
def FnExactMiddleOfUptoSaid : Prop := fnExactMiddleOfUptoRow.holds Try.pinned (OpenSpec.upto fnExactMiddleOfSpec)

/-- 'laws.FnExactPressureAtDepth', WHERE WHAT IT READS IS OF BULK AT MOST 1048576: true; the input reads as it did. -/
def fnExactPressureAtDepthUptoRow : OpenClaim := { program := "ytmkljkeokcokgaa", sum := "78092bc0ed066c5910331362a21b7a9c1ff27a63e1363678d98a7951a4a3692e", func := "loop.example/g01021/laws.FnExactPressureAtDepth", spec := "fnExactPressureAtDepth", apart := false, narrowed := true }
def FnExactPressureAtDepthUptoSaid : Prop := fnExactPressureAtDepthUptoRow.holds Try.pinned (OpenSpec.upto fnExactPressureAtDepthSpec)

/-- 'laws.FnExactSaturationOf', WHERE WHAT IT READS IS OF BULK AT MOST 1048576: true; the input reads as it did. -/
def fnExactSaturationOfUptoRow : OpenClaim := { program := "ytmkljkeokcokgaa", sum := "78092bc0ed066c5910331362a21b7a9c1ff27a63e1363678d98a7951a4a3692e", func := "loop.example/g01021/laws.FnExactSaturationOf", spec := "fnExactSaturationOf", apart := false, narrowed := true }
def FnExactSaturationOfUptoSaid : Prop := fnExactSaturationOfUptoRow.holds Try.pinned (OpenSpec.upto fnExactSaturationOfSpec)

/-- 'laws.FnExactVapourOf', WHERE WHAT IT READS IS OF BULK AT MOST 1048576: true; the input reads as it did. -/
def fnExactVapourOfUptoRow : OpenClaim := { program := "ytmkljkeokcokgaa", sum := "78092bc0ed066c5910331362a21b7a9c1ff27a63e1363678d98a7951a4a3692e", func := "loop.example/g01021/laws.FnExactVapourOf", spec := "fnExactVapourOf", apart := false, narrowed := true }
def FnExactVapourOfUptoSaid : Prop := fnExactVapourOfUptoRow.holds Try.pinned (OpenSpec.upto fnExactVapourOfSpec)

/-- 'laws.FnExactHumidityFor', WHERE WHAT IT READS IS OF BULK AT MOST 1048576: true; the input reads as it did. -/
def fnExactHumidityForUptoRow : OpenClaim := { program := "ytmkljkeokcokgaa", sum := "78092bc0ed066c5910331362a21b7a9c1ff27a63e1363678d98a7951a4a3692e", func := "loop.example/g01021/laws.FnExactHumidityFor", spec := "fnExactHumidityFor", apart := false, narrowed := true }
def FnExactHumidityForUptoSaid : Prop := fnExactHumidityForUptoRow.holds Try.pinned (OpenSpec.upto fnExactHumidityForSpec)

end Rows
end Go.Proofs.Ytmkljkeokcokgaa
