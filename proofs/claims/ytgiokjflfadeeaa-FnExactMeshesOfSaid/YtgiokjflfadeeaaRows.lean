/-
  No cell of these rows narrows 'for every input' (looked for: loops, veiled, ifaces, maps, wideKeys, modest, calm, conditions, laid).
  DERIVED. THE GIVEN ROWS OF THIS SEAT. 4 by the template 'for every input the law returns true; each argument reads behind the call as it read before'; 0 by the template 'total and deterministic' (their statements: YtgiokjflfadeeaaTotals.lean).
  GIVEN WITH THE SEED: the statements are not yours to turn. If you find one false, say at which input.
  Laid BY PROGRAM, IN A SANDBOX (cutbox-rows.mjs): the forced cells as the released guide's own fill.sh prints them over the translation 6c8921a924c67c09… (all of the seat's roots in one cut). By AI agents, Wed Nov 11 2026. No macro, syntax, notation, axiom, sorry.
-/
import Derived.Test.YtgiokjflfadeeaaChecked
import GoSem.Claim
import GoSem.ClaimJoined
import GoSem.ClaimMapViews
import Derived.JoinedTies
import Derived.KernelRfl
namespace Go.Proofs.Ytgiokjflfadeeaa
/- THE CELL 'sum', in the pinned program and in every row, IS THE sha256 OF THE DUMP (.gsa) THAT YtgiokjflfadeeaaProg.lean LOADS. Nothing in Lean hashes anything: it is a label: what it is worth is what the hold of that sum in a sandbox is worth. -/
noncomputable def Try.pinned : Pinned := { name := "ytgiokjflfadeeaa", sum := "6c8921a924c67c09a354be9b1c653a78af43ca18c6ae0834cc6ccb7aae72f1bb", checked := Try.checked }
namespace Rows
def none {H : Type} : Left H := { results := [], args := [] }

/-- 'laws.FnExactDropAirway': WHATEVER THE INPUT: true; the input reads as it did. -/
def fnExactDropAirwaySpec : ChangeSpec := { name := "fnExactDropAirway", fn := fun _ => fun
  | [d1, d2] => { results := [.lit (.bool true)], args := [d1, d2] }
  | _ => none }
def fnExactDropAirwayRow : OpenClaim := { program := "ytgiokjflfadeeaa", sum := "6c8921a924c67c09a354be9b1c653a78af43ca18c6ae0834cc6ccb7aae72f1bb", func := "loop.example/g01021/laws.FnExactDropAirway", spec := "fnExactDropAirway", unfollowed := true, recurses := true, apart := false }
def FnExactDropAirwaySaid : Prop := fnExactDropAirwayRow.holds Try.pinned (OpenSpec.ofChange fnExactDropAirwaySpec)

/-- ITS FALSE NEIGHBOUR: 'it returns false'. Refute it at one input. -/
def fnExactDropAirwayWrong : ChangeSpec := { name := "fnExactDropAirway", fn := fun _ => fun
  | [d1, d2] => { results := [.lit (.bool false)], args := [d1, d2] }
  | _ => none }
def FnExactDropAirwayWrongFalsely : Prop := fnExactDropAirwayRow.holds Try.pinned (OpenSpec.ofChange fnExactDropAirwayWrong)

/-- 'laws.FnExactPathOf': WHATEVER THE INPUT: true; the input reads as it did. -/
def fnExactPathOfSpec : ChangeSpec := { name := "fnExactPathOf", fn := fun _ => fun
  | [d1, d2, d3] => { results := [.lit (.bool true)], args := [d1, d2, d3] }
  | _ => none }
def fnExactPathOfRow : OpenClaim := { program := "ytgiokjflfadeeaa", sum := "6c8921a924c67c09a354be9b1c653a78af43ca18c6ae0834cc6ccb7aae72f1bb", func := "loop.example/g01021/laws.FnExactPathOf", spec := "fnExactPathOf", apart := false }
def FnExactPathOfSaid : Prop := fnExactPathOfRow.holds Try.pinned (OpenSpec.ofChange fnExactPathOfSpec)

/-- ITS FALSE NEIGHBOUR: 'it returns false'. Refute it at one input. -/
def fnExactPathOfWrong : ChangeSpec := { name := "fnExactPathOf", fn := fun _ => fun
  | [d1, d2, d3] => { results := [.lit (.bool false)], args := [d1, d2, d3] }
  | _ => none }
def FnExactPathOfWrongFalsely : Prop := fnExactPathOfRow.holds Try.pinned (OpenSpec.ofChange fnExactPathOfWrong)

/-- 'laws.FnExactMeshesOf': WHATEVER THE INPUT: true; the input reads as it did. -/
def fnExactMeshesOfSpec : ChangeSpec := { name := "fnExactMeshesOf", fn := fun _ => fun
  | [d] => { results := [.lit (.bool true)], args := [d] }
  | _ => none }
def fnExactMeshesOfRow : OpenClaim := { program := "ytgiokjflfadeeaa", sum := "6c8921a924c67c09a354be9b1c653a78af43ca18c6ae0834cc6ccb7aae72f1bb", func := "loop.example/g01021/laws.FnExactMeshesOf", spec := "fnExactMeshesOf", apart := false }
def FnExactMeshesOfSaid : Prop := fnExactMeshesOfRow.holds Try.pinned (OpenSpec.ofChange fnExactMeshesOfSpec)

/-- ITS FALSE NEIGHBOUR: 'it returns false'. Refute it at one input. -/
def fnExactMeshesOfWrong : ChangeSpec := { name := "fnExactMeshesOf", fn := fun _ => fun
  | [d] => { results := [.lit (.bool false)], args := [d] }
  | _ => none }
def FnExactMeshesOfWrongFalsely : Prop := fnExactMeshesOfRow.holds Try.pinned (OpenSpec.ofChange fnExactMeshesOfWrong)

/-- 'laws.FnExactAddAirway': WHATEVER THE INPUT: true; the input reads as it did. -/
def fnExactAddAirwaySpec : ChangeSpec := { name := "fnExactAddAirway", fn := fun _ => fun
  | [d1, d2] => { results := [.lit (.bool true)], args := [d1, d2] }
  | _ => none }
def fnExactAddAirwayRow : OpenClaim := { program := "ytgiokjflfadeeaa", sum := "6c8921a924c67c09a354be9b1c653a78af43ca18c6ae0834cc6ccb7aae72f1bb", func := "loop.example/g01021/laws.FnExactAddAirway", spec := "fnExactAddAirway", inPlace := ["slices.overlaps[loop.example/g01021/impl.Airway]"], unfollowed := true, recurses := true, apart := false }
def FnExactAddAirwaySaid : Prop := fnExactAddAirwayRow.holds Try.pinned (OpenSpec.ofChange fnExactAddAirwaySpec)

/-- ITS FALSE NEIGHBOUR: 'it returns false'. Refute it at one input. -/
def fnExactAddAirwayWrong : ChangeSpec := { name := "fnExactAddAirway", fn := fun _ => fun
  | [d1, d2] => { results := [.lit (.bool false)], args := [d1, d2] }
  | _ => none }
def FnExactAddAirwayWrongFalsely : Prop := fnExactAddAirwayRow.holds Try.pinned (OpenSpec.ofChange fnExactAddAirwayWrong)

/- THE SECOND FORM. 'bulk': how many values and letters a reading holds, each counted each time it is reached (what is shared counts as often as it is met; a slice's spare places count too). A statement '..UptoSaid' is the law's where the arguments, and the package variables that the reading takes, are together of bulk at most 1048576: NARROWER than '..Said'. Prove '..Said' where nothing that the law and all that it calls make is longer than what came in: it says more and counts as full. Else prove '..UptoSaid'. A law counts once. -/
mutual
def uptoBulk {H : Type} : DataW H → Nat
  | .lit (.string bytes) => bytes.length + 1
  | .lit _ => 1
  | .nil => 1
  | .ptr d => uptoBulk d + 1
  | .slice elems spare => uptoBulkAll elems + uptoBulkAll spare + 1
  | .agg parts => uptoBulkAll parts + 1
  | .iface _ d => uptoBulk d + 1
  | .map entries => uptoBulkEntries entries + 1
  | .held _ => 1
def uptoBulkAll {H : Type} : List (DataW H) → Nat
  | [] => 0
  | d :: r => uptoBulk d + uptoBulkAll r
def uptoBulkEntries {H : Type} : List (Lit × DataW H) → Nat
  | [] => 0
  | x :: r => uptoBulkEntry x + uptoBulkEntries r
def uptoBulkEntry {H : Type} : Lit × DataW H → Nat
  | (.string bytes, d) => bytes.length + uptoBulk d + 1
  | (_, d) => uptoBulk d + 1
 end
def uptoSmall : (H : Type) → List (DataW H) → Bool := fun _ ds => decide (uptoBulkAll ds ≤ 1048576)
def OpenSpec.upto (s : _root_.Go.ChangeSpec) : _root_.Go.OpenSpec := { _root_.Go.OpenSpec.ofChange s with cond := some uptoSmall }

/-- 'laws.FnExactDropAirway', WHERE WHAT IT READS IS OF BULK AT MOST 1048576: true; the input reads as it did. -/
def fnExactDropAirwayUptoRow : OpenClaim := { program := "ytgiokjflfadeeaa", sum := "6c8921a924c67c09a354be9b1c653a78af43ca18c6ae0834cc6ccb7aae72f1bb", func := "loop.example/g01021/laws.FnExactDropAirway", spec := "fnExactDropAirway", unfollowed := true, recurses := true, apart := false, narrowed := true }
def FnExactDropAirwayUptoSaid : Prop := fnExactDropAirwayUptoRow.holds Try.pinned (OpenSpec.upto fnExactDropAirwaySpec)

/-- 'laws.FnExactPathOf', WHERE WHAT IT READS IS OF BULK AT MOST 1048576: true; the input reads as it did. -/
def fnExactPathOfUptoRow : OpenClaim := { program := "ytgiokjflfadeeaa", sum := "6c8921a924c67c09a354be9b1c653a78af43ca18c6ae0834cc6ccb7aae72f1bb", func := "loop.example/g01021/laws.FnExactPathOf", spec := "fnExactPathOf", apart := false, narrowed := true }
def FnExactPathOfUptoSaid : Prop := fnExactPathOfUptoRow.holds Try.pinned (OpenSpec.upto fnExactPathOfSpec)

/-- 'laws.FnExactMeshesOf', WHERE WHAT IT READS IS OF BULK AT MOST 1048576: true; the input reads as it did. -/
def fnExactMeshesOfUptoRow : OpenClaim := { program := "ytgiokjflfadeeaa", sum := "6c8921a924c67c09a354be9b1c653a78af43ca18c6ae0834cc6ccb7aae72f1bb", func := "loop.example/g01021/laws.FnExactMeshesOf", spec := "fnExactMeshesOf", apart := false, narrowed := true }
def FnExactMeshesOfUptoSaid : Prop := fnExactMeshesOfUptoRow.holds Try.pinned (OpenSpec.upto fnExactMeshesOfSpec)

/-- 'laws.FnExactAddAirway', WHERE WHAT IT READS IS OF BULK AT MOST 1048576: true; the input reads as it did. -/
def fnExactAddAirwayUptoRow : OpenClaim := { program := "ytgiokjflfadeeaa", sum := "6c8921a924c67c09a354be9b1c653a78af43ca18c6ae0834cc6ccb7aae72f1bb", func := "loop.example/g01021/laws.FnExactAddAirway", spec := "fnExactAddAirway", inPlace := ["slices.overlaps[loop.example/g01021/impl.Airway]"], unfollowed := true, recurses := true, apart := false, narrowed := true }
def FnExactAddAirwayUptoSaid : Prop := fnExactAddAirwayUptoRow.holds Try.pinned (OpenSpec.upto fnExactAddAirwaySpec)

end Rows
end Go.Proofs.Ytgiokjflfadeeaa
