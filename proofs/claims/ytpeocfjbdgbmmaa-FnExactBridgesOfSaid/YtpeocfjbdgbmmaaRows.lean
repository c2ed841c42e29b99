/-
  No cell of these rows narrows 'for every input' (looked for: loops, veiled, ifaces, maps, wideKeys, modest, calm, conditions, laid).
  DERIVED. THE GIVEN ROWS OF THIS SEAT. 11 by the template 'for every input the law returns true; each argument reads behind the call as it read before'; 0 by the template 'total and deterministic' (their statements: YtpeocfjbdgbmmaaTotals.lean).
  GIVEN WITH THE SEED: the statements are not yours to turn. If you find one false, say at which input.
  Laid BY PROGRAM, IN A SANDBOX (cutbox-rows.mjs): the forced cells as the released guide's own fill.sh prints them over the translation 800d09434b7adaab… (all of the seat's roots in one cut). By AI agents, Wed Nov 11 2026. No macro, syntax, notation, axiom, sorry.
-/
import Derived.Test.YtpeocfjbdgbmmaaChecked
import GoSem.Claim
import GoSem.ClaimJoined
import GoSem.ClaimMapViews
import Derived.JoinedTies
import Derived.KernelRfl
namespace Go.Proofs.Ytpeocfjbdgbmmaa
/- THE CELL 'sum', in the pinned program and in every row, IS THE sha256 OF THE DUMP (.gsa) THAT YtpeocfjbdgbmmaaProg.lean LOADS. Nothing in Lean hashes anything: it is a label: what it is worth is what the hold of that sum in a sandbox is worth. -/
noncomputable def Try.pinned : Pinned := { name := "ytpeocfjbdgbmmaa", sum := "800d09434b7adaabeccd9e77c50c9b49dc4271f43e441f3027227b6b70f70649", checked := Try.checked }
namespace Rows
def none {H : Type} : Left H := { results := [], args := [] }

/-- 'laws.FnExactSameMine': WHATEVER THE INPUT: true; the input reads as it did. -/
def fnExactSameMineSpec : ChangeSpec := { name := "fnExactSameMine", fn := fun _ => fun
  | [d1, d2] => { results := [.lit (.bool true)], args := [d1, d2] }
  | _ => none }
def fnExactSameMineRow : OpenClaim := { program := "ytpeocfjbdgbmmaa", sum := "800d09434b7adaabeccd9e77c50c9b49dc4271f43e441f3027227b6b70f70649", func := "loop.example/g01021/laws.FnExactSameMine", spec := "fnExactSameMine", apart := false }
def FnExactSameMineSaid : Prop := fnExactSameMineRow.holds Try.pinned (OpenSpec.ofChange fnExactSameMineSpec)

/-- ITS FALSE NEIGHBOUR: 'it returns false'. Refute it at one input. -/
def fnExactSameMineWrong : ChangeSpec := { name := "fnExactSameMine", fn := fun _ => fun
  | [d1, d2] => { results := [.lit (.bool false)], args := [d1, d2] }
  | _ => none }
def FnExactSameMineWrongFalsely : Prop := fnExactSameMineRow.holds Try.pinned (OpenSpec.ofChange fnExactSameMineWrong)

/-- 'laws.FnExactValidMine': WHATEVER THE INPUT: true; the input reads as it did. -/
def fnExactValidMineSpec : ChangeSpec := { name := "fnExactValidMine", fn := fun _ => fun
  | [d] => { results := [.lit (.bool true)], args := [d] }
  | _ => none }
def fnExactValidMineRow : OpenClaim := { program := "ytpeocfjbdgbmmaa", sum := "800d09434b7adaabeccd9e77c50c9b49dc4271f43e441f3027227b6b70f70649", func := "loop.example/g01021/laws.FnExactValidMine", spec := "fnExactValidMine", apart := false }
def FnExactValidMineSaid : Prop := fnExactValidMineRow.holds Try.pinned (OpenSpec.ofChange fnExactValidMineSpec)

/-- ITS FALSE NEIGHBOUR: 'it returns false'. Refute it at one input. -/
def fnExactValidMineWrong : ChangeSpec := { name := "fnExactValidMine", fn := fun _ => fun
  | [d] => { results := [.lit (.bool false)], args := [d] }
  | _ => none }
def FnExactValidMineWrongFalsely : Prop := fnExactValidMineRow.holds Try.pinned (OpenSpec.ofChange fnExactValidMineWrong)

/-- 'laws.FnExactAirwayNamed': WHATEVER THE INPUT: true; the input reads as it did. -/
def fnExactAirwayNamedSpec : ChangeSpec := { name := "fnExactAirwayNamed", fn := fun _ => fun
  | [d1, d2] => { results := [.lit (.bool true)], args := [d1, d2] }
  | _ => none }
def fnExactAirwayNamedRow : OpenClaim := { program := "ytpeocfjbdgbmmaa", sum := "800d09434b7adaabeccd9e77c50c9b49dc4271f43e441f3027227b6b70f70649", func := "loop.example/g01021/laws.FnExactAirwayNamed", spec := "fnExactAirwayNamed", unfollowed := true, recurses := true, apart := false }
def FnExactAirwayNamedSaid : Prop := fnExactAirwayNamedRow.holds Try.pinned (OpenSpec.ofChange fnExactAirwayNamedSpec)

/-- ITS FALSE NEIGHBOUR: 'it returns false'. Refute it at one input. -/
def fnExactAirwayNamedWrong : ChangeSpec := { name := "fnExactAirwayNamed", fn := fun _ => fun
  | [d1, d2] => { results := [.lit (.bool false)], args := [d1, d2] }
  | _ => none }
def FnExactAirwayNamedWrongFalsely : Prop := fnExactAirwayNamedRow.holds Try.pinned (OpenSpec.ofChange fnExactAirwayNamedWrong)

/-- 'laws.FnExactAirwaysAt': WHATEVER THE INPUT: true; the input reads as it did. -/
def fnExactAirwaysAtSpec : ChangeSpec := { name := "fnExactAirwaysAt", fn := fun _ => fun
  | [d1, d2] => { results := [.lit (.bool true)], args := [d1, d2] }
  | _ => none }
def fnExactAirwaysAtRow : OpenClaim := { program := "ytpeocfjbdgbmmaa", sum := "800d09434b7adaabeccd9e77c50c9b49dc4271f43e441f3027227b6b70f70649", func := "loop.example/g01021/laws.FnExactAirwaysAt", spec := "fnExactAirwaysAt", apart := false }
def FnExactAirwaysAtSaid : Prop := fnExactAirwaysAtRow.holds Try.pinned (OpenSpec.ofChange fnExactAirwaysAtSpec)

/-- ITS FALSE NEIGHBOUR: 'it returns false'. Refute it at one input. -/
def fnExactAirwaysAtWrong : ChangeSpec := { name := "fnExactAirwaysAt", fn := fun _ => fun
  | [d1, d2] => { results := [.lit (.bool false)], args := [d1, d2] }
  | _ => none }
def FnExactAirwaysAtWrongFalsely : Prop := fnExactAirwaysAtRow.holds Try.pinned (OpenSpec.ofChange fnExactAirwaysAtWrong)

/-- 'laws.FnExactDropAirway': WHATEVER THE INPUT: true; the input reads as it did. -/
def fnExactDropAirwaySpec : ChangeSpec := { name := "fnExactDropAirway", fn := fun _ => fun
  | [d1, d2] => { results := [.lit (.bool true)], args := [d1, d2] }
  | _ => none }
def fnExactDropAirwayRow : OpenClaim := { program := "ytpeocfjbdgbmmaa", sum := "800d09434b7adaabeccd9e77c50c9b49dc4271f43e441f3027227b6b70f70649", func := "loop.example/g01021/laws.FnExactDropAirway", spec := "fnExactDropAirway", unfollowed := true, recurses := true, apart := false }
def FnExactDropAirwaySaid : Prop := fnExactDropAirwayRow.holds Try.pinned (OpenSpec.ofChange fnExactDropAirwaySpec)

/-- ITS FALSE NEIGHBOUR: 'it returns false'. Refute it at one input. -/
def fnExactDropAirwayWrong : ChangeSpec := { name := "fnExactDropAirway", fn := fun _ => fun
  | [d1, d2] => { results := [.lit (.bool false)], args := [d1, d2] }
  | _ => none }
def FnExactDropAirwayWrongFalsely : Prop := fnExactDropAirwayRow.holds Try.pinned (OpenSpec.ofChange fnExactDropAirwayWrong)

/-- 'laws.FnExactTreeOf': WHATEVER THE INPUT: true; the input reads as it did. -/
def fnExactTreeOfSpec : ChangeSpec := { name := "fnExactTreeOf", fn := fun _ => fun
  | [d] => { results := [.lit (.bool true)], args := [d] }
  | _ => none }
def fnExactTreeOfRow : OpenClaim := { program := "ytpeocfjbdgbmmaa", sum := "800d09434b7adaabeccd9e77c50c9b49dc4271f43e441f3027227b6b70f70649", func := "loop.example/g01021/laws.FnExactTreeOf", spec := "fnExactTreeOf", apart := false }
def FnExactTreeOfSaid : Prop := fnExactTreeOfRow.holds Try.pinned (OpenSpec.ofChange fnExactTreeOfSpec)

/-- ITS FALSE NEIGHBOUR: 'it returns false'. Refute it at one input. -/
def fnExactTreeOfWrong : ChangeSpec := { name := "fnExactTreeOf", fn := fun _ => fun
  | [d] => { results := [.lit (.bool false)], args := [d] }
  | _ => none }
def FnExactTreeOfWrongFalsely : Prop := fnExactTreeOfRow.holds Try.pinned (OpenSpec.ofChange fnExactTreeOfWrong)

/-- 'laws.FnExactPartsOf': WHATEVER THE INPUT: true; the input reads as it did. -/
def fnExactPartsOfSpec : ChangeSpec := { name := "fnExactPartsOf", fn := fun _ => fun
  | [d] => { results := [.lit (.bool true)], args := [d] }
  | _ => none }
def fnExactPartsOfRow : OpenClaim := { program := "ytpeocfjbdgbmmaa", sum := "800d09434b7adaabeccd9e77c50c9b49dc4271f43e441f3027227b6b70f70649", func := "loop.example/g01021/laws.FnExactPartsOf", spec := "fnExactPartsOf", apart := false }
def FnExactPartsOfSaid : Prop := fnExactPartsOfRow.holds Try.pinned (OpenSpec.ofChange fnExactPartsOfSpec)

/-- ITS FALSE NEIGHBOUR: 'it returns false'. Refute it at one input. -/
def fnExactPartsOfWrong : ChangeSpec := { name := "fnExactPartsOf", fn := fun _ => fun
  | [d] => { results := [.lit (.bool false)], args := [d] }
  | _ => none }
def FnExactPartsOfWrongFalsely : Prop := fnExactPartsOfRow.holds Try.pinned (OpenSpec.ofChange fnExactPartsOfWrong)

/-- 'laws.FnExactBridgesOf': WHATEVER THE INPUT: true; the input reads as it did. -/
def fnExactBridgesOfSpec : ChangeSpec := { name := "fnExactBridgesOf", fn := fun _ => fun
  | [d] => { results := [.lit (.bool true)], args := [d] }
  | _ => none }
def fnExactBridgesOfRow : OpenClaim := { program := "ytpeocfjbdgbmmaa", sum := "800d09434b7adaabeccd9e77c50c9b49dc4271f43e441f3027227b6b70f70649", func := "loop.example/g01021/laws.FnExactBridgesOf", spec := "fnExactBridgesOf", unfollowed := true, recurses := true, apart := false }
def FnExactBridgesOfSaid : Prop := fnExactBridgesOfRow.holds Try.pinned (OpenSpec.ofChange fnExactBridgesOfSpec)

/-- ITS FALSE NEIGHBOUR: 'it returns false'. Refute it at one input. -/
def fnExactBridgesOfWrong : ChangeSpec := { name := "fnExactBridgesOf", fn := fun _ => fun
  | [d] => { results := [.lit (.bool false)], args := [d] }
  | _ => none }
def FnExactBridgesOfWrongFalsely : Prop := fnExactBridgesOfRow.holds Try.pinned (OpenSpec.ofChange fnExactBridgesOfWrong)

/-- 'laws.FnExactPathOf': WHATEVER THE INPUT: true; the input reads as it did. -/
def fnExactPathOfSpec : ChangeSpec := { name := "fnExactPathOf", fn := fun _ => fun
  | [d1, d2, d3] => { results := [.lit (.bool true)], args := [d1, d2, d3] }
  | _ => none }
def fnExactPathOfRow : OpenClaim := { program := "ytpeocfjbdgbmmaa", sum := "800d09434b7adaabeccd9e77c50c9b49dc4271f43e441f3027227b6b70f70649", func := "loop.example/g01021/laws.FnExactPathOf", spec := "fnExactPathOf", apart := false }
def FnExactPathOfSaid : Prop := fnExactPathOfRow.holds Try.pinned (OpenSpec.ofChange fnExactPathOfSpec)

/-- ITS FALSE NEIGHBOUR: 'it returns false'. Refute it at one input. -/
def fnExactPathOfWrong : ChangeSpec := { name := "fnExactPathOf", fn := fun _ => fun
  | [d1, d2, d3] => { results := [.lit (.bool false)], args := [d1, d2, d3] }
  | _ => none }
def FnExactPathOfWrongFalsely : Prop := fnExactPathOfRow.holds Try.pinned (OpenSpec.ofChange fnExactPathOfWrong)

/-- 'laws.FnExactMeshesOf': WHATEVER THE INPUT: true; the input reads as it did. -/
def fnExactMeshesOfSpec : ChangeSpec := { name := "fnExactMeshesOf", fn := fun _ => fun
  | [d] => { results := [.lit (.bool true)], args := [d] }
  | _ => none }
def fnExactMeshesOfRow : OpenClaim := { program := "ytpeocfjbdgbmmaa", sum := "800d09434b7adaabeccd9e77c50c9b49dc4271f43e441f3027227b6b70f70649", func := "loop.example/g01021/laws.FnExactMeshesOf", spec := "fnExactMeshesOf", apart := false }
def FnExactMeshesOfSaid : Prop := fnExactMeshesOfRow.holds Try.pinned (OpenSpec.ofChange fnExactMeshesOfSpec)

/-- ITS FALSE NEIGHBOUR: 'it returns false'. Refute it at one input. -/
def fnExactMeshesOfWrong : ChangeSpec := { name := "fnExactMeshesOf", fn := fun _ => fun
  | [d] => { results := [.lit (.bool false)], args := [d] }
  | _ => none }
def FnExactMeshesOfWrongFalsely : Prop := fnExactMeshesOfRow.holds Try.pinned (OpenSpec.ofChange fnExactMeshesOfWrong)

/-- 'laws.FnExactAddAirway': WHATEVER THE INPUT: true; the input reads as it did. -/
def fnExactAddAirwaySpec : ChangeSpec := { name := "fnExactAddAirway", fn := fun _ => fun
  | [d1, d2] => { results := [.lit (.bool true)], args := [d1, d2] }
  | _ => none }
def fnExactAddAirwayRow : OpenClaim := { program := "ytpeocfjbdgbmmaa", sum := "800d09434b7adaabeccd9e77c50c9b49dc4271f43e441f3027227b6b70f70649", func := "loop.example/g01021/laws.FnExactAddAirway", spec := "fnExactAddAirway", inPlace := ["slices.overlaps[loop.example/g01021/impl.Airway]"], unfollowed := true, recurses := true, apart := false }
def FnExactAddAirwaySaid : Prop := fnExactAddAirwayRow.holds Try.pinned (OpenSpec.ofChange fnExactAddAirwaySpec)

/-- ITS FALSE NEIGHBOUR: 'it returns false'. Refute it at one input. -/
def fnExactAddAirwayWrong : ChangeSpec := { name := "fnExactAddAirway", fn := fun _ => fun
  | [d1, d2] => { results := [.lit (.bool false)], args := [d1, d2] }
  | _ => none }
def FnExactAddAirwayWrongFalsely : Prop := fnExactAddAirwayRow.holds Try.pinned (OpenSpec.ofChange fnExactAddAirwayWrong)

/- THE SECOND FORM. 'bulk': how many values and letters a reading holds, each counted each time it is reached (what is shared counts as often as it is met; a slice's spare places count too). A statement '..UptoSaid' is the law's where the arguments, and the package variables that the reading takes, are together of bulk at most 1048576: NARROWER than '..Said'. Prove '..Said' where nothing that the law and all that it calls make is longer than what came in: it says more and counts as full. Else prove '..UptoSaid'. A law counts once. -/
mutual
def uptoBulk {H : Type} : DataW H → Nat
  | .lit (.string bytes) => bytes.length + 1
  | .lit _ => 1
  | .nil => 1
  | .ptr d => uptoBulk d + 1
  | .slice elems spare => uptoBulkAll elems + uptoBulkAll spare + 1
  | .agg parts => uptoBulkAll parts + 1
  | .iface _ d => uptoBulk d + 1
  | .map entries => uptoBulkEntries entries + 1
  | .held _ => 1
def uptoBulkAll {H : Type} : List (DataW H) → Nat
  | [] => 0
  | d :: r => uptoBulk d + uptoBulkAll r
def uptoBulkEntries {H : Type} : List (Lit × DataW H) → Nat
  | [] => 0
  | x :: r => uptoBulkEntry x + uptoBulkEntries r
def uptoBulkEntry {H : Type} : Lit × DataW H → Nat
  | (.string bytes, d) => bytes.length + uptoBulk d + 1
  | (_, d) => uptoBulk d + 1
 end
def uptoSmall : (H : Type) → List (DataW H) → Bool := fun _ ds => decide (uptoBulkAll ds ≤ 1048576)
def OpenSpec.upto (s : _root_.Go.ChangeSpec) : _root_.Go.OpenSpec := { _root_.Go.OpenSpec.ofChange s with cond := some uptoSmall }

/-- 'laws.FnExactSameMine', WHERE WHAT IT READS IS OF BULK AT MOST 1048576: true; the input reads as it did. -/
def fnExactSameMineUptoRow : OpenClaim := { program := "ytpeocfjbdgbmmaa", sum := "800d09434b7adaabeccd9e77c50c9b49dc4271f43e441f3027227b6b70f70649", func := "loop.example/g01021/laws.FnExactSameMine", spec := "fnExactSameMine", apart := false, narrowed := true }
def FnExactSameMineUptoSaid : Prop := fnExactSameMineUptoRow.holds Try.pinned (OpenSpec.upto fnExactSameMineSpec)

/-- 'laws.FnExactValidMine', WHERE WHAT IT READS IS OF BULK AT MOST 1048576: true; the input reads as it did. -/
def fnExactValidMineUptoRow : OpenClaim := { program := "ytpeocfjbdgbmmaa", sum := "800d09434b7adaabeccd9e77c50c9b49dc4271f43e441f3027227b6b70f70649", func := "loop.example/g01021/laws.FnExactValidMine", spec := "fnExactValidMine", apart := false, narrowed := true }
def FnExactValidMineUptoSaid : Prop := fnExactValidMineUptoRow.holds Try.pinned (OpenSpec.upto fnExactValidMineSpec)

/-- 'laws.FnExactAirwayNamed', WHERE WHAT IT READS IS OF BULK AT MOST 1048576: true; the input reads as it did. -/
def fnExactAirwayNamedUptoRow : OpenClaim := { program := "ytpeocfjbdgbmmaa", sum := "800d09434b7adaabeccd9e77c50c9b49dc4271f43e441f3027227b6b70f70649", func := "loop.example/g01021/laws.FnExactAirwayNamed", spec := "fnExactAirwayNamed", unfollowed := true, recurses := true, apart := false, narrowed := true }
def FnExactAirwayNamedUptoSaid : Prop := fnExactAirwayNamedUptoRow.holds Try.pinned (OpenSpec.upto fnExactAirwayNamedSpec)

/-- 'laws.FnExactAirwaysAt', WHERE WHAT IT READS IS OF BULK AT MOST 1048576: true; the input reads as it did. -/
def fnExactAirwaysAtUptoRow : OpenClaim := { program := "ytpeocfjbdgbmmaa", sum := "800d09434b7adaabeccd9e77c50c9b49dc4271f43e441f3027227b6b70f70649", func := "loop.example/g01021/laws.FnExactAirwaysAt", spec := "fnExactAirwaysAt", apart := false, narrowed := true }
def FnExactAirwaysAtUptoSaid : Prop := fnExactAirwaysAtUptoRow.holds Try.pinned (OpenSpec.upto fnExactAirwaysAtSpec)

/-- 'laws.FnExactDropAirway', WHERE WHAT IT READS IS OF BULK AT MOST 1048576: true; the input reads as it did. -/
def fnExactDropAirwayUptoRow : OpenClaim := { program := "ytpeocfjbdgbmmaa", sum := "800d09434b7adaabeccd9e77c50c9b49dc4271f43e441f3027227b6b70f70649", func := "loop.example/g01021/laws.FnExactDropAirway", spec := "fnExactDropAirway", unfollowed := true, recurses := true, apart := false, narrowed := true }
def FnExactDropAirwayUptoSaid : Prop := fnExactDropAirwayUptoRow.holds Try.pinned (OpenSpec.upto fnExactDropAirwaySpec)

/-- 'laws.FnExactTreeOf', WHERE WHAT IT READS IS OF BULK AT MOST 1048576: true; the input reads as it did. -/
def fnExactTreeOfUptoRow : OpenClaim := { program := "ytpeocfjbdgbmmaa", sum := "800d09434b7adaabeccd9e77c50c9b49dc4271f43e441f3027227b6b70f70649", func := "loop.example/g01021/laws.FnExactTreeOf", spec := "fnExactTreeOf", apart := false, narrowed := true }
def FnExactTreeOfUptoSaid : Prop := fnExactTreeOfUptoRow.holds Try.pinned (OpenSpec.upto fnExactTreeOfSpec)

/-- 'laws.FnExactPartsOf', WHERE WHAT IT READS IS OF BULK AT MOST 1048576: true; the input reads as it did. -/
def fnExactPartsOfUptoRow : OpenClaim := { program := "ytpeocfjbdgbmmaa", sum := "800d09434b7adaabeccd9e77c50c9b49dc4271f43e441f3027227b6b70f70649", func := "loop.example/g01021/laws.FnExactPartsOf", spec := "fnExactPartsOf", apart := false, narrowed := true }
def FnExactPartsOfUptoSaid : Prop := fnExactPartsOfUptoRow.holds Try.pinned (OpenSpec.upto fnExactPartsOfSpec)

/-- 'laws.FnExactBridgesOf', WHERE WHAT IT READS IS OF BULK AT MOST 1048576: true; the input reads as it did. -/
def fnExactBridgesOfUptoRow : OpenClaim := { program := "ytpeocfjbdgbmmaa", sum := "800d09434b7adaabeccd9e77c50c9b49dc4271f43e441f3027227b6b70f70649", func := "loop.example/g01021/laws.FnExactBridgesOf", spec := "fnExactBridgesOf", unfollowed := true, recurses := true, apart := false, narrowed := true }
def FnExactBridgesOfUptoSaid : Prop := fnExactBridgesOfUptoRow.holds Try.pinned (OpenSpec.upto fnExactBridgesOfSpec)

/-- 'laws.FnExactPathOf', WHERE WHAT IT READS IS OF BULK AT MOST 1048576: true; the input reads as it did. -/
def fnExactPathOfUptoRow : OpenClaim := { program := "ytpeocfjbdgbmmaa", sum := "800d09434b7adaabeccd9e77c50c9b49dc4271f43e441f3027227b6b70f70649", func := "loop.example/g01021/laws.FnExactPathOf", spec := "fnExactPathOf", apart := false, narrowed := true }
def FnExactPathOfUptoSaid : Prop := fnExactPathOfUptoRow.holds Try.pinned (OpenSpec.upto fnExactPathOfSpec)

/-- 'laws.FnExactMeshesOf', WHERE WHAT IT READS IS OF BULK AT MOST 1048576: true; the input reads as it did. -/
def fnExactMeshesOfUptoRow : OpenClaim := { program := "ytpeocfjbdgbmmaa", sum := "800d09434b7adaabeccd9e77c50c9b49dc4271f43e441f3027227b6b70f70649", func := "loop.example/g01021/laws.FnExactMeshesOf", spec := "fnExactMeshesOf", apart := false, narrowed := true }
def FnExactMeshesOfUptoSaid : Prop := fnExactMeshesOfUptoRow.holds Try.pinned (OpenSpec.upto fnExactMeshesOfSpec)

/-- 'laws.FnExactAddAirway', WHERE WHAT IT READS IS OF BULK AT MOST 1048576: true; the input reads as it did. -/
def fnExactAddAirwayUptoRow : OpenClaim := { program := "ytpeocfjbdgbmmaa", sum := "800d09434b7adaabeccd9e77c50c9b49dc4271f43e441f3027227b6b70f70649", func := "loop.example/g01021/laws.FnExactAddAirway", spec := "fnExactAddAirway", inPlace := ["slices.overlaps[loop.example/g01021/impl.Airway]"], unfollowed := true, recurses := true, apart := false, narrowed := true }
def FnExactAddAirwayUptoSaid : Prop := fnExactAddAirwayUptoRow.holds Try.pinned (OpenSpec.upto fnExactAddAirwaySpec)

end Rows
end Go.Proofs.Ytpeocfjbdgbmmaa
