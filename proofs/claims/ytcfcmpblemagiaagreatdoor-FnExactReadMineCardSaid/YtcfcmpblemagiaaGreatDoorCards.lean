/-
  DERIVED. GIVEN WITH THE SEED: THE CARDS: each row of YtcfcmpblemagiaaGreatDoorRows.lean that lists a variable, with what it lists TIED to the program's text (the seventh form; the later family's looks); each row that meets fmt, with fmt's text TOLD by the authors' own Lean function (tested against real Go, not proved from fmt's source: count such statements apart). THE CARD IS WHAT COUNTS. Prove the row's statement (the work); the ties are given (YtcfcmpblemagiaaGreatDoorTie.lean); close each card by the builder's one call (the guide's Derived/Test/ToyasCard.lean, 'card_holds'). Laid BY PROGRAM, IN A SANDBOX (cutbox-door.mjs). By AI agents, Wed Nov 11 2026. No macro, syntax, notation, axiom, sorry.
-/
import Derived.Test.YtcfcmpblemagiaaGreatDoorRows
import GoSem.ClaimSeven
namespace Go.Proofs.YtcfcmpblemagiaaGreatDoor
namespace Rows

/-- THE TIED CARD OF 'laws.FnExactReadMine'. -/
def fnExactReadMineCard : Claim7 := { stood := { row := fnExactReadMineRow, standIns := [], harness := (true, "db846c37fe9df59761e2acaaf29689b74696a21037d6dabf88748abf7d036a6f"), looks := true }, kinds := [], alts := [], laidByText := true, laidKinds := [.data, .data, .data, .data, .sentinel, .sentinel, .pinned], laidTests := true, laidLooks := .later }
def FnExactReadMineCardSaid : Prop := Claim7.holds Tryz.pinned (.plain (OpenSpec.ofChange fnExactReadMineSpec)) fnExactReadMineCard

/-- THE SECOND FORM's CARD OF 'laws.FnExactReadMine'. -/
def fnExactReadMineUptoCard : Claim7 := { stood := { row := fnExactReadMineUptoRow, standIns := [], harness := (true, "db846c37fe9df59761e2acaaf29689b74696a21037d6dabf88748abf7d036a6f"), looks := true }, kinds := [], alts := [], laidByText := true, laidKinds := [.data, .data, .data, .data, .sentinel, .sentinel, .pinned], laidTests := true, laidLooks := .later }
def FnExactReadMineUptoCardSaid : Prop := Claim7.holds Tryz.pinned (.plain (OpenSpec.upto fnExactReadMineSpec)) fnExactReadMineUptoCard
end Rows
end Go.Proofs.YtcfcmpblemagiaaGreatDoor
