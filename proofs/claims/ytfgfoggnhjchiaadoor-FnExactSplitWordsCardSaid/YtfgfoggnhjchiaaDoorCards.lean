/-
  DERIVED. GIVEN WITH THE SEED: THE CARDS: each row of YtfgfoggnhjchiaaDoorRows.lean that lists a variable, with what it lists TIED to the program's text (the seventh form; the later family's looks); each row that meets fmt, with fmt's text TOLD by the authors' own Lean function (tested against real Go, not proved from fmt's source: count such statements apart). THE CARD IS WHAT COUNTS. Prove the row's statement (the work); the ties are given (YtfgfoggnhjchiaaDoorTie.lean); close each card by the builder's one call (the guide's Derived/Test/ToyasCard.lean, 'card_holds'). Laid BY PROGRAM, IN A SANDBOX (cutbox-door.mjs). By AI agents, Wed Nov 11 2026. No macro, syntax, notation, axiom, sorry.
-/
import Derived.Test.YtfgfoggnhjchiaaDoorRows
import GoSem.ClaimSeven
namespace Go.Proofs.YtfgfoggnhjchiaaDoor
namespace Rows

/-- THE TIED CARD OF 'laws.FnExactDecimal'. -/
def fnExactDecimalCard : Claim7 := { stood := { row := fnExactDecimalRow, standIns := [], harness := (true, "e89489f1eb8af15dc470cb7b71e6da322e652a28c6385069c099001a457c9cb5"), looks := true }, kinds := [], alts := [], laidByText := true, laidKinds := [.data, .data, .data], laidTests := true, laidLooks := .later }
def FnExactDecimalCardSaid : Prop := Claim7.holds Tryd.pinned (.plain (OpenSpec.ofChange fnExactDecimalSpec)) fnExactDecimalCard

/-- THE TIED CARD OF 'laws.FnExactSplitWords'. -/
def fnExactSplitWordsCard : Claim7 := { stood := { row := fnExactSplitWordsRow, standIns := [], harness := (true, "e89489f1eb8af15dc470cb7b71e6da322e652a28c6385069c099001a457c9cb5"), looks := true }, kinds := [], alts := [], laidByText := true, laidKinds := [.data, .pinned], laidTests := true, laidLooks := .later }
def FnExactSplitWordsCardSaid : Prop := Claim7.holds Tryd.pinned (.plain (OpenSpec.ofChange fnExactSplitWordsSpec)) fnExactSplitWordsCard

/-- THE TIED CARD OF 'laws.FnExactListText'. -/
def fnExactListTextCard : Claim7 := { stood := { row := fnExactListTextRow, standIns := [], harness := (true, "e89489f1eb8af15dc470cb7b71e6da322e652a28c6385069c099001a457c9cb5"), looks := true }, kinds := [], alts := [], laidByText := true, laidKinds := [.data, .data, .data], laidTests := true, laidLooks := .later }
def FnExactListTextCardSaid : Prop := Claim7.holds Tryd.pinned (.plain (OpenSpec.ofChange fnExactListTextSpec)) fnExactListTextCard

/-- THE TIED CARD OF 'laws.FnExactAirText'. -/
def fnExactAirTextCard : Claim7 := { stood := { row := fnExactAirTextRow, standIns := [], harness := (true, "e89489f1eb8af15dc470cb7b71e6da322e652a28c6385069c099001a457c9cb5"), looks := true }, kinds := [], alts := [], laidByText := true, laidKinds := [.data, .data, .data], laidTests := true, laidLooks := .later }
def FnExactAirTextCardSaid : Prop := Claim7.holds Tryd.pinned (.plain (OpenSpec.ofChange fnExactAirTextSpec)) fnExactAirTextCard

/-- THE TIED CARD OF 'laws.FnExactAirwayText'. -/
def fnExactAirwayTextCard : Claim7 := { stood := { row := fnExactAirwayTextRow, standIns := [], harness := (true, "e89489f1eb8af15dc470cb7b71e6da322e652a28c6385069c099001a457c9cb5"), looks := true }, kinds := [], alts := [], laidByText := true, laidKinds := [.data, .data, .data], laidTests := true, laidLooks := .later }
def FnExactAirwayTextCardSaid : Prop := Claim7.holds Tryd.pinned (.plain (OpenSpec.ofChange fnExactAirwayTextSpec)) fnExactAirwayTextCard

/-- THE TIED CARD OF 'laws.FnExactReadDecimal'. -/
def fnExactReadDecimalCard : Claim7 := { stood := { row := fnExactReadDecimalRow, standIns := [], harness := (true, "e89489f1eb8af15dc470cb7b71e6da322e652a28c6385069c099001a457c9cb5"), looks := true }, kinds := [], alts := [], laidByText := true, laidKinds := [.data, .data, .data, .sentinel, .sentinel], laidTests := true, laidLooks := .later }
def FnExactReadDecimalCardSaid : Prop := Claim7.holds Tryd.pinned (.plain (OpenSpec.ofChange fnExactReadDecimalSpec)) fnExactReadDecimalCard

/-- THE TIED CARD OF 'laws.FnExactMineText'. -/
def fnExactMineTextCard : Claim7 := { stood := { row := fnExactMineTextRow, standIns := [], harness := (true, "e89489f1eb8af15dc470cb7b71e6da322e652a28c6385069c099001a457c9cb5"), looks := true }, kinds := [], alts := [], laidByText := true, laidKinds := [.data, .data, .data], laidTests := true, laidLooks := .later }
def FnExactMineTextCardSaid : Prop := Claim7.holds Tryd.pinned (.plain (OpenSpec.ofChange fnExactMineTextSpec)) fnExactMineTextCard

/-- THE TIED CARD OF 'laws.FnExactReadList'. -/
def fnExactReadListCard : Claim7 := { stood := { row := fnExactReadListRow, standIns := [], harness := (true, "e89489f1eb8af15dc470cb7b71e6da322e652a28c6385069c099001a457c9cb5"), looks := true }, kinds := [], alts := [], laidByText := true, laidKinds := [.data, .data, .data, .data, .sentinel, .sentinel, .pinned], laidTests := true, laidLooks := .later }
def FnExactReadListCardSaid : Prop := Claim7.holds Tryd.pinned (.plain (OpenSpec.ofChange fnExactReadListSpec)) fnExactReadListCard

/-- THE TIED CARD OF 'laws.FnExactReadAir'. -/
def fnExactReadAirCard : Claim7 := { stood := { row := fnExactReadAirRow, standIns := [], harness := (true, "e89489f1eb8af15dc470cb7b71e6da322e652a28c6385069c099001a457c9cb5"), looks := true }, kinds := [], alts := [], laidByText := true, laidKinds := [.data, .data, .data, .data, .sentinel, .sentinel, .pinned], laidTests := true, laidLooks := .later }
def FnExactReadAirCardSaid : Prop := Claim7.holds Tryd.pinned (.plain (OpenSpec.ofChange fnExactReadAirSpec)) fnExactReadAirCard

/-- THE TIED CARD OF 'laws.FnExactReadAirway'. -/
def fnExactReadAirwayCard : Claim7 := { stood := { row := fnExactReadAirwayRow, standIns := [], harness := (true, "e89489f1eb8af15dc470cb7b71e6da322e652a28c6385069c099001a457c9cb5"), looks := true }, kinds := [], alts := [], laidByText := true, laidKinds := [.data, .data, .data, .data, .sentinel, .sentinel, .pinned], laidTests := true, laidLooks := .later }
def FnExactReadAirwayCardSaid : Prop := Claim7.holds Tryd.pinned (.plain (OpenSpec.ofChange fnExactReadAirwaySpec)) fnExactReadAirwayCard

/-- THE SECOND FORM's CARD OF 'laws.FnExactDecimal'. -/
def fnExactDecimalUptoCard : Claim7 := { stood := { row := fnExactDecimalUptoRow, standIns := [], harness := (true, "e89489f1eb8af15dc470cb7b71e6da322e652a28c6385069c099001a457c9cb5"), looks := true }, kinds := [], alts := [], laidByText := true, laidKinds := [.data, .data, .data], laidTests := true, laidLooks := .later }
def FnExactDecimalUptoCardSaid : Prop := Claim7.holds Tryd.pinned (.plain (OpenSpec.upto fnExactDecimalSpec)) fnExactDecimalUptoCard

/-- THE SECOND FORM's CARD OF 'laws.FnExactSplitWords'. -/
def fnExactSplitWordsUptoCard : Claim7 := { stood := { row := fnExactSplitWordsUptoRow, standIns := [], harness := (true, "e89489f1eb8af15dc470cb7b71e6da322e652a28c6385069c099001a457c9cb5"), looks := true }, kinds := [], alts := [], laidByText := true, laidKinds := [.data, .pinned], laidTests := true, laidLooks := .later }
def FnExactSplitWordsUptoCardSaid : Prop := Claim7.holds Tryd.pinned (.plain (OpenSpec.upto fnExactSplitWordsSpec)) fnExactSplitWordsUptoCard

/-- THE SECOND FORM's CARD OF 'laws.FnExactListText'. -/
def fnExactListTextUptoCard : Claim7 := { stood := { row := fnExactListTextUptoRow, standIns := [], harness := (true, "e89489f1eb8af15dc470cb7b71e6da322e652a28c6385069c099001a457c9cb5"), looks := true }, kinds := [], alts := [], laidByText := true, laidKinds := [.data, .data, .data], laidTests := true, laidLooks := .later }
def FnExactListTextUptoCardSaid : Prop := Claim7.holds Tryd.pinned (.plain (OpenSpec.upto fnExactListTextSpec)) fnExactListTextUptoCard

/-- THE SECOND FORM's CARD OF 'laws.FnExactAirText'. -/
def fnExactAirTextUptoCard : Claim7 := { stood := { row := fnExactAirTextUptoRow, standIns := [], harness := (true, "e89489f1eb8af15dc470cb7b71e6da322e652a28c6385069c099001a457c9cb5"), looks := true }, kinds := [], alts := [], laidByText := true, laidKinds := [.data, .data, .data], laidTests := true, laidLooks := .later }
def FnExactAirTextUptoCardSaid : Prop := Claim7.holds Tryd.pinned (.plain (OpenSpec.upto fnExactAirTextSpec)) fnExactAirTextUptoCard

/-- THE SECOND FORM's CARD OF 'laws.FnExactAirwayText'. -/
def fnExactAirwayTextUptoCard : Claim7 := { stood := { row := fnExactAirwayTextUptoRow, standIns := [], harness := (true, "e89489f1eb8af15dc470cb7b71e6da322e652a28c6385069c099001a457c9cb5"), looks := true }, kinds := [], alts := [], laidByText := true, laidKinds := [.data, .data, .data], laidTests := true, laidLooks := .later }
def FnExactAirwayTextUptoCardSaid : Prop := Claim7.holds Tryd.pinned (.plain (OpenSpec.upto fnExactAirwayTextSpec)) fnExactAirwayTextUptoCard

/-- THE SECOND FORM's CARD OF 'laws.FnExactReadDecimal'. -/
def fnExactReadDecimalUptoCard : Claim7 := { stood := { row := fnExactReadDecimalUptoRow, standIns := [], harness := (true, "e89489f1eb8af15dc470cb7b71e6da322e652a28c6385069c099001a457c9cb5"), looks := true }, kinds := [], alts := [], laidByText := true, laidKinds := [.data, .data, .data, .sentinel, .sentinel], laidTests := true, laidLooks := .later }
def FnExactReadDecimalUptoCardSaid : Prop := Claim7.holds Tryd.pinned (.plain (OpenSpec.upto fnExactReadDecimalSpec)) fnExactReadDecimalUptoCard

/-- THE SECOND FORM's CARD OF 'laws.FnExactMineText'. -/
def fnExactMineTextUptoCard : Claim7 := { stood := { row := fnExactMineTextUptoRow, standIns := [], harness := (true, "e89489f1eb8af15dc470cb7b71e6da322e652a28c6385069c099001a457c9cb5"), looks := true }, kinds := [], alts := [], laidByText := true, laidKinds := [.data, .data, .data], laidTests := true, laidLooks := .later }
def FnExactMineTextUptoCardSaid : Prop := Claim7.holds Tryd.pinned (.plain (OpenSpec.upto fnExactMineTextSpec)) fnExactMineTextUptoCard

/-- THE SECOND FORM's CARD OF 'laws.FnExactReadList'. -/
def fnExactReadListUptoCard : Claim7 := { stood := { row := fnExactReadListUptoRow, standIns := [], harness := (true, "e89489f1eb8af15dc470cb7b71e6da322e652a28c6385069c099001a457c9cb5"), looks := true }, kinds := [], alts := [], laidByText := true, laidKinds := [.data, .data, .data, .data, .sentinel, .sentinel, .pinned], laidTests := true, laidLooks := .later }
def FnExactReadListUptoCardSaid : Prop := Claim7.holds Tryd.pinned (.plain (OpenSpec.upto fnExactReadListSpec)) fnExactReadListUptoCard

/-- THE SECOND FORM's CARD OF 'laws.FnExactReadAir'. -/
def fnExactReadAirUptoCard : Claim7 := { stood := { row := fnExactReadAirUptoRow, standIns := [], harness := (true, "e89489f1eb8af15dc470cb7b71e6da322e652a28c6385069c099001a457c9cb5"), looks := true }, kinds := [], alts := [], laidByText := true, laidKinds := [.data, .data, .data, .data, .sentinel, .sentinel, .pinned], laidTests := true, laidLooks := .later }
def FnExactReadAirUptoCardSaid : Prop := Claim7.holds Tryd.pinned (.plain (OpenSpec.upto fnExactReadAirSpec)) fnExactReadAirUptoCard

/-- THE SECOND FORM's CARD OF 'laws.FnExactReadAirway'. -/
def fnExactReadAirwayUptoCard : Claim7 := { stood := { row := fnExactReadAirwayUptoRow, standIns := [], harness := (true, "e89489f1eb8af15dc470cb7b71e6da322e652a28c6385069c099001a457c9cb5"), looks := true }, kinds := [], alts := [], laidByText := true, laidKinds := [.data, .data, .data, .data, .sentinel, .sentinel, .pinned], laidTests := true, laidLooks := .later }
def FnExactReadAirwayUptoCardSaid : Prop := Claim7.holds Tryd.pinned (.plain (OpenSpec.upto fnExactReadAirwaySpec)) fnExactReadAirwayUptoCard
end Rows
end Go.Proofs.YtfgfoggnhjchiaaDoor
