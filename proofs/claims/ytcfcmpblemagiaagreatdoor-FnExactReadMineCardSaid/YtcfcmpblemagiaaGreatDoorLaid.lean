/-
  What the rows' listed variables give the walks: the library's table of powers of ten.
-/
import Derived.Test.YtcfcmpblemagiaaGreatDoorShelf
import Derived.Test.YtcfcmpblemagiaaGreatDoorCards
import Derived.Test.YtcfcmpblemagiaaGreatDoorTie
import Derived.Test.YtcfcmpblemagiaaGreatDoorNum
import Derived.Lib.LaidTab
import Derived.LaidMore
import Derived.LaidHandle
import Derived.MakeChecks
import Derived.Stop.LaidErr
import Derived.Stop.Joined
import Derived.SevenTiedAt
namespace Go.Proofs.YtcfcmpblemagiaaGreatDoor
open Go.RowKit
set_option linter.unusedVariables false

def Pow (w : World) : Prop := Lib.TabIs Tryz.prog w "internal/strconv.uint64pow10" .u64 Lib.pow10Tab
theorem gPow : Tryz.prog.globalNamed "internal/strconv.uint64pow10" = some 5 := by kernel_rfl
theorem pow_of {l : List (String × DataW Unit)} {W : World} {a b : String × DataW Unit} {rest : List (String × DataW Unit)} (h : laidMet Tryz.prog l W) (hl : l = a :: b :: ("internal/strconv.uint64pow10", Lib.tabData .u64 Lib.pow10Tab) :: rest) : Pow W := by
  subst hl
  have ht := h.tail.tail
  obtain ⟨ps, ⟨g', t', cs, fuel, p, q, hg', ht', hvar, hd, _, _⟩, _⟩ := id ht
  exact Lib.tabIs_of_head (t := 113) (e := 79) (n := 20) gPow (by kernel_rfl) (by kernel_rfl) (by kernel_rfl) (by kernel_rfl) (by kernel_rfl) ht
theorem Pow.next {w w' : World} (h : Pow w) (hb : Below w.heap.size w w') (hg : 5 < w.heap.size) : Pow w' := var?_below hb gPow hg h
theorem Pow.lt {w : World} (h : Pow w) : 5 < w.heap.size := World.block_lt_of_cell? w _ (Lib.TabIs.cell h gPow 0 (by decide))
theorem Pow.step {w w' : World} (h : Pow w) (hb : Below w.heap.size w w') : Pow w' := h.next hb h.lt

/-- the list of the rows that only write numbers -/
def laid3 : List (String × DataW Unit) := [("math/bits.deBruijn32tab", Rows.laid_math_bits_deBruijn32tab), ("math/bits.deBruijn64tab", Rows.laid_math_bits_deBruijn64tab), ("internal/strconv.uint64pow10", Rows.laid_internal_strconv_uint64pow10)]
theorem pow3 {W : World} (h : laidMetH Tryz.prog laid3 W) : Pow W := by
  rw [MakeChecks.laidMetH_plain _ _ _ (by kernel_rfl)] at h
  exact pow_of h rfl
theorem pow3_door (os : Os) (args : Array Value) : laidMetH Tryz.prog laid3 ((World.doorLaid Tryz.prog 72 os).forCall (fun _ _ => 0) ⟨#[], args, []⟩).memory :=
  laidMetH_of_parts3 (fuel := 8) (laidMet_of_run' 8 (by kernel_rfl) (by kernel_rfl)) (by kernel_rfl) (by kernel_rfl)
end Go.Proofs.YtcfcmpblemagiaaGreatDoor
