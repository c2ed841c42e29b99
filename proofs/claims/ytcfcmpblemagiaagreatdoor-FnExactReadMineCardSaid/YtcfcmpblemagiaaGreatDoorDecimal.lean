/-
  FnExactDecimal: for every number the program's Decimal (the library's FormatInt) returns what the reference's returns: the decimal numeral.
-/
import Derived.Test.YtcfcmpblemagiaaGreatDoorDec
import Derived.Test.YtcfcmpblemagiaaGreatDoorLaid
import Derived.Test.YtcfcmpblemagiaaGreatDoorNum
import Derived.RowKit3
import Derived.ProofKit
import Derived.OpenShut
import Derived.Lib.SmallJoins
namespace Go.Proofs.YtcfcmpblemagiaaGreatDoor
open Go.RowKit
set_option linter.unusedVariables false

theorem grow_below (w : World) (k : Nat) (os : Array Obj) : Below w.heap.size w (Sort.grow (w.drewN k) os) :=
  (below_drewN (Below.refl _ _) k).trans ⟨rfl, rfl, rfl, by simp, fun j hj => Sort.heap_grow_old (w.drewN k) os (by simpa using hj)⟩
theorem decP_any (n : Int) (h0 : -9223372036854775808 ≤ n) (h1 : n ≤ 9223372036854775807) (w : World) (hp : Pow w) :
    Calls Tryz.prog 24 #[.int .i64 n] w (StrPost (decS n) w) := by
  go_enter Tryz.func24, Tryz.ntmps24
  go_wp2_with fail
  refine (Tryz.strconv_FormatInt_10 n h0 h1 _ hp).mono ?_
  rintro e w' ⟨rfl, k, os, rfl⟩
  have hb := grow_below w k os
  go_wp2_with fail
  go_ret
  exact ⟨rfl, hb⟩
end Go.Proofs.YtcfcmpblemagiaaGreatDoor
