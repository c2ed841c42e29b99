/-
  What the rows' listed variables give the walks besides: the two sentinels of the library's ParseInt.
-/
import Derived.Test.YtcfcmpblemagiaaGreatDoorLaid
import Derived.Stop.LaidErr
namespace Go.Proofs.YtcfcmpblemagiaaGreatDoor
open Go.RowKit
set_option linter.unusedVariables false

def ErrIs (w : World) (name : String) : Prop := ∃ tp p, w.var? Tryz.prog name = some #[.iface tp p]
structure Env (w : World) : Prop where
  pow : Pow w
  syn : ErrIs w "strconv.ErrSyntax"
  ran : ErrIs w "strconv.ErrRange"
theorem gSyn : Tryz.prog.globalNamed "strconv.ErrSyntax" = some 1 := by kernel_rfl
theorem gRan : Tryz.prog.globalNamed "strconv.ErrRange" = some 2 := by kernel_rfl
theorem tySyn : (Tryz.prog.globals[1]?).map (·.type) = some 46 := by kernel_rfl
theorem tyRan : (Tryz.prog.globals[2]?).map (·.type) = some 46 := by kernel_rfl
theorem starE : "*" ++ "errors.errorString" = "*errors.errorString" := by decide
theorem rowE (u : TypeId) (h : Tryz.prog.typeName? 3 u = some "*errors.errorString") : u = 109 :=
  typeName_ptr_named (nm := "errors.errorString") (by rw [starE]; kernel_rfl) (by kernel_rfl) (by decide) u (by rw [starE]; exact h)
theorem ErrIs.step {w w' : World} {name : String} {g : Nat} (hg : Tryz.prog.globalNamed name = some g) (h : ErrIs w name) (hb : Below w.heap.size w w') : ErrIs w' name := by
  obtain ⟨tp, p, hv⟩ := h
  have hc := World.var?_cell hg hv 0
  exact ⟨tp, p, var?_below hb hg (World.block_lt_of_cell? w ⟨g, 0, none⟩ (u := .iface tp p) (by simpa using hc)) hv⟩
theorem Env.step {w w' : World} (h : Env w) (hb : Below w.heap.size w w') : Env w' := ⟨h.pow.step hb, h.syn.step gSyn hb, h.ran.step gRan hb⟩
theorem syn_of {l : List (String × DataW Unit)} {W : World} {text : List UInt8} {rest : List (String × DataW Unit)} (h : laidMet Tryz.prog l W) (hl : l = ("strconv.ErrSyntax", .iface "*errors.errorString" (.ptr (.agg [.lit (.string text)]))) :: rest) : ErrIs W "strconv.ErrSyntax" := by
  subst hl
  obtain ⟨a0, s0, hv0, -, -, -⟩ := laid_sentinel h gSyn tySyn Tryz.underlying46 rowE Tryz.underlying109 Tryz.underlying111 rfl rfl Tryz.underlying9 (by kernel_rfl) (by kernel_rfl)
  exact ⟨_, _, hv0⟩
theorem ran_of {l : List (String × DataW Unit)} {W : World} {text : List UInt8} {rest : List (String × DataW Unit)} (h : laidMet Tryz.prog l W) (hl : l = ("strconv.ErrRange", .iface "*errors.errorString" (.ptr (.agg [.lit (.string text)]))) :: rest) : ErrIs W "strconv.ErrRange" := by
  subst hl
  obtain ⟨a0, s0, hv0, -, -, -⟩ := laid_sentinel h gRan tyRan Tryz.underlying46 rowE Tryz.underlying109 Tryz.underlying111 rfl rfl Tryz.underlying9 (by kernel_rfl) (by kernel_rfl)
  exact ⟨_, _, hv0⟩
/-- the list of the row that reads one number -/
def laid5 : List (String × DataW Unit) := [("math/bits.deBruijn32tab", Rows.laid_math_bits_deBruijn32tab), ("math/bits.deBruijn64tab", Rows.laid_math_bits_deBruijn64tab), ("internal/strconv.uint64pow10", Rows.laid_internal_strconv_uint64pow10), ("strconv.ErrRange", Rows.laid_strconv_ErrRange), ("strconv.ErrSyntax", Rows.laid_strconv_ErrSyntax)]
theorem env5 {W : World} (h : laidMetH Tryz.prog laid5 W) : Env W := by
  rw [MakeChecks.laidMetH_plain _ _ _ (by kernel_rfl)] at h
  exact ⟨pow_of h rfl, syn_of h.tail.tail.tail.tail rfl, ran_of h.tail.tail.tail rfl⟩
theorem env5_door (os : Os) (args : Array Value) : laidMetH Tryz.prog laid5 ((World.doorLaid Tryz.prog 72 os).forCall (fun _ _ => 0) ⟨#[], args, []⟩).memory :=
  laidMetH_of_parts3 (fuel := 8) (laidMet_of_run' 8 (by kernel_rfl) (by kernel_rfl)) (by kernel_rfl) (by kernel_rfl)
end Go.Proofs.YtcfcmpblemagiaaGreatDoor
