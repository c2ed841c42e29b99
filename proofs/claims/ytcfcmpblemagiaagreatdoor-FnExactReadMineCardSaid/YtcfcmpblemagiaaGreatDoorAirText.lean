/-
  FnExactAirText: for every air the program's AirText returns what the reference's returns.
-/
import Derived.Test.YtcfcmpblemagiaaGreatDoorListText
import Derived.Test.YtcfcmpblemagiaaGreatDoorAir
import Derived.Deep.RegionHeld3
import Derived.Test.YtcfcmpblemagiaaGreatDoorNum
import Derived.RowKit3
import Derived.ProofKit
import Derived.OpenShut
import Derived.Lib.SmallJoins
namespace Go.Proofs.YtcfcmpblemagiaaGreatDoor
open Go.RowKit
set_option linter.unusedVariables false

def airOk (t p h : Int) : Bool := inB t (-100) 600 && inB p 50000 150000 && inB h 0 1000
def airT (t p h : Int) : ByteArray := if airOk t p h then listT [t, p, h] else ⟨#[]⟩
theorem air_fits {t p h : Int} (ho : airOk t p h = true) : listText [t, p, h] = listT [t, p, h] ∧ IB [t, p, h] := by
  unfold airOk at ho
  simp only [Bool.and_eq_true] at ho
  obtain ⟨⟨h0, h1⟩, h2⟩ := ho
  have b0 := inB_true.1 h0
  have b1 := inB_true.1 h1
  have b2 := inB_true.1 h2
  have key : ∀ k, k < 3 → -1000000000000 ≤ atI [t, p, h] k ∧ atI [t, p, h] k ≤ 1000000000000 := fun k hk => by
    rcases (by omega : k = 0 ∨ k = 1 ∨ k = 2) with rfl | rfl | rfl
    · show -1000000000000 ≤ t ∧ t ≤ 1000000000000; omega
    · show -1000000000000 ≤ p ∧ p ≤ 1000000000000; omega
    · show -1000000000000 ≤ h ∧ h ≤ 1000000000000; omega
  refine ⟨?_, fun k hk => by have := key k hk; omega⟩
  unfold listText
  rw [fits_is _ 3 rfl, if_pos]
  simp only [Bool.and_eq_true, decide_eq_true_eq]
  refine ⟨?_, by omega⟩
  unfold inAll
  rw [List.all_eq_true]
  intro k hk
  exact inB_true.2 (key k (by simpa using hk))
theorem ints3 (w : World) (t p h : Int) : Ints (w.alloc (.cells #[.int .i64 t, .int .i64 p, .int .i64 h] 2)) (w.alloc (.cells #[.int .i64 t, .int .i64 p, .int .i64 h] 2)).heap.size (some ⟨w.heap.size, 0, none⟩) [t, p, h] :=
  (Ints.new w [t, p, h] _).more (by simp)
theorem a_next {w w1 : World} {b : Nat} {t p h : Int} (hb : Below w.heap.size w w1) (hS : w.cell? ⟨b, 0, none⟩ = some (.int .i64 t) ∧ w.cell? ⟨b, 1, none⟩ = some (.int .i64 p) ∧ w.cell? ⟨b, 2, none⟩ = some (.int .i64 h)) : w1.cell? ⟨b, 0, none⟩ = some (.int .i64 t) ∧ w1.cell? ⟨b, 1, none⟩ = some (.int .i64 p) ∧ w1.cell? ⟨b, 2, none⟩ = some (.int .i64 h) := by
  obtain ⟨a0, a1, a2⟩ := hS
  have f : ∀ {a : Addr} {v : Value}, w.cell? a = some v → w1.cell? a = some v := fun {a v} h => (hb.cell (World.block_lt_of_cell? w a h)).trans h
  exact ⟨f a0, f a1, f a2⟩
theorem drew_below (w : World) : Below w.heap.size w w.drew := ⟨rfl, rfl, rfl, Nat.le_refl _, fun _ _ => rfl⟩
end Go.Proofs.YtcfcmpblemagiaaGreatDoor
