/-
  The contract of slices.Contains at numbers; a store into an owned row of numbers.
-/
import Derived.Test.YtgiokjflfadeeaaListLaw
import Derived.Deep.Onto
namespace Go.Proofs.Ytgiokjflfadeeaa
open Go.RowKit
set_option linter.unusedVariables false

def hasI (xs : List Int) (z : Int) : Bool := xs.any fun x => z == x
theorem hasI_take (xs : List Int) (z : Int) (k : Nat) (h : k < xs.length) : hasI (xs.take (k + 1)) z = (hasI (xs.take k) z || (z == atI xs k)) := by
  unfold hasI; rw [List.take_succ_eq_append_getElem h, List.any_append, atI_is xs k h]; simp
theorem hasI_yes (xs : List Int) (z : Int) (k : Nat) (h : k < xs.length) (he : (z == atI xs k) = true) : hasI xs z = true := by
  unfold hasI; rw [List.any_eq_true]; exact ⟨xs[k], List.getElem_mem h, by rw [← atI_is xs k h]; exact he⟩
theorem hasI_mem (xs : List Int) (z : Int) : hasI xs z = true ↔ z ∈ xs := by simp [hasI]
def IdxIPost (b : Bool) (w : World) (e : Ending) (w' : World) : Prop := ∃ i : Int, e = .returned (.int .i64 i) ∧ decide (0 ≤ i) = b ∧ w = w'
theorem indexI_any (A : Option Addr) (c : Nat) (xs : List Int) (n : Nat) (z : Int) (w : World) (hn : xs.length = n) (h40 : n ≤ 1099511627776) (hx : Ints w w.heap.size A xs) :
    Calls Try.prog 74 #[.slice A n c, .int .i64 z] w (IdxIPost (hasI xs z) w) := by
  have HX := Lib.hid hx
  have HN := Lib.hid hn
  clear hx hn
  go_enter Try.func74, Try.ntmps74
  go_wp2_with fail
  go_loopw [8] (fun t wr => ∃ k : Nat, k ≤ n ∧ t = .int .i64 (k : Int) ∧ hasI (xs.take k) z = false ∧ w = wr) (fun t _ => n - (intOf t).toNat)
  case atStart => exact ⟨0, Nat.zero_le _, rfl, rfl, rfl⟩
  case round =>
    obtain ⟨k, hk, rfl, hall, rfl⟩ := hrel
    have HA := Lib.hid hall
    clear hall
    by_cases hlt : k < n
    · obtain ⟨b, off, rfl, hb, hc⟩ := HX.out.at_ (k := k) (by have := HN.out; omega)
      by_cases he : z = atI xs k
      · have heb : (z == atI xs k) = true := by simpa using he
        have HE := Lib.hid heb
        clear he
        go_wp2_with fail
        go_ret
        exact ⟨k, rfl, by rw [hasI_yes xs z k (by have := HN.out; omega) HE.out]; simp, rfl⟩
      · have heb : (z == atI xs k) = false := by simpa using he
        have HE := Lib.hid heb
        clear he
        go_wp2_with fail
        go_roundw
        case rel => exact ⟨k + 1, by omega, by go_num, by rw [hasI_take xs z k (by have := HN.out; omega), HA.out, HE.out]; rfl, by first | exact rfl | trivial⟩
        case measure => simp [intOf]; omega
    · obtain rfl : k = n := by omega
      go_wp2_with fail
      go_ret
      exact ⟨-1, rfl, by have := HA.out; rw [List.take_of_length_le (by have := HN.out; omega)] at this; rw [this]; simp, rfl⟩
theorem containsI_any (A : Option Addr) (c : Nat) (xs : List Int) (n : Nat) (z : Int) (w : World) (hn : xs.length = n) (h40 : n ≤ 1099511627776) (hx : Ints w w.heap.size A xs) (q : Bool) (hq : hasI xs z = q) :
    Calls Try.prog 65 #[.slice A n c, .int .i64 z] w fun e w' => e = .returned (.bool q) ∧ w = w' := by
  subst hq
  go_enter Try.func65, Try.ntmps65
  go_wp2_with fail
  refine (indexI_any _ _ xs _ z _ hn h40 hx).mono ?_; rintro e w1 ⟨i, rfl, hi, rfl⟩
  have HI := Lib.hid hi
  clear hi
  go_wp2_with fail
  go_ret
  exact ⟨ret_bool (by rw [← HI.out]), rfl⟩

theorem OwnI.mono {w : World} {B B' : Nat} {v : Value} {xs : List Int} (h : OwnI w B v xs) (hb : B' ≤ B) : OwnI w B' v xs := World.ownsRow.mono h hb
theorem OwnI.store {w : World} {B g c : Nat} {xs : List Int} (h : OwnI w B (.slice (some ⟨g, 0, none⟩) xs.length c) xs) (i : Nat) (z : Int) :
    OwnI (w.setCell ⟨g, i, none⟩ (.int .i64 z)) B (.slice (some ⟨g, 0, none⟩) xs.length c) (xs.set i z) := by
  have hs := World.ownsRow.stored h i (.int .i64 z)
  unfold OwnI
  have e : valsI (xs.set i z) = (valsI xs).set i (.int .i64 z) := by simp [valsI, List.map_set]
  rw [e, List.length_set]
  exact hs.1
end Go.Proofs.Ytgiokjflfadeeaa
