/-
  The contract of sort.Search at a function value that only reads: the place that it finds has the property, the place before it has not.
-/
import Derived.Test.YtkhfofnggfejmaaNum
namespace Go.Proofs.Ytkhfofnggfejmaa
open Go.RowKit
set_option linter.unusedVariables false

def SearchPost (N : Nat) (p : Nat → Bool) (w : World) (e : Ending) (w' : World) : Prop :=
  ∃ r : Nat, r ≤ N ∧ e = .returned (.int .i64 r) ∧ (0 < r → p (r - 1) = false) ∧ (r < N → p r = true) ∧ ∃ q, w' = w.drewN q
theorem mid_is (a b : Nat) : ((a : Int) + (b : Int)) / 2 = (((a + b) / 2 : Nat) : Int) := by omega

theorem search_root (N : Nat) (hN : N ≤ 4611686018427387904) (caps : Array Value) (p : Nat → Bool) (w : World)
    (hf : ∀ (i : Nat) (q : Nat), i < N → Calls Try.prog 49 (#[.int .i64 i] ++ caps) (w.drewN q) fun e w' => e = .returned (.bool (p i)) ∧ ∃ m, w' = w.drewN m) :
    Calls Try.prog 48 #[.int .i64 N, .func (.func 49) #[] caps] w (SearchPost N p w) := by
  have HF := Lib.hid hf
  clear hf
  go_enter Try.func48, Try.ntmps48
  go_wp2_with fail
  go_loopw [5, 6] (fun l h wr => ∃ (a b : Nat), a ≤ b ∧ b ≤ N ∧ l = .int .i64 a ∧ h = .int .i64 b ∧ (0 < a → p (a - 1) = false) ∧ (b < N → p b = true) ∧ ∃ q, wr = w.drewN q) (fun l h _ => (intOf h - intOf l).toNat)
  case atStart => exact ⟨0, N, by omega, by omega, rfl, rfl, by omega, by omega, 0, rfl⟩
  case round =>
    obtain ⟨a, b, hab, hb, rfl, rfl, pa, pb, q, rfl⟩ := hrel
    have PA := Lib.hid pa
    have PB := Lib.hid pb
    clear pa pb
    by_cases hlt : a < b
    · by_cases hp : p ((a + b) / 2) = true
      · have HP := Lib.hid hp
        clear hp
        go_wp2_with (go_at_call 49; rw [mid_is]; refine (HF.out _ _ (by omega)).mono ?_; rintro e w' ⟨rfl, mq, rfl⟩; rw [HP.out])
        go_roundw
        case rel => exact ⟨a, (a + b) / 2, by omega, by omega, rfl, by first | rfl | go_num | (congr 1; omega), PA.out, fun _ => HP.out, _, rfl⟩
        case measure => simp [intOf]; omega
      · have hp : p ((a + b) / 2) = false := by simpa using hp
        have HP := Lib.hid hp
        clear hp
        go_wp2_with (go_at_call 49; rw [mid_is]; refine (HF.out _ _ (by omega)).mono ?_; rintro e w' ⟨rfl, mq, rfl⟩; rw [HP.out])
        go_roundw
        case rel => exact ⟨(a + b) / 2 + 1, b, by omega, by omega, by first | rfl | go_num | (congr 1; omega), rfl, fun _ => HP.out, PB.out, _, rfl⟩
        case measure => simp [intOf]; omega
    · obtain rfl : a = b := by omega
      go_wp2_with fail
      go_ret
      exact ⟨a, by omega, rfl, PA.out, PB.out, _, rfl⟩
end Go.Proofs.Ytkhfofnggfejmaa
