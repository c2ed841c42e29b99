/-
  The contracts of the two square roots: both compute the greatest number up to 3037000499 whose square is not above n.
-/
import Derived.Test.YtjpmbjhkolgiiaaSearch
namespace Go.Proofs.Ytjpmbjhkolgiiaa
open Go.RowKit
set_option linter.unusedVariables false

theorem search_root (N : Nat) (hN : N ≤ 4611686018427387904) (caps : Array Value) (p : Nat → Bool) (w : World)
    (hf : ∀ (i : Nat) (q : Nat), i < N → Calls Try.prog 103 (#[.int .i64 i] ++ caps) (w.drewN q) fun e w' => e = .returned (.bool (p i)) ∧ ∃ m, w' = w.drewN m) :
    Calls Try.prog 88 #[.int .i64 N, .func (.func 103) #[] caps] w (SearchPost N p w) := by
  have HF := Lib.hid hf
  clear hf
  go_enter Try.func88, Try.ntmps88
  go_wp2_with fail
  go_loopw [5, 6] (fun l h wr => ∃ (a b : Nat), a ≤ b ∧ b ≤ N ∧ l = .int .i64 a ∧ h = .int .i64 b ∧ (0 < a → p (a - 1) = false) ∧ (b < N → p b = true) ∧ ∃ q, wr = w.drewN q) (fun l h _ => (intOf h - intOf l).toNat)
  case atStart => exact ⟨0, N, by omega, by omega, rfl, rfl, by omega, by omega, 0, rfl⟩
  case round =>
    obtain ⟨a, b, hab, hb, rfl, rfl, pa, pb, q, rfl⟩ := hrel
    have PA := Lib.hid pa
    have PB := Lib.hid pb
    clear pa pb
    by_cases hlt : a < b
    · by_cases hp : p ((a + b) / 2) = true
      · have HP := Lib.hid hp
        clear hp
        go_wp2_with (go_at_call 103; rw [mid_is]; refine (HF.out _ _ (by omega)).mono ?_; rintro e w' ⟨rfl, mq, rfl⟩; rw [HP.out])
        go_roundw
        case rel => exact ⟨a, (a + b) / 2, by omega, by omega, rfl, by first | rfl | go_num | (congr 1; omega), PA.out, fun _ => HP.out, _, rfl⟩
        case measure => simp [intOf]; omega
      · have hp : p ((a + b) / 2) = false := by simpa using hp
        have HP := Lib.hid hp
        clear hp
        go_wp2_with (go_at_call 103; rw [mid_is]; refine (HF.out _ _ (by omega)).mono ?_; rintro e w' ⟨rfl, mq, rfl⟩; rw [HP.out])
        go_roundw
        case rel => exact ⟨(a + b) / 2 + 1, b, by omega, by omega, by first | rfl | go_num | (congr 1; omega), rfl, fun _ => HP.out, PB.out, _, rfl⟩
        case measure => simp [intOf]; omega
    · obtain rfl : a = b := by omega
      go_wp2_with fail
      go_ret
      exact ⟨a, by omega, rfl, PA.out, PB.out, _, rfl⟩

def IsRoot (n r : Int) : Prop := 0 ≤ r ∧ r ≤ 3037000499 ∧ (0 < r → r * r ≤ n) ∧ (r < 3037000499 → n < (r + 1) * (r + 1))
theorem sq_le (a b : Int) (h0 : 0 ≤ a) (h : a ≤ b) : a * a ≤ b * b := Int.mul_le_mul h h h0 (by omega)
theorem root_one {n r r' : Int} (h : IsRoot n r) (h' : IsRoot n r') : r = r' := by
  obtain ⟨a, b, c, d⟩ := h
  obtain ⟨a', b', c', d'⟩ := h'
  rcases Int.lt_trichotomy r r' with g | g | g
  · have h1 := d (by omega); have h2 := c' (by omega); have h3 := sq_le (r + 1) r' (by omega) (by omega); omega
  · exact g
  · have h1 := d' (by omega); have h2 := c (by omega); have h3 := sq_le (r' + 1) r (by omega) (by omega); omega
noncomputable def rootF (n : Int) : Int := Classical.epsilon fun r => IsRoot n r
theorem rootF_is {n r : Int} (h : IsRoot n r) : r = rootF n := root_one h (Classical.epsilon_spec (p := fun r => IsRoot n r) ⟨r, h⟩)

theorem sq_bd (a : Int) (h0 : 0 ≤ a) (h : a ≤ 3037000499) : 0 ≤ a * a ∧ a * a ≤ 9223372030926249001 := by
  have h1 := sq_le a 3037000499 h0 h
  have h2 := sq_le 0 a (by omega) h0
  omega

theorem l01Root_any (n : Int) (w : World) :
    Calls Try.prog 102 #[.int .i64 n] w fun e w' => e = .returned (.int .i64 (rootF n)) ∧ w = w' := by
  go_enter Try.func102, Try.ntmps102
  go_wp2
  go_loop [3, 4] (fun l h => ∃ (a b : Int), 0 ≤ a ∧ a ≤ b ∧ b ≤ 3037000499 ∧ l = .int .i64 a ∧ h = .int .i64 b ∧ (0 < a → a * a ≤ n) ∧ (b < 3037000499 → n < (b + 1) * (b + 1))) (fun l h => (intOf h - intOf l).toNat)
  case atStart => exact ⟨0, 3037000499, by omega, by omega, by omega, rfl, rfl, by omega, by omega⟩
  case round =>
    obtain ⟨a, b, ha, hab, hb, rfl, rfl, pa, pb⟩ := hrel
    have PA := Lib.hid pa
    have PB := Lib.hid pb
    clear pa pb
    by_cases hlt : a < b
    · have hs := sq_bd ((a + b + 1) / 2) (by omega) (by omega)
      by_cases hc : (a + b + 1) / 2 * ((a + b + 1) / 2) ≤ n
      · have HC := Lib.hid hc
        go_wp2
        go_round
        case rel => exact ⟨(a + b + 1) / 2, b, by omega, by omega, by omega, rfl, rfl, fun _ => HC.out, PB.out⟩
        case measure => simp [intOf]; omega
      · have HC := Lib.hid hc
        go_wp2
        go_round
        case rel => exact ⟨a, (a + b + 1) / 2 - 1, by omega, by omega, by omega, rfl, rfl, PA.out, fun _ => by have := HC.out; rw [Int.sub_add_cancel]; omega⟩
        case measure => simp [intOf]; omega
    · obtain rfl : a = b := by omega
      go_wp2
      go_ret
      exact ⟨ret_int (rootF_is ⟨ha, hb, PA.out, PB.out⟩), rfl⟩

theorem rootFun_any (n : Int) (i : Nat) (g : Nat) (w : World) (hi : i < 3037000499) (hc : w.cell? ⟨g, 0, none⟩ = some (.int .i64 n)) :
    Calls Try.prog 103 #[.int .i64 i, .pointer (some ⟨g, 0, none⟩)] w fun e w' => e = .returned (.bool (decide (n < ((i : Int) + 1) * ((i : Int) + 1)))) ∧ ∃ m, w' = w.drewN m := by
  have hs := sq_bd ((i : Int) + 1) (by omega) (by omega)
  go_enter Try.func103, Try.ntmps103
  go_wp2_with fail
  go_ret
  exact ⟨rfl, 0, rfl⟩

theorem rootP_any (n : Int) (h : 0 ≤ n) (w : World) :
    Calls Try.prog 98 #[.int .i64 n] w fun e w' => e = .returned (.int .i64 (rootF n)) ∧ ∃ (c : Array Value) (t : TypeId) (q : Nat), w' = (w.alloc (.cells c t)).drewN q := by
  have hf : ∀ (i : Nat) (q : Nat), i < 3037000499 → Calls Try.prog 103 (#[.int .i64 i] ++ #[.pointer (some ⟨w.heap.size, 0, none⟩)]) ((w.alloc (.cells #[.int .i64 n] 2)).drewN q) fun e w' => e = .returned (.bool (decide (n < ((i : Int) + 1) * ((i : Int) + 1)))) ∧ ∃ m, w' = (w.alloc (.cells #[.int .i64 n] 2)).drewN m := by
    intro i q hi
    refine (rootFun_any n i w.heap.size _ hi (by simp [go_sem])).mono ?_
    rintro e w' ⟨rfl, m, rfl⟩
    exact ⟨rfl, q + m, by rw [World.drewN_drewN]⟩
  have HF := Lib.hid hf
  clear hf
  go_enter Try.func98, Try.ntmps98
  go_wp2_with (go_at_call 88; refine (search_root 3037000499 (by omega) _ _ _ HF.out).mono ?_; rintro e w' ⟨r, hr, rfl, h1, h2, q, rfl⟩)
  go_ret
  refine ⟨ret_int (rootF_is ⟨by omega, by omega, fun hr0 => ?_, fun hr1 => ?_⟩), _, _, _, rfl⟩
  · have := h1 (by omega)
    simp only [decide_eq_false_iff_not] at this
    have e : ((r - 1 : Nat) : Int) + 1 = r := by omega
    rw [e] at this
    omega
  · have := h2 (by omega)
    simpa using this
theorem root_neg {n : Int} (h : n < 0) : rootF n = 0 := (rootF_is ⟨by omega, by omega, by omega, by omega⟩).symm
theorem rootN_any (n : Int) (h : n < 0) (w : World) :
    Calls Try.prog 98 #[.int .i64 n] w fun e w' => e = .returned (.int .i64 0) ∧ ∃ (c : Array Value) (t : TypeId), w' = w.alloc (.cells c t) := by
  go_enter Try.func98, Try.ntmps98
  go_wp2_with fail
  go_ret
  exact ⟨rfl, _, _, rfl⟩
end Go.Proofs.Ytjpmbjhkolgiiaa
