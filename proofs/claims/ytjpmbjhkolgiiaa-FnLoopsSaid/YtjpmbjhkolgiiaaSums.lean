/-
  The contracts of the tests and sums of lists of numbers in both texts.
-/
import Derived.Test.YtjpmbjhkolgiiaaInts
namespace Go.Proofs.Ytjpmbjhkolgiiaa
open Go.RowKit
set_option linter.unusedVariables false

def allB (xs : List Int) (lo hi : Int) : Bool := xs.all fun x => inB x lo hi
theorem allB_zero (xs : List Int) (lo hi : Int) : allB (xs.take 0) lo hi = true := by simp [allB]
theorem allB_take (xs : List Int) (lo hi : Int) (k : Nat) (h : k < xs.length) : allB (xs.take (k + 1)) lo hi = (allB (xs.take k) lo hi && inB (atI xs k) lo hi) := by
  unfold allB
  rw [List.take_succ_eq_append_getElem h, List.all_append, atI_is xs k h]; simp
theorem allB_no (xs : List Int) (lo hi : Int) (k : Nat) (h : k < xs.length) (hf : inB (atI xs k) lo hi = false) : allB xs lo hi = false := by
  unfold allB
  rw [List.all_eq_false]
  exact ⟨xs[k], List.getElem_mem h, by rw [← atI_is xs k h]; simp [hf]⟩
theorem allB_all (xs : List Int) (lo hi : Int) (n : Nat) (h : xs.length = n) : allB (xs.take n) lo hi = allB xs lo hi := by rw [List.take_of_length_le (by omega)]
theorem allB_at (xs : List Int) (lo hi : Int) (k : Nat) (h : k < xs.length) (hf : allB xs lo hi = true) : lo ≤ atI xs k ∧ atI xs k ≤ hi := by
  unfold allB at hf
  rw [List.all_eq_true] at hf
  have := hf _ (List.getElem_mem h)
  rw [← atI_is xs k h] at this
  exact inB_true.1 this

def sumI (xs : List Int) : Int := xs.sum
theorem sum_zero (xs : List Int) : sumI (xs.take 0) = 0 := by simp [sumI]
theorem sum_take (xs : List Int) (k : Nat) (h : k < xs.length) : sumI (xs.take (k + 1)) = sumI (xs.take k) + atI xs k := by
  unfold sumI
  rw [List.take_succ_eq_append_getElem h, List.sum_append, atI_is xs k h]; simp
theorem sum_bd (xs : List Int) (M : Int) (h0 : 0 ≤ M) (h : allB xs (-M) M = true) : ∀ k, k ≤ xs.length → -(M * k) ≤ sumI (xs.take k) ∧ sumI (xs.take k) ≤ M * k := by
  intro k
  induction k with
  | zero => intro _; simp [sumI]
  | succ k ih =>
    intro hk
    have a := ih (by omega)
    have b := allB_at xs (-M) M k (by omega) h
    rw [sum_take xs k (by omega), show ((k + 1 : Nat) : Int) = (k : Int) + 1 by omega, Int.mul_add]
    omega

def IdxPost (p : Bool) (w : World) (e : Ending) (w' : World) : Prop := ∃ i : Int, e = .returned (.int .i64 i) ∧ decide (0 ≤ i) = p ∧ ∃ q, w' = w.drewN q

theorem idxWithin_any (A : Option Addr) (c : Nat) (xs : List Int) (n : Nat) (b1 b2 : Nat) (lo hi : Int) (w : World) (hn : xs.length = n) (h40 : n ≤ 1099511627776) (hx : Ints w w.heap.size A xs)
    (c1 : w.cell? ⟨b1, 0, none⟩ = some (.int .i64 lo)) (c2 : w.cell? ⟨b2, 0, none⟩ = some (.int .i64 hi)) :
    Calls Try.prog 99 #[.slice A n c, .func (.func 91) #[] #[.pointer (some ⟨b1, 0, none⟩), .pointer (some ⟨b2, 0, none⟩)]] w (IdxPost (!allB xs lo hi) w) := by
  have HX := Lib.hid hx
  have HN := Lib.hid hn
  clear hx hn
  go_enter Try.func99, Try.ntmps99
  go_wp2_with fail
  go_loopw [8] (fun i wr => ∃ k : Nat, k ≤ n ∧ i = .int .i64 k ∧ allB (xs.take k) lo hi = true ∧ ∃ q, wr = w.drewN q) (fun i _ => n - (intOf i).toNat)
  case atStart => exact ⟨0, Nat.zero_le _, rfl, allB_zero _ _ _, 0, rfl⟩
  case round =>
    obtain ⟨k, hk, rfl, hall, q, rfl⟩ := hrel
    have HA := Lib.hid hall
    clear hall
    by_cases hlt : k < n
    · obtain ⟨b, off, rfl, hb, hc⟩ := HX.out.at_ (k := k) (by have := HN.out; omega)
      by_cases hi' : inB (atI xs k) lo hi = true
      · have HS := Lib.hid (allB_take xs lo hi k (by have := HN.out; omega))
        go_wp2_with (first | (go_at_call 73; refine (within_is _ _ _ _ _ hi').mono ?_; rintro e w' ⟨rfl, rfl⟩) | go_in)
        go_roundw
        case rel => exact ⟨k + 1, by omega, by go_num, by rw [HS.out, HA.out, hi']; rfl, _, rfl⟩
        case measure => simp [intOf]; omega
      · simp only [Bool.not_eq_true] at hi'
        have HF := Lib.hid (allB_no xs lo hi k (by have := HN.out; omega) hi')
        go_wp2_with (first | (go_at_call 73; refine (within_is _ _ _ _ _ hi').mono ?_; rintro e w' ⟨rfl, rfl⟩) | go_in)
        go_ret
        exact ⟨(k : Int), rfl, by rw [HF.out]; simp, _, rfl⟩
    · obtain rfl : k = n := by omega
      have HF := Lib.hid (allB_all xs lo hi k HN.out)
      go_wp2_with fail
      go_ret
      exact ⟨-1, rfl, by rw [← HF.out, HA.out]; simp, _, rfl⟩

theorem allWithin_any (A : Option Addr) (c : Nat) (xs : List Int) (n : Nat) (lo hi : Int) (w : World) (hn : xs.length = n) (h40 : n ≤ 1099511627776) (hx : Ints w w.heap.size A xs) :
    Calls Try.prog 68 #[.slice A n c, .int .i64 lo, .int .i64 hi] w fun e w' => e = .returned (.bool (allB xs lo hi)) ∧ ∃ (c1 c2 : Array Value) (t1 t2 : TypeId) (q : Nat), w' = ((w.alloc (.cells c1 t1)).alloc (.cells c2 t2)).drewN q := by
  have HX := Lib.hid (((hx.below ((Below.refl _ _).alloc (Nat.le_refl _) (.cells #[.int .i64 lo] 2))).below (((Below.refl _ _).alloc (by simp) (.cells #[.int .i64 hi] 2)))).more (show w.heap.size ≤ ((w.alloc (.cells #[.int .i64 lo] 2)).alloc (.cells #[.int .i64 hi] 2)).heap.size by simp; omega))
  have HN := Lib.hid hn
  clear hx hn
  go_enter Try.func68, Try.ntmps68
  go_wp2_with (first | (go_at_call 99; refine (idxWithin_any _ _ xs _ _ _ lo hi _ HN.out h40 HX.out (by simp [go_sem, World.cell?_alloc_past]) (by simp [go_sem])).mono ?_; rintro e w' ⟨i, rfl, hi0, q, rfl⟩) | (go_at_call 90; go_in))
  go_ret
  exact ⟨ret_bool (by simp_all), _, _, _, _, _, rfl⟩

def SumPost (v : Int) (w : World) (e : Ending) (w' : World) : Prop := e = .returned (.int .i64 v) ∧ w' = w
theorem sumOf_any (A : Option Addr) (c : Nat) (xs : List Int) (n : Nat) (w : World) (hn : xs.length = n) (h64 : n ≤ 64) (hx : Ints w w.heap.size A xs) (hb : allB xs (-1000000) 1000000 = true) :
    Calls Try.prog 66 #[.slice A n c] w fun e w' => e = .returned (.int .i64 (sumI xs)) ∧ w' = w := by
  have HX := Lib.hid hx
  have HN := Lib.hid hn
  have HB := Lib.hid hb
  clear hx hn hb
  go_enter Try.func66, Try.ntmps66
  go_wp2_with fail
  go_loopw [3, 8] (fun t i wr => ∃ k : Nat, k ≤ n ∧ i = .int .i64 k ∧ t = .int .i64 (sumI (xs.take k)) ∧ wr = w) (fun _ i _ => n - (intOf i).toNat)
  case atStart => exact ⟨0, Nat.zero_le _, rfl, by rw [sum_zero], rfl⟩
  case round =>
    obtain ⟨k, hk, rfl, rfl, rfl⟩ := hrel
    by_cases hlt : k < n
    · obtain ⟨b, off, rfl, hb, hc⟩ := HX.out.at_ (k := k) (by have := HN.out; omega)
      have s1 := sum_bd xs 1000000 (by omega) HB.out k (by have := HN.out; omega)
      have s2 := allB_at xs (-1000000) 1000000 k (by have := HN.out; omega) HB.out
      have HS := Lib.hid (sum_take xs k (by have := HN.out; omega))
      go_wp2_with fail
      go_roundw
      case rel => exact ⟨k + 1, by omega, by go_num, by rw [HS.out], by first | exact rfl | trivial⟩
      case measure => simp [intOf]; omega
    · obtain rfl : k = n := by omega
      have HF := Lib.hid (List.take_of_length_le (l := xs) (i := k) (by have := HN.out; omega))
      go_wp2_with fail
      go_ret
      exact ⟨ret_int (by rw [HF.out]), rfl⟩
theorem l05Sum_any (A : Option Addr) (c : Nat) (xs : List Int) (n : Nat) (w : World) (hn : xs.length = n) (h64 : n ≤ 64) (hx : Ints w w.heap.size A xs) (hb : allB xs (-1000000) 1000000 = true) :
    Calls Try.prog 64 #[.slice A n c] w fun e w' => e = .returned (.int .i64 (sumI xs)) ∧ w' = w := by
  have HX := Lib.hid hx
  have HN := Lib.hid hn
  have HB := Lib.hid hb
  clear hx hn hb
  go_enter Try.func64, Try.ntmps64
  go_wp2_with fail
  go_loopw [3, 4] (fun t i wr => ∃ k : Nat, k ≤ n ∧ i = .int .i64 k ∧ t = .int .i64 (sumI (xs.take k)) ∧ wr = w) (fun _ i _ => n - (intOf i).toNat)
  case atStart => exact ⟨0, Nat.zero_le _, rfl, by rw [sum_zero], rfl⟩
  case round =>
    obtain ⟨k, hk, rfl, rfl, rfl⟩ := hrel
    by_cases hlt : k < n
    · obtain ⟨b, off, rfl, hb, hc⟩ := HX.out.at_ (k := k) (by have := HN.out; omega)
      have s1 := sum_bd xs 1000000 (by omega) HB.out k (by have := HN.out; omega)
      have s2 := allB_at xs (-1000000) 1000000 k (by have := HN.out; omega) HB.out
      have HS := Lib.hid (sum_take xs k (by have := HN.out; omega))
      go_wp2_with fail
      go_roundw
      case rel => exact ⟨k + 1, by omega, by go_num, by rw [HS.out], by first | exact rfl | trivial⟩
      case measure => simp [intOf]; omega
    · obtain rfl : k = n := by omega
      have HF := Lib.hid (List.take_of_length_le (l := xs) (i := k) (by have := HN.out; omega))
      go_wp2_with fail
      go_ret
      exact ⟨ret_int (by rw [HF.out]), rfl⟩

def dropsB (xs : List Int) : Bool := decide (xs.length ≤ 64) && allB xs (-10000) 10000
theorem l05Drops_any (A : Option Addr) (c : Nat) (xs : List Int) (n : Nat) (w : World) (hn : xs.length = n) (h40 : n ≤ 1099511627776) (hx : Ints w w.heap.size A xs) :
    Calls Try.prog 63 #[.slice A n c] w fun e w' => e = .returned (.bool (dropsB xs)) ∧ w = w' := by
  have HX := Lib.hid hx
  have HN := Lib.hid hn
  clear hx hn
  go_enter Try.func63, Try.ntmps63
  go_wp2_with fail
  go_loopw [3] (fun i wr => ∃ k : Nat, k ≤ n ∧ i = .int .i64 k ∧ allB (xs.take k) (-10000) 10000 = true ∧ wr = w) (fun i _ => n - (intOf i).toNat)
  case atStart => exact ⟨0, Nat.zero_le _, rfl, allB_zero _ _ _, rfl⟩
  case round =>
    obtain ⟨k, hk, rfl, hall, rfl⟩ := hrel
    have HA := Lib.hid hall
    clear hall
    by_cases hlt : k < n
    · obtain ⟨b, off, rfl, hb, hc⟩ := HX.out.at_ (k := k) (by have := HN.out; omega)
      by_cases hi' : inB (atI xs k) (-10000) 10000 = true
      · have HS := Lib.hid (allB_take xs (-10000) 10000 k (by have := HN.out; omega))
        go_wp2_with (go_at_call 69; refine (l00In_is _ _ _ _ _ hi').mono ?_; rintro e w' ⟨rfl, rfl⟩)
        go_roundw
        case rel => exact ⟨k + 1, by omega, by go_num, by rw [HS.out, HA.out, hi']; rfl, by first | exact rfl | trivial⟩
        case measure => simp [intOf]; omega
      · simp only [Bool.not_eq_true] at hi'
        have HF := Lib.hid (allB_no xs (-10000) 10000 k (by have := HN.out; omega) hi')
        go_wp2_with (go_at_call 69; refine (l00In_is _ _ _ _ _ hi').mono ?_; rintro e w' ⟨rfl, rfl⟩)
        go_ret
        exact ⟨ret_bool (by unfold dropsB; rw [HF.out]; simp), rfl⟩
    · obtain rfl : k = n := by omega
      have HF := Lib.hid (allB_all xs (-10000) 10000 k HN.out)
      go_wp2_with fail
      go_ret
      exact ⟨ret_bool (by unfold dropsB; rw [← HF.out, HA.out, HN.out]; simp <;> omega), rfl⟩
theorem loopOk_any (A : Option Addr) (c : Nat) (xs : List Int) (n : Nat) (w : World) (hn : xs.length = n) (h40 : n ≤ 1099511627776) (hx : Ints w w.heap.size A xs) :
    Calls Try.prog 65 #[.slice A n c] w fun e w' => e = .returned (.bool (dropsB xs)) ∧ Below w.heap.size w w' := by
  have HX := Lib.hid hx
  have HN := Lib.hid hn
  clear hx hn
  by_cases h64 : n ≤ 64
  · go_enter Try.func65, Try.ntmps65
    go_wp2_with (go_at_call 68; refine (allWithin_any _ _ xs _ _ _ _ HN.out h40 HX.out).mono ?_; rintro e w' ⟨rfl, o1, o2, u1, u2, q, rfl⟩)
    go_ret
    exact ⟨ret_bool (by unfold dropsB; rw [HN.out]; simp [h64]), by ((repeat (first | with_reducible exact Below.refl _ _ | with_reducible apply below_drewN | with_reducible apply Below.drew | (with_reducible refine Below.alloc ?_ ?_ _) | (with_reducible refine Below.setCell ?_ ?_ _) | (with_reducible refine Below.trans ?_ (hb4.mono ?_)) | (with_reducible refine Below.trans ?_ (hb3.mono ?_)) | (with_reducible refine Below.trans ?_ (hb2.mono ?_)))); all_goals (first | (simp <;> omega) | (have h2s := hb2.size; (try simp at h2s); (try simp); omega) | (have h2s := hb2.size; have h3s := hb3.size; (try simp at h2s); (try simp at h3s); (try simp); omega) | (have h2s := hb2.size; have h3s := hb3.size; have h4s := hb4.size; (try simp at h2s); (try simp at h3s); (try simp at h4s); (try simp); omega)))⟩
  · go_enter Try.func65, Try.ntmps65
    go_wp2_with fail
    go_ret
    exact ⟨ret_bool (by unfold dropsB; rw [HN.out]; simp [h64]), by ((repeat (first | with_reducible exact Below.refl _ _ | with_reducible apply below_drewN | with_reducible apply Below.drew | (with_reducible refine Below.alloc ?_ ?_ _) | (with_reducible refine Below.setCell ?_ ?_ _) | (with_reducible refine Below.trans ?_ (hb4.mono ?_)) | (with_reducible refine Below.trans ?_ (hb3.mono ?_)) | (with_reducible refine Below.trans ?_ (hb2.mono ?_)))); all_goals (first | (simp <;> omega) | (have h2s := hb2.size; (try simp at h2s); (try simp); omega) | (have h2s := hb2.size; have h3s := hb3.size; (try simp at h2s); (try simp at h3s); (try simp); omega) | (have h2s := hb2.size; have h3s := hb3.size; have h4s := hb4.size; (try simp at h2s); (try simp at h3s); (try simp at h4s); (try simp); omega)))⟩
theorem drops_wide {xs : List Int} (h : dropsB xs = true) : xs.length ≤ 64 ∧ allB xs (-1000000) 1000000 = true := by
  unfold dropsB at h
  simp only [Bool.and_eq_true, decide_eq_true_eq] at h
  refine ⟨h.1, ?_⟩
  unfold allB at h ⊢
  rw [List.all_eq_true] at h ⊢
  intro x hx
  have := inB_true.1 (h.2 x hx)
  exact inB_true.2 (by omega)
end Go.Proofs.Ytjpmbjhkolgiiaa
