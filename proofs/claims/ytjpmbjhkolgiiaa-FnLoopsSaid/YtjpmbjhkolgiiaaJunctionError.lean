/-
  FnExactJunctionError: for all lists of flows the program's JunctionError returns what the reference's returns, and leaves the lists alone.
-/
import Derived.Test.YtjpmbjhkolgiiaaSums
import Derived.Test.YtjpmbjhkolgiiaaRowI
import Derived.Test.YtjpmbjhkolgiiaaNum
import Derived.RowKit3
import Derived.ProofKit
import Derived.OpenShut
import Derived.Lib.SmallJoins
namespace Go.Proofs.Ytjpmbjhkolgiiaa
open Go.RowKit
set_option linter.unusedVariables false

def junA (xs ys : List Int) : Int := if allB xs 0 100000 && allB ys 0 100000 then (if xs.length ≤ 64 ∧ ys.length ≤ 64 then sumI xs - sumI ys else 0) else 0
def junB (xs ys : List Int) : Int := if allB xs 0 100000 && allB ys 0 100000 then (if xs.length ≤ 64 ∧ ys.length ≤ 64 then 0 else 5) else 2
def JunPost (xs ys : List Int) (w : World) (e : Ending) (w' : World) : Prop := e = .returned (.tuple #[.int .i64 (junA xs ys), .int .i64 (junB xs ys)]) ∧ Below w.heap.size w w'
theorem jun_no {xs ys : List Int} (h : allB xs 0 100000 = false ∨ allB ys 0 100000 = false) : junA xs ys = 0 ∧ junB xs ys = 2 := by
  unfold junA junB
  rcases h with h | h <;> simp [h]
theorem jun_full {xs ys : List Int} (h1 : allB xs 0 100000 = true) (h2 : allB ys 0 100000 = true) (h : ¬ (xs.length ≤ 64 ∧ ys.length ≤ 64)) : junA xs ys = 0 ∧ junB xs ys = 5 := by
  unfold junA junB
  rw [h1, h2]; simp only [Bool.and_self, if_true]
  rw [if_neg h, if_neg h]; exact ⟨rfl, rfl⟩
theorem jun_yes {xs ys : List Int} (h1 : allB xs 0 100000 = true) (h2 : allB ys 0 100000 = true) (h : xs.length ≤ 64 ∧ ys.length ≤ 64) : junA xs ys = sumI xs - sumI ys ∧ junB xs ys = 0 := by
  unfold junA junB
  rw [h1, h2]; simp only [Bool.and_self, if_true]
  rw [if_pos h, if_pos h]; exact ⟨rfl, rfl⟩
theorem jret {a b a' b' : Int} {w w' : World} (h : a' = a ∧ b' = b) (hb : Below w.heap.size w w') : Ending.returned (.tuple #[.int .i64 a, .int .i64 b]) = .returned (.tuple #[.int .i64 a', .int .i64 b']) ∧ Below w.heap.size w w' := by
  rw [h.1, h.2]; exact ⟨rfl, hb⟩
theorem wide_of {xs : List Int} (h : allB xs 0 100000 = true) : allB xs (-1000000) 1000000 = true := by
  unfold allB at h ⊢
  rw [List.all_eq_true] at h ⊢
  intro x hx
  have := inB_true.1 (h x hx)
  exact inB_true.2 (by omega)
theorem sum_bd64 (xs : List Int) (n : Nat) (hn : xs.length = n) (h64 : n ≤ 64) (h : allB xs (-1000000) 1000000 = true) : -64000000 ≤ sumI xs ∧ sumI xs ≤ 64000000 := by
  have := sum_bd xs 1000000 (by omega) h n (by omega)
  rw [List.take_of_length_le (by omega)] at this
  omega

theorem junP_any (A B : Option Addr) (c d : Nat) (xs ys : List Int) (n m : Nat) (w : World) (hn : xs.length = n) (hm : ys.length = m) (h1 : n ≤ 1048576) (h2 : m ≤ 1048576) (hx : Ints w w.heap.size A xs) (hy : Ints w w.heap.size B ys) :
    Calls Try.prog 27 #[.slice A n c, .slice B m d] w (JunPost xs ys w) := by
  have HX := Lib.hid hx
  have HY := Lib.hid hy
  have HN := Lib.hid hn
  have HM := Lib.hid hm
  clear hx hy hn hm
  by_cases g1 : allB xs 0 100000 = true
  · by_cases g2 : allB ys 0 100000 = true
    · have G1 := Lib.hid g1
      have G2 := Lib.hid g2
      clear g1 g2
      by_cases h3 : n ≤ 64
      · by_cases h4 : m ≤ 64
        · have W1 := Lib.hid (wide_of G1.out)
          have W2 := Lib.hid (wide_of G2.out)
          have s1 := sum_bd64 xs n HN.out h3 W1.out
          have s2 := sum_bd64 ys m HM.out h4 W2.out
          go_enter Try.func27, Try.ntmps27
          go_wp2_with fail
          refine (allWithin_any _ _ xs _ 0 100000 _ HN.out (by omega) HX.out).mono ?_; rw [G1.out]; rintro e w1 ⟨rfl, o1, o2, u1, u2, q1, rfl⟩
          have b1 : Below w.heap.size w (((w.alloc (.cells o1 u1)).alloc (.cells o2 u2)).drewN q1) := by ((repeat (first | with_reducible exact Below.refl _ _ | with_reducible apply below_drewN | with_reducible apply Below.drew | (with_reducible refine Below.alloc ?_ ?_ _) | (with_reducible refine Below.setCell ?_ ?_ _) | (with_reducible refine Below.trans ?_ (hb4.mono ?_)) | (with_reducible refine Below.trans ?_ (hb3.mono ?_)) | (with_reducible refine Below.trans ?_ (hb2.mono ?_)))); all_goals (first | (simp <;> omega) | (have h2s := hb2.size; (try simp at h2s); (try simp); omega) | (have h2s := hb2.size; have h3s := hb3.size; (try simp at h2s); (try simp at h3s); (try simp); omega) | (have h2s := hb2.size; have h3s := hb3.size; have h4s := hb4.size; (try simp at h2s); (try simp at h3s); (try simp at h4s); (try simp); omega)))
          go_wp2_with fail
          refine (allWithin_any _ _ ys _ 0 100000 _ HM.out (by omega) (HY.out.next b1)).mono ?_; rw [G2.out]; rintro e w1 ⟨rfl, o3, o4, u3, u4, q2, rfl⟩
          have b2 : Below w.heap.size w (((((w.alloc (.cells o1 u1)).alloc (.cells o2 u2)).drewN q1).alloc (.cells o3 u3)).alloc (.cells o4 u4)) := by ((repeat (first | with_reducible exact Below.refl _ _ | with_reducible apply below_drewN | with_reducible apply Below.drew | (with_reducible refine Below.alloc ?_ ?_ _) | (with_reducible refine Below.setCell ?_ ?_ _) | (with_reducible refine Below.trans ?_ (hb4.mono ?_)) | (with_reducible refine Below.trans ?_ (hb3.mono ?_)) | (with_reducible refine Below.trans ?_ (hb2.mono ?_)))); all_goals (first | (simp <;> omega) | (have h2s := hb2.size; (try simp at h2s); (try simp); omega) | (have h2s := hb2.size; have h3s := hb3.size; (try simp at h2s); (try simp at h3s); (try simp); omega) | (have h2s := hb2.size; have h3s := hb3.size; have h4s := hb4.size; (try simp at h2s); (try simp at h3s); (try simp at h4s); (try simp); omega)))
          have b3 : Below w.heap.size w ((((((w.alloc (.cells o1 u1)).alloc (.cells o2 u2)).drewN q1).alloc (.cells o3 u3)).alloc (.cells o4 u4)).drewN q2) := below_drewN b2 _
          clear b1 b2
          generalize ((((((w.alloc (.cells o1 u1)).alloc (.cells o2 u2)).drewN q1).alloc (.cells o3 u3)).alloc (.cells o4 u4)).drewN q2) = w3 at b3 ⊢
          go_wp2_with fail
          refine (sumOf_any _ _ xs _ _ HN.out h3 (HX.out.next b3) W1.out).mono ?_; rintro e w4 ⟨rfl, rfl⟩
          go_wp2_with fail
          refine (sumOf_any _ _ ys _ _ HM.out h4 (HY.out.next b3) W2.out).mono ?_; rintro e w4 ⟨rfl, rfl⟩
          go_wp2_with fail
          go_ret2
          exact jret (jun_yes G1.out G2.out (by rw [HN.out, HM.out]; exact ⟨h3, h4⟩)) b3
        · go_enter Try.func27, Try.ntmps27
          go_wp2_with (first | (go_at_call 68; first | ((with_reducible refine (allWithin_any A c xs n 0 100000 _ HN.out (by omega) HX.out).mono ?_); rw [G1.out]; rintro e w1 ⟨rfl, o1, o2, u1, u2, q1, rfl⟩) | ((with_reducible refine (allWithin_any B d ys m 0 100000 _ HM.out (by omega) (HY.out.next (by ((repeat (first | with_reducible exact Below.refl _ _ | with_reducible apply below_drewN | with_reducible apply Below.drew | (with_reducible refine Below.alloc ?_ ?_ _) | (with_reducible refine Below.setCell ?_ ?_ _) | (with_reducible refine Below.trans ?_ (hb4.mono ?_)) | (with_reducible refine Below.trans ?_ (hb3.mono ?_)) | (with_reducible refine Below.trans ?_ (hb2.mono ?_)))); all_goals (first | (simp <;> omega) | (have h2s := hb2.size; (try simp at h2s); (try simp); omega) | (have h2s := hb2.size; have h3s := hb3.size; (try simp at h2s); (try simp at h3s); (try simp); omega) | (have h2s := hb2.size; have h3s := hb3.size; have h4s := hb4.size; (try simp at h2s); (try simp at h3s); (try simp at h4s); (try simp); omega)))))).mono ?_); rw [G2.out]; rintro e w1 ⟨rfl, o3, o4, u3, u4, q2, rfl⟩)))
          go_ret2
          exact jret (jun_full G1.out G2.out (by rw [HN.out, HM.out]; omega)) (by ((repeat (first | with_reducible exact Below.refl _ _ | with_reducible apply below_drewN | with_reducible apply Below.drew | (with_reducible refine Below.alloc ?_ ?_ _) | (with_reducible refine Below.setCell ?_ ?_ _) | (with_reducible refine Below.trans ?_ (hb4.mono ?_)) | (with_reducible refine Below.trans ?_ (hb3.mono ?_)) | (with_reducible refine Below.trans ?_ (hb2.mono ?_)))); all_goals (first | (simp <;> omega) | (have h2s := hb2.size; (try simp at h2s); (try simp); omega) | (have h2s := hb2.size; have h3s := hb3.size; (try simp at h2s); (try simp at h3s); (try simp); omega) | (have h2s := hb2.size; have h3s := hb3.size; have h4s := hb4.size; (try simp at h2s); (try simp at h3s); (try simp at h4s); (try simp); omega))))
      · go_enter Try.func27, Try.ntmps27
        go_wp2_with (first | (go_at_call 68; first | ((with_reducible refine (allWithin_any A c xs n 0 100000 _ HN.out (by omega) HX.out).mono ?_); rw [G1.out]; rintro e w1 ⟨rfl, o1, o2, u1, u2, q1, rfl⟩) | ((with_reducible refine (allWithin_any B d ys m 0 100000 _ HM.out (by omega) (HY.out.next (by ((repeat (first | with_reducible exact Below.refl _ _ | with_reducible apply below_drewN | with_reducible apply Below.drew | (with_reducible refine Below.alloc ?_ ?_ _) | (with_reducible refine Below.setCell ?_ ?_ _) | (with_reducible refine Below.trans ?_ (hb4.mono ?_)) | (with_reducible refine Below.trans ?_ (hb3.mono ?_)) | (with_reducible refine Below.trans ?_ (hb2.mono ?_)))); all_goals (first | (simp <;> omega) | (have h2s := hb2.size; (try simp at h2s); (try simp); omega) | (have h2s := hb2.size; have h3s := hb3.size; (try simp at h2s); (try simp at h3s); (try simp); omega) | (have h2s := hb2.size; have h3s := hb3.size; have h4s := hb4.size; (try simp at h2s); (try simp at h3s); (try simp at h4s); (try simp); omega)))))).mono ?_); rw [G2.out]; rintro e w1 ⟨rfl, o3, o4, u3, u4, q2, rfl⟩)))
        go_ret2
        exact jret (jun_full G1.out G2.out (by rw [HN.out, HM.out]; omega)) (by ((repeat (first | with_reducible exact Below.refl _ _ | with_reducible apply below_drewN | with_reducible apply Below.drew | (with_reducible refine Below.alloc ?_ ?_ _) | (with_reducible refine Below.setCell ?_ ?_ _) | (with_reducible refine Below.trans ?_ (hb4.mono ?_)) | (with_reducible refine Below.trans ?_ (hb3.mono ?_)) | (with_reducible refine Below.trans ?_ (hb2.mono ?_)))); all_goals (first | (simp <;> omega) | (have h2s := hb2.size; (try simp at h2s); (try simp); omega) | (have h2s := hb2.size; have h3s := hb3.size; (try simp at h2s); (try simp at h3s); (try simp); omega) | (have h2s := hb2.size; have h3s := hb3.size; have h4s := hb4.size; (try simp at h2s); (try simp at h3s); (try simp at h4s); (try simp); omega))))
    · have G1 := Lib.hid g1
      have G2 := Lib.hid (by simpa using g2 : allB ys 0 100000 = false)
      clear g1 g2
      go_enter Try.func27, Try.ntmps27
      go_wp2_with fail
      refine (allWithin_any _ _ xs _ 0 100000 _ HN.out (by omega) HX.out).mono ?_; rw [G1.out]; rintro e w1 ⟨rfl, o1, o2, u1, u2, q1, rfl⟩
      have b1 : Below w.heap.size w (((w.alloc (.cells o1 u1)).alloc (.cells o2 u2)).drewN q1) := by ((repeat (first | with_reducible exact Below.refl _ _ | with_reducible apply below_drewN | with_reducible apply Below.drew | (with_reducible refine Below.alloc ?_ ?_ _) | (with_reducible refine Below.setCell ?_ ?_ _) | (with_reducible refine Below.trans ?_ (hb4.mono ?_)) | (with_reducible refine Below.trans ?_ (hb3.mono ?_)) | (with_reducible refine Below.trans ?_ (hb2.mono ?_)))); all_goals (first | (simp <;> omega) | (have h2s := hb2.size; (try simp at h2s); (try simp); omega) | (have h2s := hb2.size; have h3s := hb3.size; (try simp at h2s); (try simp at h3s); (try simp); omega) | (have h2s := hb2.size; have h3s := hb3.size; have h4s := hb4.size; (try simp at h2s); (try simp at h3s); (try simp at h4s); (try simp); omega)))
      go_wp2_with fail
      refine (allWithin_any _ _ ys _ 0 100000 _ HM.out (by omega) (HY.out.next b1)).mono ?_; rw [G2.out]; rintro e w1 ⟨rfl, o3, o4, u3, u4, q2, rfl⟩
      go_wp2_with fail
      go_ret2
      exact jret (jun_no (.inr G2.out)) (by ((repeat (first | with_reducible exact Below.refl _ _ | with_reducible apply below_drewN | with_reducible apply Below.drew | (with_reducible refine Below.alloc ?_ ?_ _) | (with_reducible refine Below.setCell ?_ ?_ _) | (with_reducible refine Below.trans ?_ (hb4.mono ?_)) | (with_reducible refine Below.trans ?_ (hb3.mono ?_)) | (with_reducible refine Below.trans ?_ (hb2.mono ?_)))); all_goals (first | (simp <;> omega) | (have h2s := hb2.size; (try simp at h2s); (try simp); omega) | (have h2s := hb2.size; have h3s := hb3.size; (try simp at h2s); (try simp at h3s); (try simp); omega) | (have h2s := hb2.size; have h3s := hb3.size; have h4s := hb4.size; (try simp at h2s); (try simp at h3s); (try simp at h4s); (try simp); omega))))
  · have G1 := Lib.hid (by simpa using g1 : allB xs 0 100000 = false)
    clear g1
    go_enter Try.func27, Try.ntmps27
    go_wp2_with fail
    refine (allWithin_any _ _ xs _ 0 100000 _ HN.out (by omega) HX.out).mono ?_; rw [G1.out]; rintro e w1 ⟨rfl, o1, o2, u1, u2, q1, rfl⟩
    go_wp2_with fail
    go_ret2
    exact jret (jun_no (.inl G1.out)) (by ((repeat (first | with_reducible exact Below.refl _ _ | with_reducible apply below_drewN | with_reducible apply Below.drew | (with_reducible refine Below.alloc ?_ ?_ _) | (with_reducible refine Below.setCell ?_ ?_ _) | (with_reducible refine Below.trans ?_ (hb4.mono ?_)) | (with_reducible refine Below.trans ?_ (hb3.mono ?_)) | (with_reducible refine Below.trans ?_ (hb2.mono ?_)))); all_goals (first | (simp <;> omega) | (have h2s := hb2.size; (try simp at h2s); (try simp); omega) | (have h2s := hb2.size; have h3s := hb3.size; (try simp at h2s); (try simp at h3s); (try simp); omega) | (have h2s := hb2.size; have h3s := hb3.size; have h4s := hb4.size; (try simp at h2s); (try simp at h3s); (try simp at h4s); (try simp); omega))))

set_option maxHeartbeats 600000 in
theorem junS_any (A B : Option Addr) (c d : Nat) (xs ys : List Int) (n m : Nat) (w : World) (hn : xs.length = n) (hm : ys.length = m) (h1 : n ≤ 1048576) (h2 : m ≤ 1048576) (hx : Ints w w.heap.size A xs) (hy : Ints w w.heap.size B ys) :
    Calls Try.prog 29 #[.slice A n c, .slice B m d] w (JunPost xs ys w) := by
  have HX := Lib.hid hx
  have HY := Lib.hid hy
  have HN := Lib.hid hn
  have HM := Lib.hid hm
  clear hx hy hn hm
  go_enter Try.func29, Try.ntmps29
  go_wp2_with fail
  go_loopw [6] (fun i wr => ∃ k : Nat, k ≤ n ∧ i = .int .i64 k ∧ allB (xs.take k) 0 100000 = true ∧ w = wr) (fun i _ => n - (intOf i).toNat)
  case atStart => exact ⟨0, Nat.zero_le _, rfl, allB_zero _ _ _, rfl⟩
  case round =>
    obtain ⟨k, hk, rfl, hall, rfl⟩ := hrel
    have HA := Lib.hid hall
    clear hall
    by_cases hlt : k < n
    · obtain ⟨b, off, rfl, hb, hc⟩ := HX.out.at_ (k := k) (by have := HN.out; omega)
      by_cases hi' : inB (atI xs k) 0 100000 = true
      · have HS := Lib.hid (allB_take xs 0 100000 k (by have := HN.out; omega))
        go_wp2_with (go_at_call 69; refine (l00In_is _ _ _ _ _ hi').mono ?_; rintro e w' ⟨rfl, rfl⟩)
        go_roundw
        case rel => exact ⟨k + 1, by omega, by go_num, by rw [HS.out, HA.out, hi']; rfl, by first | exact rfl | trivial⟩
        case measure => simp [intOf]; omega
      · simp only [Bool.not_eq_true] at hi'
        have HF := Lib.hid (allB_no xs 0 100000 k (by have := HN.out; omega) hi')
        go_wp2_with (go_at_call 69; refine (l00In_is _ _ _ _ _ hi').mono ?_; rintro e w' ⟨rfl, rfl⟩)
        go_ret2
        exact jret (jun_no (.inl HF.out)) (Below.refl _ _)
    · obtain rfl : k = n := by omega
      have G1 := Lib.hid ((allB_all xs 0 100000 k HN.out).symm.trans HA.out)
      go_wp2_with fail
      go_loopw [7] (fun i wr => ∃ k : Nat, k ≤ m ∧ i = .int .i64 k ∧ allB (ys.take k) 0 100000 = true ∧ w = wr) (fun i _ => m - (intOf i).toNat)
      case atStart => exact ⟨0, Nat.zero_le _, rfl, allB_zero _ _ _, rfl⟩
      case round =>
        obtain ⟨j, hj, rfl, hall, rfl⟩ := hrel
        have HA := Lib.hid hall
        clear hall
        by_cases hlt2 : j < m
        · obtain ⟨b, off, rfl, hb, hc⟩ := HY.out.at_ (k := j) (by have := HM.out; omega)
          by_cases hi' : inB (atI ys j) 0 100000 = true
          · have HS := Lib.hid (allB_take ys 0 100000 j (by have := HM.out; omega))
            go_wp2_with (go_at_call 69; refine (l00In_is _ _ _ _ _ hi').mono ?_; rintro e w' ⟨rfl, rfl⟩)
            go_roundw
            case rel => exact ⟨j + 1, by omega, by go_num, by rw [HS.out, HA.out, hi']; rfl, by first | exact rfl | trivial⟩
            case measure => simp [intOf]; omega
          · simp only [Bool.not_eq_true] at hi'
            have HF := Lib.hid (allB_no ys 0 100000 j (by have := HM.out; omega) hi')
            go_wp2_with (go_at_call 69; refine (l00In_is _ _ _ _ _ hi').mono ?_; rintro e w' ⟨rfl, rfl⟩)
            go_ret2
            exact jret (jun_no (.inr HF.out)) (Below.refl _ _)
        · obtain rfl : j = m := by omega
          have G2 := Lib.hid ((allB_all ys 0 100000 j HM.out).symm.trans HA.out)
          by_cases h3 : k ≤ 64
          · by_cases h4 : j ≤ 64
            · have W1 := Lib.hid (wide_of G1.out)
              have W2 := Lib.hid (wide_of G2.out)
              have s1 := sum_bd64 xs k HN.out h3 W1.out
              have s2 := sum_bd64 ys j HM.out h4 W2.out
              go_wp2_with fail
              refine (l05Sum_any _ _ xs _ _ HN.out h3 HX.out W1.out).mono ?_; rintro e w4 ⟨rfl, rfl⟩
              go_wp2_with fail
              refine (l05Sum_any _ _ ys _ _ HM.out h4 HY.out W2.out).mono ?_; rintro e w4 ⟨rfl, rfl⟩
              go_wp2_with fail
              go_ret2
              exact jret (jun_yes G1.out G2.out (by rw [HN.out, HM.out]; exact ⟨h3, h4⟩)) (Below.refl _ _)
            · go_wp2_with fail
              go_ret2
              exact jret (jun_full G1.out G2.out (by rw [HN.out, HM.out]; omega)) (Below.refl _ _)
          · go_wp2_with fail
            go_ret2
            exact jret (jun_full G1.out G2.out (by rw [HN.out, HM.out]; omega)) (Below.refl _ _)

theorem law_JunctionError (A : Option Addr) (n c : Nat) (xs : List Int) (hn : xs.length = n) (hm : n ≤ maxLen) (hw : ∀ z ∈ xs, -9223372036854775808 ≤ z ∧ z ≤ 9223372036854775807) (B : Option Addr) (m d : Nat) (ys : List Int) (hn2 : ys.length = m) (hm2 : m ≤ maxLen) (hw2 : ∀ z ∈ ys, -9223372036854775808 ≤ z ∧ z ≤ 9223372036854775807) (w : World) (hx : Ints w w.heap.size A xs) (hy : Ints w w.heap.size B ys) :
    Calls Try.prog 7 #[.slice A n c, .slice B m d] w fun e w' => e = .returned (.bool true) ∧ Below w.heap.size w w' := by
  unfold maxLen at hm hm2
  have HX := Lib.hid hx
  have HN := Lib.hid hn
  have HY := Lib.hid hy
  have HM := Lib.hid hn2
  clear hx hn hw hy hn2 hw2
  by_cases h20 : 1048576 < n
  · go_enter Try.func7, Try.ntmps7
    go_wp2_with fail
    go_ret
    exact ⟨rfl, by ((repeat (first | with_reducible exact Below.refl _ _ | with_reducible apply below_drewN | with_reducible apply Below.drew | (with_reducible refine Below.alloc ?_ ?_ _) | (with_reducible refine Below.setCell ?_ ?_ _) | (with_reducible refine Below.trans ?_ (hb4.mono ?_)) | (with_reducible refine Below.trans ?_ (hb3.mono ?_)) | (with_reducible refine Below.trans ?_ (hb2.mono ?_)))); all_goals (first | (simp <;> omega) | (have h2s := hb2.size; (try simp at h2s); (try simp); omega) | (have h2s := hb2.size; have h3s := hb3.size; (try simp at h2s); (try simp at h3s); (try simp); omega) | (have h2s := hb2.size; have h3s := hb3.size; have h4s := hb4.size; (try simp at h2s); (try simp at h3s); (try simp at h4s); (try simp); omega)))⟩
  · have h20 : n ≤ 1048576 := by omega
    by_cases h21 : 1048576 < m
    · go_enter Try.func7, Try.ntmps7
      go_wp2_with fail
      go_ret
      exact ⟨rfl, by ((repeat (first | with_reducible exact Below.refl _ _ | with_reducible apply below_drewN | with_reducible apply Below.drew | (with_reducible refine Below.alloc ?_ ?_ _) | (with_reducible refine Below.setCell ?_ ?_ _) | (with_reducible refine Below.trans ?_ (hb4.mono ?_)) | (with_reducible refine Below.trans ?_ (hb3.mono ?_)) | (with_reducible refine Below.trans ?_ (hb2.mono ?_)))); all_goals (first | (simp <;> omega) | (have h2s := hb2.size; (try simp at h2s); (try simp); omega) | (have h2s := hb2.size; have h3s := hb3.size; (try simp at h2s); (try simp at h3s); (try simp); omega) | (have h2s := hb2.size; have h3s := hb3.size; have h4s := hb4.size; (try simp at h2s); (try simp at h3s); (try simp at h4s); (try simp); omega)))⟩
    · have h21 : m ≤ 1048576 := by omega
      go_enter Try.func7, Try.ntmps7
      go_wp2_with fail
      refine (toI_any _ _ xs _ _ HN.out h20 HX.out).mono ?_; rintro e w1 ⟨g1, rfl, i1, b1, _, _⟩
      go_wp2_with fail
      refine (toI_any _ _ ys _ _ HM.out h21 (HY.out.next b1)).mono ?_; rintro e w2 ⟨g2, rfl, i2, b2, _, _⟩
      go_wp2_with fail
      refine (junS_any _ _ _ _ xs ys _ _ _ HN.out HM.out h20 h21 (i1.next b2) i2).mono ?_; rintro e w3 ⟨rfl, b3⟩
      have c3 := stepB (stepB b1 b2) b3
      go_wp2_with fail
      refine (toI_any _ _ xs _ _ HN.out h20 (HX.out.next c3)).mono ?_; rintro e w4 ⟨g4, rfl, i4, b4, _, _⟩
      go_wp2_with fail
      refine (toI_any _ _ ys _ _ HM.out h21 (HY.out.next (stepB c3 b4))).mono ?_; rintro e w5 ⟨g5, rfl, i5, b5, _, _⟩
      go_wp2_with fail
      refine (junP_any _ _ _ _ xs ys _ _ _ HN.out HM.out h20 h21 (i4.next b5) i5).mono ?_; rintro e w6 ⟨rfl, b6⟩
      have c6 := stepB (stepB (stepB c3 b4) b5) b6
      have j4 := (i4.next b5).next b6
      have j5 := i5.next b6
      go_wp2_with fail
      refine (toI_any _ _ xs _ _ HN.out h20 (HX.out.next c6)).mono ?_; rintro e w7 ⟨g7, rfl, i7, b7, _, _⟩
      go_wp2_with fail
      refine (eqI_same _ _ _ _ xs _ _ HN.out (by omega) (j4.next b7) i7).mono ?_; rintro e w8 ⟨rfl, b8⟩
      have c8 := stepB (stepB c6 b7) b8
      go_wp2_with fail
      refine (toI_any _ _ ys _ _ HM.out h21 (HY.out.next c8)).mono ?_; rintro e w9 ⟨g9, rfl, i9, b9, _, _⟩
      go_wp2_with fail
      refine (eqI_same _ _ _ _ ys _ _ HM.out (by omega) (((j5.next b7).next b8).next b9) i9).mono ?_; rintro e w10 ⟨rfl, b10⟩
      go_wp2_with fail
      go_ret
      exact ⟨rfl, stepB (stepB c8 b9) b10⟩

/-! ### the row of FnExactJunctionError: the arguments are opened, the walk is met, each argument reads behind the call as before -/
namespace fnExactJunctionError
open Go.ChangeShapes Go.WideShapes Go.ChangeAt Go.RowKit Go.Joins
open Go.ChangeMaps (open_string shut_string)
set_option linter.unusedVariables false
set_option maxRecDepth 100000 in
theorem lifted (os : Os) (started : os.Started) (H : Type) (enc : TypeId × Value → H) :
    ReturnsInHanded {} Try.checked os 7 .any (Rows.fnExactJunctionErrorSpec.pre6 enc Try.prog Try.f7 Rows.fnExactJunctionErrorRow.domain false) (Rows.fnExactJunctionErrorSpec.post enc Try.prog Try.f7 false true false false) := by
  refine returnsInHanded_of_change (C := Try.checked) own started (by kernel_rfl) Try.func7
    (ChangeSpec.witness6 (enc := enc) (C := Try.checked) false ⟨#[], #[.slice none 0 0, .slice none 0 0], []⟩ 8 (by kernel_rfl) (by kernel_rfl) (by kernel_rfl) (by kernel_rfl)) ?_
  intro W base args ds gs before hval0 hW hcnd _
  have hval : ∀ (j : Nat) t v, Try.f7.params[j]? = some t → args[j]? = some v → Value.okWide Try.prog W .any base t v := hval0
  have hW' := hW
  obtain ⟨p, q, hA0, hV, rfl, hfz, hnd⟩ := hW
  have hA : DataW.TrodAll enc Try.prog W 0 (fun _ => true) true Try.f7.params.toList args.toList ds p := hA0
  rw [Try.params7] at hA hval
  obtain ⟨v0, vs0, d0, ds0, p0, q0, hargs, rfl, rfl, h0, r0⟩ := trodAll_cons hA
  obtain ⟨v1, vs1, d1, ds1, p1, q1, rfl, rfl, rfl, h1, r1⟩ := trodAll_cons r0
  obtain ⟨rfl, rfl, rfl⟩ := trodAll_nil r1
  obtain rfl : args = #[v0, v1] := by cases args; simp_all
  obtain ⟨rfl, rfl⟩ := trodVars_none hV
  clear hA0 hval0
  simp only [List.append_nil] at hW'
  have lt0 : ∀ x ∈ p0, x.block < W.heap.size := fun x hx => by simpa using hW'.lt x (by simp [hx])
  have k0 := h0
  have lt1 : ∀ x ∈ p1, x.block < W.heap.size := fun x hx => by simpa using hW'.lt x (by simp [hx])
  have k1 := h1
  obtain ⟨A0, len0, cap0, rfl⟩ := okWide_slice Try.underlying31 (hval 0 31 v0 rfl rfl)
  obtain ⟨xs0, hn0, hm0, hw0, hx0⟩ := view_ints Try.underlying31 Try.underlying2 (by kernel_rfl) h0
  obtain ⟨A1, len1, cap1, rfl⟩ := okWide_slice Try.underlying31 (hval 1 31 v1 rfl rfl)
  obtain ⟨xs1, hn1, hm1, hw1, hx1⟩ := view_ints Try.underlying31 Try.underlying2 (by kernel_rfl) h1
  refine (law_JunctionError A0 len0 cap0 xs0 hn0 hm0 hw0 A1 len1 cap1 xs1 hn1 hm1 hw1 W hx0 hx1).mono fun e W' ⟨he, hb⟩ => ?_
  subst he
  exact ⟨_, rfl, _, _, _, _, _, [], hW', (trodAll_cons_mk (shut_bool Try.underlying4 _) trodAll_mk0), (trodAll_cons_mk (Below.trod laidOut (by kernel_rfl) (of_decide_eq_true (by kernel_rfl)) k0 hb lt0) (trodAll_cons_mk (Below.trod laidOut (by kernel_rfl) (of_decide_eq_true (by kernel_rfl)) k1 hb lt1) trodAll_mk0)), rfl, hb.frame _, fun h => by cases h⟩

theorem proved : Rows.FnExactJunctionErrorSaid :=
  OpenClaim.holds_of_wide 7 Try.f7 rfl rfl rfl rfl rfl rfl rfl ⟨rfl, rfl, rfl, rfl, rfl⟩ rfl rfl rfl rfl rfl (by kernel_rfl) Try.func7 (by kernel_rfl)
    (of_decide_eq_true (by kernel_rfl)) (by unfold Func.isWrapper; first | (rw [if_pos (by decide +kernel)]; kernel_rfl) | (rw [if_neg (by decide +kernel)]; exact ⟨rfl, rfl⟩))
    (fun os started H enc _ => lifted os started H enc)
#print axioms proved
end fnExactJunctionError
end Go.Proofs.Ytjpmbjhkolgiiaa
