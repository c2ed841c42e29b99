/-
  The contract of slices.Min at numbers, and the least junction of a class.
-/
import Derived.Test.YtpeocfjbdgbmmaaAll
import Derived.Deep.Onto
namespace Go.Proofs.Ytpeocfjbdgbmmaa
open Go.RowKit
set_option linter.unusedVariables false

theorem min_left {a b : Int} (h : a ≤ b) : min a b = a := by omega
theorem min_right {a b : Int} (h : b ≤ a) : min a b = b := by omega
theorem at_one (xs : List Int) : ∀ i : Nat, i < 1 → atI xs 0 ≤ atI xs i := by
  intro i hi
  have h : i = 0 := by omega
  rw [h]; exact Int.le_refl _
set_option maxHeartbeats 1000000 in
theorem minL_any (A : Option Addr) (c : Nat) (xs : List Int) (n : Nat) (w : World) (hn : xs.length = n) (h1 : 1 ≤ n) (h40 : n ≤ 1099511627776) (hx : Ints w w.heap.size A xs) (q : Int) (hq : q ∈ xs) (hle : ∀ z, z ∈ xs → q ≤ z) :
    Calls Try.prog 71 #[.slice A n c] w fun e w' => e = .returned (.int .i64 q) ∧ w = w' := by
  have HX := Lib.hid hx
  have HN := Lib.hid hn
  obtain ⟨b, off, rfl, _, hc0⟩ := HX.out.at_ (k := 0) (by have := HN.out; omega)
  have HE := Lib.hid (show ∀ (k : Nat) (r : Int), k = n → (∀ i : Nat, i < k → r ≤ atI xs i) → (∃ i : Nat, i < k ∧ r = atI xs i) → r = q by
    intro k r hk ha ⟨i, hi, hr⟩
    have m1 : r ∈ xs := by rw [hr, atI_is xs i (by omega)]; exact List.getElem_mem _
    have m2 := hle r m1
    obtain ⟨i', hi', he'⟩ := List.getElem_of_mem hq
    have m3 := ha i' (by omega)
    rw [atI_is xs i' hi', he'] at m3
    omega)
  have hn1 : (1 : Int) ≤ n := by omega
  have hn0 : (0 : Int) < n := by omega
  have hn2 : ¬ (n : Int) < 1 := by omega
  rw [Nat.add_zero] at hc0
  clear hx hn hq hle
  go_enter Try.func71, Try.ntmps71
  go_wp2_with fail
  go_loopw [3, 4] (fun v t wr => ∃ (k : Nat) (r : Int), 1 ≤ k ∧ k ≤ n ∧ t = .int .i64 (k : Int) ∧ v = .int .i64 r ∧ (∀ i : Nat, i < k → r ≤ atI xs i) ∧ (∃ i : Nat, i < k ∧ r = atI xs i) ∧ w = wr) (fun _ t _ => n - (intOf t).toNat)
  case atStart => exact ⟨1, atI xs 0, Nat.le_refl _, h1, rfl, rfl, at_one xs, ⟨0, by omega, rfl⟩, rfl⟩
  case round =>
    obtain ⟨k, r, hk1, hk, rfl, rfl, ha, he, rfl⟩ := hrel
    have HA := Lib.hid ha
    have HI := Lib.hid he
    clear ha he
    by_cases hlt : k < n
    · obtain ⟨b', off', e, _, hc⟩ := HX.out.at_ (k := k) (by have := HN.out; omega)
      injection e with e; injection e with e1 e2
      subst e1 e2
      have hki : (k : Int) < n := by omega
      have hk0 : (0 : Int) ≤ k := by omega
      obtain ⟨z, hz⟩ : ∃ z, z = atI xs k := ⟨_, rfl⟩
      rw [← hz] at hc
      have HZ := Lib.hid hz
      clear hz
      by_cases hr : r ≤ z
      · have hm := min_left hr
        have HR := Lib.hid hr
        go_wp2_with fail
        go_roundw
        case rel =>
          refine ⟨k + 1, r, by omega, by omega, by go_num, by first | rfl | (congr 1; have := HR.out; omega) | (congr 1), fun i hi => ?_, ?_, by first | exact rfl | trivial⟩
          · by_cases e : i = k
            · subst e; rw [← HZ.out]; exact HR.out
            · exact HA.out i (by omega)
          · obtain ⟨i, hi, h⟩ := HI.out
            exact ⟨i, by omega, h⟩
        case measure => simp [intOf]; omega
      · have hm := min_right (show z ≤ r by omega)
        have HR := Lib.hid hr
        go_wp2_with fail
        go_roundw
        case rel =>
          refine ⟨k + 1, z, by omega, by omega, by go_num, by first | rfl | (congr 1; have := HR.out; omega) | (congr 1), fun i hi => ?_, ⟨k, by omega, HZ.out⟩, by first | exact rfl | trivial⟩
          by_cases e : i = k
          · subst e; rw [← HZ.out]; omega
          · have := HA.out i (by omega); have := HR.out; omega
        case measure => simp [intOf]; omega
    · have hkn : k = n := by omega
      have hq := HE.out k r hkn HA.out HI.out
      subst hq
      subst hkn
      go_wp2_with fail
      go_ret
      exact ⟨rfl, rfl⟩

theorem Grow.least {xs : List AW} {es rs : List Int} {n m J u : Nat} (hends : ∀ k, k < n → (0 ≤ (atA xs k).u ∧ (atA xs k).u < J) ∧ (0 ≤ (atA xs k).v ∧ (atA xs k).v < J) ∧ (atA xs k).u ≠ (atA xs k).v) (hes : ∀ k, k < m → 0 ≤ atI es k ∧ atI es k < n)
    (hg : Grow xs es m J u rs rs.length 0) (hu : u < J) : partsF xs es m u ∈ rs ∧ ∀ z, z ∈ rs → partsF xs es m u ≤ z := by
  have hl := parts_labels xs es J m (edges_in hends hes)
  obtain ⟨h0, h1, h2⟩ := hl.low u hu
  refine ⟨?_, fun z hz => ?_⟩
  · have := (hg.fin (partsF xs es m u).toNat).2 h2
    rwa [Int.toNat_of_nonneg h0] at this
  · obtain ⟨b, rfl, hb, hc⟩ := hg.sub z hz
    exact hl.least hu hb hc

/-- the first k of ls, then noughts -/
def preL (ls : List Int) (k : Nat) : List Int := ls.take k ++ List.replicate (ls.length - k) 0
theorem preL_zero (ls : List Int) : preL ls 0 = List.replicate ls.length 0 := by simp [preL]
theorem preL_all (ls : List Int) : preL ls ls.length = ls := by simp [preL]
theorem preL_len (ls : List Int) (k : Nat) (h : k ≤ ls.length) : (preL ls k).length = ls.length := by simp [preL]; omega
theorem preL_set (ls : List Int) (k : Nat) (h : k < ls.length) : (preL ls k).set k (atI ls k) = preL ls (k + 1) := by
  apply List.ext_getElem?
  intro j
  rw [List.getElem?_set, preL_len ls k (by omega)]
  unfold preL
  rcases Nat.lt_trichotomy j k with hj | hj | hj
  · rw [if_neg (by omega), List.getElem?_append_left (by simp; omega), List.getElem?_append_left (by simp; omega)]
    simp [hj, show j < k + 1 by omega]
  · subst hj
    rw [if_pos rfl, if_pos h, List.getElem?_append_left (by simp; omega)]
    simp [atI_is, h]
  · rw [if_neg (by omega), List.getElem?_append_right (by simp; omega), List.getElem?_append_right (by simp; omega)]
    simp only [List.length_take, List.getElem?_replicate]
    have e1 : min k ls.length = k := by omega
    have e2 : min (k + 1) ls.length = k + 1 := by omega
    rw [e1, e2]
    by_cases hx : j < ls.length
    · rw [if_pos (by omega), if_pos (by omega)]
    · rw [if_neg (by omega), if_neg (by omega)]
theorem own_made (w : World) (B : Nat) (ls : List Int) (n : Nat) (hn : ls.length = n) (h20 : n ≤ 1048576) (hB : B ≤ w.heap.size) : OwnI (w.alloc (.cells (madeCells #[Value.int .i64 0] n) 2)) B (.slice (some ⟨w.heap.size, 0, none⟩) n n) (preL ls 0) := by
  have e : madeCells #[Value.int .i64 0] n = cellsI (preL ls 0) := by
    apply Array.ext'
    rw [toList_madeCells_one, preL_zero]; simp [cellsI, hn]
  rw [e]
  exact own_cellsI w B _ n (by simp [preL_zero, hn]) h20 hB
end Go.Proofs.Ytpeocfjbdgbmmaa
