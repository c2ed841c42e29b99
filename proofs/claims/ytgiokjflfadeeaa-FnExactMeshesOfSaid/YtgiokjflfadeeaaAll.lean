/-
  The contracts of all, l04All and slices.Min.
-/
import Derived.Test.YtgiokjflfadeeaaTree
namespace Go.Proofs.Ytgiokjflfadeeaa
open Go.RowKit
set_option linter.unusedVariables false

set_option maxHeartbeats 1000000 in
theorem l04All_any (g : Nat) (but : Int) (A : Option Addr) (n c : Nat) (w : World) (h20 : n ≤ 1048576) (hb : but < 0) (m1 : w.cell? ⟨g, 1, none⟩ = some (.slice A n c)) :
    Calls Try.prog 41 #[.pointer (some ⟨g, 0, none⟩), .int .i64 but] w (OnePost (labL (fun a => (a : Int)) n) w) := by
  have M1 := Lib.hid m1
  clear m1
  go_enter Try.func41, Try.ntmps41
  go_wp2_with fail
  go_loopw [5, 6] (fun v t wr => ∃ k : Nat, k ≤ n ∧ t = .int .i64 (k : Int) ∧ OwnI wr w.heap.size v (labL (fun a => (a : Int)) k) ∧ Below w.heap.size w wr) (fun _ t _ => n - (intOf t).toNat)
  case atStart => exact ⟨0, Nat.zero_le _, rfl, OwnI.lit _ _ (Nat.le_refl _), (Below.refl _ _).alloc (Nat.le_refl _) _⟩
  case round =>
    obtain ⟨k, hk, rfl, ho, hb⟩ := hrel
    have HO := Lib.hid ho
    have HB := Lib.hid hb
    clear ho hb
    have n1 : wr.cell? ⟨g, 1, none⟩ = some (.slice A n c) := (HB.out.cell (World.block_lt_of_cell? w _ M1.out)).trans M1.out
    have HLEN := Lib.hid (labL_len (fun a => (a : Int)) k)
    by_cases hlt : k < n
    · have hki : (k : Int) < n := by omega
      have hne : ((k : Int) == but) = false := by simp; omega
      have hne2 : ((k : Int) != but) = true := by simp; omega
      go_wp2_with (at_builtin; refine push_law rfl (.tmp 20) (.tmp 22) rfl _ w.heap.size _ (labL (fun a => (a : Int)) k) (k : Int) rfl HO.out rfl (by rw [HLEN.out]; omega) HB.out.size ?_; intro v' w4 ho4 hg4 hl4; have HO4 := Lib.hid ho4; have HB4 := Lib.hid (below_grown (HB.out.alloc HB.out.size _) hg4 (fun g e => (HO.out.lt e).1) (by have := HB.out.size; simp; omega)); clear ho4 hg4 hl4)
      go_roundw
      case rel => exact ⟨k + 1, by omega, by go_num, by rw [labL_snoc]; exact HO4.out, HB4.out⟩
      case measure => simp [intOf]; omega
    · obtain rfl : k = n := by omega
      go_wp2_with fail
      go_ret
      exact ⟨_, rfl, HO.out, HB.out⟩

theorem own_cellsI (w : World) (B : Nat) (xs : List Int) (n : Nat) (hn : xs.length = n) (h20 : n ≤ 1048576) (hB : B ≤ w.heap.size) : OwnI (w.alloc (.cells (cellsI xs) 2)) B (.slice (some ⟨w.heap.size, 0, none⟩) n n) xs := by
  have h : (w.alloc (.cells (cellsI xs) 2)).ownsRow B 2 1 (.slice (some ⟨w.heap.size, 0, none⟩) n n) n (cellsI xs).toList :=
    World.ownsRow_lit w (cellsI xs) n hB (by simp [maxLen]; omega) (by simp [cellsI, hn])
  have e : (cellsI xs).toList = valsI xs := by simp [cellsI, valsI]
  unfold OwnI
  rw [hn, ← e]
  exact h
set_option maxHeartbeats 1000000 in
theorem all_any (j : Int) (A : Option Addr) (n c : Nat) (w : World) (h20 : n ≤ 1048576) :
    Calls Try.prog 44 #[.agg #[.int .i64 j, .slice A n c]] w (OnePost (labL (fun a => (a : Int)) n) w) := by
  have hmk := mk_ints n (by omega)
  have HLEN := Lib.hid (labL_len (fun a => (a : Int)) n)
  obtain ⟨xs, hxs⟩ : ∃ xs, xs = labL (fun a => (a : Int)) n := ⟨_, rfl⟩
  have HAT := Lib.hid (show ∀ k, k < n → atI xs k = (k : Int) from fun k hk => by rw [hxs]; exact labL_at _ n k hk)
  rw [← hxs] at HLEN ⊢
  clear hxs
  have HN := Lib.hid HLEN.out
  have HZ := Lib.hid (partI_zero xs)
  obtain ⟨W0, hW0⟩ : ∃ W0, W0 = w.alloc (.cells #[.int .i64 j, .slice A n c] 28) := ⟨_, rfl⟩
  have HW := Lib.hid hW0
  have HSZ := Lib.hid (show w.heap.size ≤ W0.heap.size by rw [hW0]; simp)
  have HB0 := Lib.hid (show Below w.heap.size w W0 by rw [hW0]; exact (Below.refl _ _).alloc (Nat.le_refl _) _)
  go_enter Try.func44, Try.ntmps44
  go_wp2_with fail
  clear hmk hW0
  go_loopw [11] (fun i wr => ∃ k : Nat, k ≤ n ∧ i = .int .i64 k ∧ wr = (w.alloc (.cells #[.int .i64 j, .slice A n c] 28)).alloc (.cells (partI xs k) 2)) (fun i _ => n - (intOf i).toNat)
  case atStart => exact ⟨0, Nat.zero_le _, rfl, by rw [HZ.out, HN.out]⟩
  case round =>
    obtain ⟨k, hk, rfl, rfl⟩ := hrel
    by_cases hlt : k < n
    · have hki : (k : Int) < n := by omega
      have hp := partI_at xs k (by have := HN.out; omega)
      have HS := Lib.hid (partI_set xs k (by have := HN.out; omega))
      have HA := Lib.hid (HAT.out k hlt)
      have hlt0 : (0 : Int) ≤ k := by omega
      go_wp2
      go_roundw
      case rel => exact ⟨k + 1, by omega, by go_num, by rw [← HA.out, HS.out]⟩
      case measure => simp [intOf]; omega
    · obtain rfl : k = n := by omega
      go_wp2_with fail
      go_ret
      have hpa := partI_all xs
      rw [HN.out] at hpa
      have hs := HSZ.out
      have hb0 := HB0.out
      rw [HW.out] at hs hb0
      have hE : (w.alloc (.cells #[.int .i64 j, .slice A k c] 28)).heap.size = w.heap.size + 1 := by simp
      have hO := own_cellsI (w.alloc (.cells #[.int .i64 j, .slice A k c] 28)) w.heap.size xs k HN.out h20 hs
      rw [hE] at hO
      exact ⟨_, rfl, by rw [hpa]; exact hO, hb0.alloc hs _⟩
end Go.Proofs.Ytgiokjflfadeeaa
