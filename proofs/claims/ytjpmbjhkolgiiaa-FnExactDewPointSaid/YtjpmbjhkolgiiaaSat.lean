/-
  The contracts of the two saturations: both read one table and take a line between two of its numbers.
-/
import Derived.Test.YtjpmbjhkolgiiaaLine
namespace Go.Proofs.Ytjpmbjhkolgiiaa
open Go.RowKit
set_option linter.unusedVariables false

def tabL : List Int := [286, 421, 611, 872, 1228, 1705, 2339, 3169, 4246, 5628, 7384, 9593, 12350, 15760, 19940]
def tabN (k : Nat) : Int := tabL.getD k 0
theorem tab_bd (k : Nat) (h : k ≤ 14) : 286 ≤ tabN k ∧ tabN k ≤ 19940 := by
  rcases (by omega : k = 0 ∨ k = 1 ∨ k = 2 ∨ k = 3 ∨ k = 4 ∨ k = 5 ∨ k = 6 ∨ k = 7 ∨ k = 8 ∨ k = 9 ∨ k = 10 ∨ k = 11 ∨ k = 12 ∨ k = 13 ∨ k = 14) with rfl | rfl | rfl | rfl | rfl | rfl | rfl | rfl | rfl | rfl | rfl | rfl | rfl | rfl | rfl <;> decide
def tabC : Array Value := #[.int .i64 286, .int .i64 421, .int .i64 611, .int .i64 872, .int .i64 1228, .int .i64 1705, .int .i64 2339, .int .i64 3169, .int .i64 4246, .int .i64 5628, .int .i64 7384, .int .i64 9593, .int .i64 12350, .int .i64 15760, .int .i64 19940]
theorem tab_at (k : Nat) (h : k ≤ 14) : tabC[k]? = some (.int .i64 (tabN k)) := by
  rcases (by omega : k = 0 ∨ k = 1 ∨ k = 2 ∨ k = 3 ∨ k = 4 ∨ k = 5 ∨ k = 6 ∨ k = 7 ∨ k = 8 ∨ k = 9 ∨ k = 10 ∨ k = 11 ∨ k = 12 ∨ k = 13 ∨ k = 14) with rfl | rfl | rfl | rfl | rfl | rfl | rfl | rfl | rfl | rfl | rfl | rfl | rfl | rfl | rfl <;> rfl
theorem cell_new (w : World) (cs : Array Value) (t : TypeId) (k : Nat) : (w.alloc (.cells cs t)).cell? ⟨w.heap.size, k, none⟩ = cs[k]? :=
  cell_of_row _ _ _ _ _ _ (heap_alloc_new w _)
def satK (k : Nat) (t : Int) : Int := lineF (-100 + 50 * k) (tabN k) (-100 + 50 * k + 50) (tabN (k + 1)) t
def satF (t : Int) : Int := satK (if (t + 100) / 50 ≤ 13 then ((t + 100) / 50).toNat else 13) t

theorem line_end (x0 y0 x1 y1 : Int) (h : x0 < x1) : lineF x0 y0 x1 y1 x1 = y1 := by
  unfold lineF; rw [if_neg (by omega), if_pos (by omega)]
theorem line_start (x0 y0 x1 y1 : Int) : lineF x0 y0 x1 y1 x0 = y0 := by
  unfold lineF; rw [if_pos (.inl (by omega))]
theorem sat_join (k : Nat) (t : Int) (hk : k ≤ 13) (h1 : -100 ≤ t) (h2 : t ≤ 600) (hp : 0 < k → -100 + 50 * (k : Int) < t) (hq : k = 13 ∨ t ≤ -50 + 50 * (k : Int)) : satK k t = satF t := by
  unfold satF
  by_cases hc : (t + 100) / 50 ≤ 13
  · rw [if_pos hc]
    by_cases he : ((t + 100) / 50).toNat = k
    · rw [he]
    · have hj : ((t + 100) / 50).toNat = k + 1 := by omega
      have ht : t = -100 + 50 * (k : Int) + 50 := by omega
      rw [hj]
      unfold satK
      rw [ht, line_end _ _ _ _ (by omega)]
      have e : -100 + 50 * (k : Int) + 50 = -100 + 50 * ((k + 1 : Nat) : Int) := by omega
      rw [e, line_start]
  · rw [if_neg hc]
    have hj : k = 13 := by omega
    rw [hj]

theorem satP_any (t : Int) (w : World) (h1 : -100 ≤ t) (h2 : t ≤ 600) :
    Calls Try.prog 59 #[.int .i64 t] w fun e w' => e = .returned (.int .i64 (satF t)) ∧ ∃ (c : Array Value) (t : TypeId) (q : Nat), w' = (w.alloc (.cells c t)).drewN q := by
  by_cases h3 : t ≤ 599
  · obtain ⟨k, hk⟩ : ∃ k : Nat, (t + 100) / 50 = (k : Int) := ⟨((t + 100) / 50).toNat, by omega⟩
    have hk13 : k ≤ 13 := by omega
    have hF := Lib.hid (show satF t = satK k t by unfold satF; rw [if_pos (by omega), hk]; rfl)
    have c0 : (w.alloc (.cells tabC 75)).cell? ⟨w.heap.size, k, none⟩ = some (.int .i64 (tabN k)) := (cell_new _ _ _ _).trans (tab_at k (by omega))
    have c1 : (w.alloc (.cells tabC 75)).cell? ⟨w.heap.size, k + 1, none⟩ = some (.int .i64 (tabN (k + 1))) := (cell_new _ _ _ _).trans (tab_at (k + 1) (by omega))
    have t0 := tab_bd k (by omega)
    have t1 := tab_bd (k + 1) (by omega)
    unfold tabC at c0 c1
    have i0 : (0 : Int) ≤ (k : Int) := by omega
    have i1 : (k : Int) < 15 := by omega
    have i2 : (0 : Int) ≤ (k : Int) + 1 := by omega
    have i3 : (k : Int) + 1 < 15 := by omega
    have e1 : IntKind.i64.wrap ((k : Int) + 1) = (k : Int) + 1 := IntWalk.i64_in _ (by omega)
    have e2 : IntKind.i64.wrap (-100 + 50 * (k : Int) + 50) = -100 + 50 * (k : Int) + 50 := IntWalk.i64_in _ (by omega)
    have e3 : ((k : Int) + 1).toNat = k + 1 := by omega
    have HB := Lib.hid (fun W : World => blend_any (-100 + 50 * (k : Int)) (tabN k) (-100 + 50 * (k : Int) + 50) (tabN (k + 1)) t W (by omega) (by omega) (by omega) (by omega) (by omega) (by omega) (by omega) (by omega))
    go_enter Try.func59, Try.ntmps59
    go_wp2_with fail
    go_quiet ((go_at_call 87; exact quiet_ex (HB.out _)))
    go_wp2_with fail
    go_ret
    exact ⟨ret_int hF.out.symm, _, _, _, rfl⟩
  · obtain rfl : t = 600 := by omega
    have hF := Lib.hid (show satF 600 = lineF 550 15760 600 19940 600 from rfl)
    have e1 : IntKind.i64.wrap 14 = 14 := IntWalk.i64_in _ (by omega)
    have e2 : IntKind.i64.wrap 600 = 600 := IntWalk.i64_in _ (by omega)
    go_enter Try.func59, Try.ntmps59
    go_wp2_with fail
    go_quiet ((go_at_call 87; exact quiet_ex (blend_any _ _ _ _ _ _ (by omega) (by omega) (by omega) (by omega) (by omega) (by omega) (by omega) (by omega))))
    go_wp2_with fail
    go_ret
    exact ⟨ret_int hF.out.symm, _, _, _, rfl⟩

theorem satS_any (t : Int) (w : World) (h1 : -100 ≤ t) (h2 : t ≤ 600) :
    Calls Try.prog 56 #[.int .i64 t] w fun e w' => e = .returned (.int .i64 (satF t)) ∧ ∃ (c : Array Value) (t : TypeId) (q : Nat), w' = (w.alloc (.cells c t)).drewN q := by
  go_enter Try.func56, Try.ntmps56
  go_wp2_with fail
  go_loop [4] (fun v => ∃ k : Nat, k ≤ 13 ∧ v = .int .i64 k ∧ (0 < k → -100 + 50 * (k : Int) < t)) (fun v => (13 - intOf v).toNat)
  case atStart => exact ⟨0, by omega, rfl, by omega⟩
  case round =>
    obtain ⟨k, hk, rfl, hp⟩ := hrel
    have HP := Lib.hid hp
    clear hp
    by_cases hc : k < 13 ∧ -50 + 50 * (k : Int) < t
    · obtain ⟨hc1, hc2⟩ := hc
      go_wp2_with fail
      go_round
      case rel => exact ⟨k + 1, by omega, by go_num, fun _ => by omega⟩
      case measure => simp [intOf]; omega
    · have c0 : (w.alloc (.cells tabC 2)).cell? ⟨w.heap.size, k, none⟩ = some (.int .i64 (tabN k)) := (cell_new _ _ _ _).trans (tab_at k (by omega))
      have c1 : (w.alloc (.cells tabC 2)).cell? ⟨w.heap.size, k + 1, none⟩ = some (.int .i64 (tabN (k + 1))) := (cell_new _ _ _ _).trans (tab_at (k + 1) (by omega))
      have t0 := tab_bd k (by omega)
      have t1 := tab_bd (k + 1) (by omega)
      unfold tabC at c0 c1
      have HC := Lib.hid hc
      clear hc
      by_cases h13 : k < 13
      · have hle : t ≤ -50 + 50 * (k : Int) := by have := HC.out; omega
        have hF := Lib.hid (sat_join k t (by omega) h1 h2 HP.out (by omega))
        have i0 : (0 : Int) ≤ (k : Int) := by omega
        have i1 : (k : Int) < 15 := by omega
        have i2 : (0 : Int) ≤ (k : Int) + 1 := by omega
        have i3 : (k : Int) + 1 < 15 := by omega
        have e1 : IntKind.i64.wrap ((k : Int) + 1) = (k : Int) + 1 := IntWalk.i64_in _ (by omega)
        have e2 : IntKind.i64.wrap (-100 + 50 * (k : Int) + 50) = -100 + 50 * (k : Int) + 50 := IntWalk.i64_in _ (by omega)
        have e3 : ((k : Int) + 1).toNat = k + 1 := by omega
        have HB := Lib.hid (fun W : World => l01Line_any (-100 + 50 * (k : Int)) (tabN k) (-100 + 50 * (k : Int) + 50) (tabN (k + 1)) t W (by omega) (by omega) (by omega) (by omega) (by omega) (by omega) (by omega) (by omega))
        go_wp2_with fail
        go_quiet ((go_at_call 86; first | exact quiet_ex (HB.out _) | exact quiet_add_ex (HB.out _)))
        go_wp2_with fail
        go_ret
        exact ⟨ret_int hF.out, _, _, _, rfl⟩
      · obtain rfl : k = 13 := by omega
        have hF := Lib.hid (sat_join 13 t (by omega) h1 h2 HP.out (by omega))
        have i0 : IntKind.i64.wrap 14 = 14 := IntWalk.i64_in _ (by omega)
        have i1 : IntKind.i64.wrap 600 = 600 := IntWalk.i64_in _ (by omega)
        have HB := Lib.hid (fun W : World => l01Line_any 550 15760 600 19940 t W (by omega) (by omega) (by omega) (by omega) (by omega) (by omega) (by omega) (by omega))
        go_wp2_with fail
        go_quiet ((go_at_call 86; first | exact quiet_ex (HB.out _) | exact quiet_add_ex (HB.out _)))
        go_wp2_with fail
        go_ret
        exact ⟨ret_int hF.out, _, _, _, rfl⟩
end Go.Proofs.Ytjpmbjhkolgiiaa
