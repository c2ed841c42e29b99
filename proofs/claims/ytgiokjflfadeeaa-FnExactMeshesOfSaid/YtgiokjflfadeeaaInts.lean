/-
  Lists of integers behind slices: what a slice reads as; the contracts of the laws' own copy (toInt64S) and comparison (eqInt64S).
-/
import Derived.Test.YtgiokjflfadeeaaNum
import Derived.Deep.OwnRows
import Derived.Laws.OwnMore
namespace Go.Proofs.Ytgiokjflfadeeaa
open Go.RowKit
set_option linter.unusedVariables false

def atI (xs : List Int) (k : Nat) : Int := xs.getD k 0
def Ints (w : World) (B : Nat) (A : Option Addr) (xs : List Int) : Prop :=
  xs = [] ∨ ∃ b off, A = some ⟨b, off, none⟩ ∧ b < B ∧ ∀ k, k < xs.length → w.cell? ⟨b, off + k, none⟩ = some (.int .i64 (atI xs k))
theorem Ints.below {w w' : World} {B : Nat} {A : Option Addr} {xs : List Int} (h : Ints w B A xs) (hb : Below B w w') : Ints w' B A xs := by
  rcases h with h | ⟨b, off, h1, h2, h3⟩
  · exact .inl h
  · exact .inr ⟨b, off, h1, h2, fun k hk => (hb.cell (by simpa using h2)).trans (h3 k hk)⟩
theorem Ints.more {w : World} {B B' : Nat} {A : Option Addr} {xs : List Int} (h : Ints w B A xs) (hb : B ≤ B') : Ints w B' A xs := by
  rcases h with h | ⟨b, off, h1, h2, h3⟩
  · exact .inl h
  · exact .inr ⟨b, off, h1, by omega, h3⟩
theorem Ints.at_ {w : World} {B : Nat} {A : Option Addr} {xs : List Int} (h : Ints w B A xs) {k : Nat} (hk : k < xs.length) :
    ∃ b off, A = some ⟨b, off, none⟩ ∧ b < B ∧ w.cell? ⟨b, off + k, none⟩ = some (.int .i64 (atI xs k)) := by
  rcases h with h | ⟨b, off, h1, h2, h3⟩
  · rw [h] at hk; simp at hk
  · exact ⟨b, off, h1, h2, h3 k hk⟩

def cellsI (xs : List Int) : Array Value := (xs.map (Value.int .i64)).toArray
def partI (xs : List Int) (k : Nat) : Array Value := ((xs.take k).map (Value.int .i64) ++ List.replicate (xs.length - k) (Value.int .i64 0)).toArray
theorem atI_is (xs : List Int) (k : Nat) (h : k < xs.length) : atI xs k = xs[k] := by simp [atI, h]
theorem cellsI_at (xs : List Int) (k : Nat) (h : k < xs.length) : (cellsI xs)[k]? = some (.int .i64 (atI xs k)) := by simp [cellsI, atI_is, h]
theorem partI_zero (xs : List Int) : partI xs 0 = madeCells #[Value.int .i64 0] xs.length := by
  apply Array.ext'
  rw [toList_madeCells_one]; simp [partI]
theorem partI_size (xs : List Int) (k : Nat) (h : k ≤ xs.length) : (partI xs k).size = xs.length := by simp [partI]; omega
theorem partI_at (xs : List Int) (k : Nat) (h : k < xs.length) : (partI xs k)[k]? = some (.int .i64 0) := by
  simp only [partI, List.getElem?_toArray]
  rw [List.getElem?_append_right (by simp; omega)]
  have e : k - min k xs.length = 0 := by omega
  have e2 : 0 < xs.length - k := by omega
  simp [e, e2]
theorem partI_set (xs : List Int) (k : Nat) (h : k < xs.length) : (partI xs k).setIfInBounds k (.int .i64 (atI xs k)) = partI xs (k + 1) := by
  apply Array.ext'
  simp only [partI, Array.toList_setIfInBounds]
  apply List.ext_getElem?
  intro j
  rw [List.getElem?_set]
  have hlen : ((xs.take k).map (Value.int .i64) ++ List.replicate (xs.length - k) (Value.int .i64 0)).length = xs.length := by simp; omega
  rw [hlen]
  rcases Nat.lt_trichotomy j k with hj | hj | hj
  · rw [if_neg (by omega), List.getElem?_append_left (by simp; omega), List.getElem?_append_left (by simp; omega)]
    simp [hj, show j < k + 1 by omega]
  · subst hj
    rw [if_pos rfl, if_pos h, List.getElem?_append_left (by simp; omega)]
    simp [atI_is, h]
  · rw [if_neg (by omega), List.getElem?_append_right (by simp; omega), List.getElem?_append_right (by simp; omega)]
    simp only [List.length_map, List.length_take, List.getElem?_replicate]
    have e1 : min k xs.length = k := by omega
    have e2 : min (k + 1) xs.length = k + 1 := by omega
    rw [e1, e2]
    by_cases hx : j < xs.length
    · rw [if_pos (by omega), if_pos (by omega)]
    · rw [if_neg (by omega), if_neg (by omega)]
theorem partI_all (xs : List Int) : partI xs xs.length = cellsI xs := by simp [partI, cellsI]
theorem Ints.new (w : World) (xs : List Int) (t : TypeId) : Ints (w.alloc (.cells (cellsI xs) t)) (w.heap.size + 1) (some ⟨w.heap.size, 0, none⟩) xs := by
  refine .inr ⟨w.heap.size, 0, rfl, by omega, fun k hk => ?_⟩
  rw [World.cell?_alloc_at _ _ _ _ rfl, Nat.zero_add, cellsI_at _ _ hk]

theorem info_i : (Try.prog.info? 2).map (fun i => (i.zero, i.size, i.bytes)) = some (some (.int .i64 0), 1, 8) := by kernel_rfl
theorem mk_ints (n : Nat) (hn : n ≤ 17592186044416) (w : World) : (Instr.makeSlice 35 (.int .i64 (n : Int)) (.int .i64 (n : Int))).run Try.prog w = .ok (.slice (some ⟨w.heap.size, 0, none⟩) n n) (w.alloc (.cells (madeCells #[Value.int .i64 0] n) 2)) :=
  run_make_row' 35 2 (.int .i64 0) 8 Try.underlying35 info_i rfl .i64 .i64 n (by omega) (by omega) w

theorem eqInt64S_same (A1 A2 : Option Addr) (c1 c2 : Nat) (xs : List Int) (n : Nat) (w : World) (hn : xs.length = n) (h20 : n ≤ 1099511627776) (h1 : Ints w w.heap.size A1 xs) (h2 : Ints w w.heap.size A2 xs) :
    Calls Try.prog 16 #[.slice A1 n c1, .slice A2 n c2] w fun e w' => e = .returned (.bool true) ∧ ∃ q, w' = w.drewN q := by
  have H1 := Lib.hid h1
  have H2 := Lib.hid h2
  have HN := Lib.hid hn
  clear h1 h2 hn
  go_enter Try.func16, Try.ntmps16
  go_wp2
  go_loopw [5] (fun i wr => ∃ k : Nat, k ≤ n ∧ i = .int .i64 k ∧ ∃ q, wr = w.drewN q) (fun i _ => n - (intOf i).toNat)
  case atStart => exact ⟨0, Nat.zero_le _, rfl, 0, rfl⟩
  case round =>
    obtain ⟨k, hk, rfl, q, rfl⟩ := hrel
    by_cases hlt : k < n
    · obtain ⟨b, off, rfl, hb, hc⟩ := H1.out.at_ (k := k) (by have := HN.out; omega)
      obtain ⟨b', off', rfl, hb', hc'⟩ := H2.out.at_ (k := k) (by have := HN.out; omega)
      have hki : (k : Int) < n := by omega
      go_wp2_with fail
      go_quiet (fail)
      go_wp2_with fail
      go_roundw
      case rel => exact ⟨k + 1, by omega, by go_num, _, rfl⟩
      case measure => simp [intOf]; omega
    · obtain rfl : k = n := by omega
      go_wp2_with fail
      go_ret
      exact ⟨rfl, _, rfl⟩

theorem stepB {w w1 w2 : World} (h1 : Below w.heap.size w w1) (h2 : Below w1.heap.size w1 w2) : Below w.heap.size w w2 := h1.trans (h2.mono h1.size)
theorem Ints.next {w w' : World} {A : Option Addr} {xs : List Int} (h : Ints w w.heap.size A xs) (hb : Below w.heap.size w w') : Ints w' w'.heap.size A xs := (h.below hb).more hb.size
def ToIPost (xs : List Int) (n : Nat) (w : World) (e : Ending) (w' : World) : Prop :=
  ∃ g, e = .returned (.slice (some ⟨g, 0, none⟩) n n) ∧ Ints w' w'.heap.size (some ⟨g, 0, none⟩) xs ∧ Below w.heap.size w w' ∧ w'.heap[g]? = some (.cells (cellsI xs) 2 (0, 0)) ∧ w.heap.size ≤ g
theorem eqI_same (A1 A2 : Option Addr) (c1 c2 : Nat) (xs : List Int) (n : Nat) (w : World) (hn : xs.length = n) (h20 : n ≤ 1099511627776) (h1 : Ints w w.heap.size A1 xs) (h2 : Ints w w.heap.size A2 xs) :
    Calls Try.prog 16 #[.slice A1 n c1, .slice A2 n c2] w fun e w' => e = .returned (.bool true) ∧ Below w.heap.size w w' :=
  (eqInt64S_same A1 A2 c1 c2 xs n w hn h20 h1 h2).mono fun e w' ⟨he, q, hw⟩ => ⟨he, by subst hw; exact below_drewN (Below.refl _ _) _⟩
end Go.Proofs.Ytgiokjflfadeeaa
