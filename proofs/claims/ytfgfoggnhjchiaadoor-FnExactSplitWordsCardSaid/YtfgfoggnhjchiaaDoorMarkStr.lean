/-
  The laws' comparison and marks over slices of strings: eqStringS, markStringS, heldStringS.
-/
import Derived.Test.YtfgfoggnhjchiaaDoorMarkX
import Derived.Test.YtfgfoggnhjchiaaDoorOwnS
import Derived.Test.YtfgfoggnhjchiaaDoorOwn
import Derived.Test.YtfgfoggnhjchiaaDoorAirs
import Derived.Deep.RegionHeld3
import Derived.Test.YtfgfoggnhjchiaaDoorNum
import Derived.RowKit3
import Derived.ProofKit
import Derived.OpenShut
import Derived.Lib.SmallJoins
namespace Go.Proofs.YtfgfoggnhjchiaaDoor
open Go.RowKit
set_option linter.unusedVariables false

theorem eqS_same (A1 A2 : Option Addr) (c1 c2 : Nat) (xs : List ByteArray) (n : Nat) (w : World) (hn : xs.length = n) (h20 : n ≤ 1099511627776) (h1 : Strs w A1 xs) (h2 : Strs w A2 xs) :
    Calls Tryd.prog 17 #[.slice A1 n c1, .slice A2 n c2] w fun e w' => e = .returned (.bool true) ∧ Below w.heap.size w w' := by
  have H1 := Lib.hid h1
  have H2 := Lib.hid h2
  have HN := Lib.hid hn
  clear h1 h2 hn
  go_enter Tryd.func17, Tryd.ntmps17
  go_wp2
  go_loopw [5] (fun i wr => ∃ k : Nat, k ≤ n ∧ i = .int .i64 k ∧ ∃ q, wr = w.drewN q) (fun i _ => n - (intOf i).toNat)
  case atStart => exact ⟨0, Nat.zero_le _, rfl, 0, rfl⟩
  case round =>
    obtain ⟨k, hk, rfl, q, rfl⟩ := hrel
    by_cases hlt : k < n
    · obtain ⟨b, off, rfl, hb, hc⟩ := H1.out.at_ (k := k) (by have := HN.out; omega)
      obtain ⟨b', off', rfl, hb', hc'⟩ := H2.out.at_ (k := k) (by have := HN.out; omega)
      have hki : (k : Int) < n := by omega
      generalize atS xs k = p at hc hc'
      have hpp : (p.toList == p.toList) = true := beq_self_eq_true _
      go_wp2_with fail
      go_quiet (fail)
      go_wp2_with fail
      go_roundw
      case rel => exact ⟨k + 1, by omega, by go_num, _, rfl⟩
      case measure => simp [intOf]; omega
    · obtain rfl : k = n := by omega
      go_wp2_with fail
      go_ret
      exact ⟨rfl, below_drewN (Below.refl _ _) _⟩

theorem below_undr {w w1 : World} (h : Below w.drew.heap.size w.drew w1) : Below w.heap.size w w1 := ⟨h.os, h.tape, h.output, h.size, h.block⟩
theorem OwnS.block {w : World} {B : Nat} {v : Value} {xs : List ByteArray} (h : OwnS w B v xs) (h0 : 0 < xs.length) :
    ∃ g c cur, v = .slice (some ⟨g, 0, none⟩) xs.length c ∧ B ≤ g ∧ g < w.heap.size ∧ w.heap[g]? = some (.cells cur 9 (0, 0)) ∧ xs.length ≤ cur.size ∧ True := by
  unfold OwnS at h
  rcases h.2 with ⟨hv, h0⟩ | ⟨g, cap, cur, hv, hbg, hh, hnc, hcm, hsz, htake⟩
  · omega
  · subst hv
    exact ⟨g, cap, cur, rfl, hbg, (World.ownsRow.lt h g rfl).2, hh, by omega, trivial⟩
def MkdS (w : World) (A : Option Addr) (n : Nat) : Prop := n = 0 ∨ ∃ g, A = some ⟨g, 0, none⟩ ∧ g < w.heap.size ∧ ∀ j, j < n → w.cell? ⟨g, j, none⟩ = some (.string (markT (1 + j)))
theorem MkdS.next {w w' : World} {A : Option Addr} {n : Nat} (h : MkdS w A n) (hb : Below w.heap.size w w') : MkdS w' A n := by
  rcases h with h | ⟨g, h1, h2, h3⟩
  · exact .inl h
  · exact .inr ⟨g, h1, Nat.lt_of_lt_of_le h2 hb.size, fun j hj => (hb.cell (by simpa using h2)).trans (h3 j hj)⟩
def MarkSPost (A : Option Addr) (n B : Nat) (w : World) (e : Ending) (w' : World) : Prop := e = .returned (.int .i64 (1 + (n : Int))) ∧ MkdS w' A n ∧ Below B w w'
def MkS (g n k B : Nat) (w wr : World) : Prop := Below B w wr ∧ ∃ cur, wr.heap[g]? = some (.cells cur 9 (0, 0)) ∧ n ≤ cur.size ∧ ∀ j, j < k → cur[j]? = some (.string (markT (1 + j)))
theorem mkS_step {g n k B : Nat} {w wr : World} (h : MkS g n k B w wr) (hB : B ≤ g) (hk : k < n) : MkS g n (k + 1) B w (wr.setCell ⟨g, k, none⟩ (.string (markT (1 + k)))) := by
  obtain ⟨hb, cur, h1, h2, h3⟩ := h
  refine ⟨hb.setCell (by simpa using hB) _, _, heap_set h1 _ _, by simpa using h2, fun j hj => ?_⟩
  rw [Array.getElem?_setIfInBounds]
  by_cases e : k = j
  · subst e; rw [if_pos rfl, if_pos (by omega)]
  · rw [if_neg e]; exact h3 j (by omega)
theorem mkS_cell {g n k B : Nat} {w wr : World} (h : MkS g n k B w wr) (hk : k < n) : (∃ z, wr.cell? ⟨g, k, none⟩ = some z) ∧ wr.frozen? ⟨g, k, none⟩ = false := by
  obtain ⟨hb, cur, h1, h2, h3⟩ := h
  exact ⟨⟨_, by rw [cell_of_row wr g k cur _ _ h1]; exact Array.getElem?_eq_getElem (by omega)⟩, by simp [World.frozen?, h1]⟩
theorem mkS_next {g n k B : Nat} {w wr w1 : World} (h : MkS g n k B w wr) (hB : B ≤ wr.heap.size) (hb1 : Below wr.heap.size wr w1) : MkS g n k B w w1 := by
  obtain ⟨hb, cur, h1, h2, h3⟩ := h
  refine ⟨hb.trans (hb1.mono hB), cur, (hb1.block g ?_).trans h1, h2, h3⟩
  apply Classical.byContradiction; intro hx
  rw [Array.getElem?_eq_none (by omega)] at h1; cases h1
theorem markS_any (A : Option Addr) (c : Nat) (xs : List ByteArray) (n B : Nat) (w : World) (hn : xs.length = n) (h20 : n ≤ 1048577) (hB : B ≤ w.heap.size) (ho : OwnS w B (.slice A n c) xs) :
    Calls Tryd.prog 18 #[.slice A n c, .int .i64 1] w (MarkSPost A n B w) := by
  subst hn
  by_cases h0 : 0 < xs.length
  · obtain ⟨g, c', cur, hv, hBg, hg, hh, hs, hc⟩ := ho.block h0
    injection hv with hA _ _
    subst hA
    generalize xs.length = n at *
    have H0 := Lib.hid (show MkS g n 0 B w w from ⟨Below.refl _ _, cur, hh, hs, fun j hj => absurd hj (by omega)⟩)
    clear ho hh hs hc
    go_enter Tryd.func18, Tryd.ntmps18
    go_wp2_with fail
    go_loopw [1, 5] (fun t i wr => ∃ k : Nat, k ≤ n ∧ i = .int .i64 (k : Int) ∧ t = .int .i64 (1 + (k : Int)) ∧ MkS g n k B w wr) (fun _ i _ => n - (intOf i).toNat)
    case atStart => exact ⟨0, Nat.zero_le _, rfl, rfl, H0.out⟩
    case round =>
      obtain ⟨k, hk, rfl, rfl, hr⟩ := hrel
      have HR := Lib.hid hr
      clear hr
      by_cases hlt : k < n
      · have hki : (k : Int) < n := by omega
        go_wp2_with fail
        refine (markTextI_is _ _ (by omega) (by omega)).mono ?_; rw [show (1 + (k : Int)).toNat = 1 + k by omega]; rintro e w1 ⟨rfl, b1⟩
        have HR1 := Lib.hid (mkS_next HR.out (Nat.le_trans hB HR.out.1.size) b1)
        obtain ⟨⟨z, hz⟩, hf⟩ := mkS_cell HR1.out hlt
        clear b1
        go_wp2_with fail
        go_roundw
        case rel => exact ⟨k + 1, by omega, by go_num, congrArg (Value.int .i64) (by omega), mkS_step HR1.out hBg hlt⟩
        case measure => simp [intOf]; omega
      · obtain rfl : k = n := by omega
        obtain ⟨hb, cur', h1, h2, h3⟩ := HR.out
        have HM := Lib.hid (show MkdS wr (some ⟨g, 0, none⟩) k from .inr ⟨g, rfl, Nat.lt_of_lt_of_le hg hb.size, fun j hj => by rw [cell_of_row wr g j cur' _ _ h1]; exact h3 j hj⟩)
        have HB := Lib.hid hb
        clear h1 h2 h3 hb
        go_wp2_with fail
        go_ret
        exact ⟨rfl, HM.out, HB.out⟩
  · have hz : xs.length = 0 := by omega
    have hb := Below.refl B w
    rw [hz]
    clear ho hz h0
    go_enter Tryd.func18, Tryd.ntmps18
    go_wp2_with fail
    refine wp_loop_rounds 1 ?_
    rw [rounds_succ]
    go_wp2_with fail
    go_ret
    exact ⟨rfl, .inl rfl, hb⟩
theorem heldS_any (A : Option Addr) (c : Nat) (n : Nat) (w : World) (h20 : n ≤ 1048577) (hm : MkdS w A n) :
    Calls Tryd.prog 19 #[.slice A n c, .int .i64 1] w fun e w' => e = .returned (.int .i64 (1 + (n : Int))) ∧ Below w.heap.size w w' := by
  rcases hm with rfl | ⟨g, rfl, hg, hc⟩
  · go_enter Tryd.func19, Tryd.ntmps19
    go_wp2_with fail
    refine wp_loop_rounds 1 ?_
    rw [rounds_succ]
    go_wp2_with fail
    go_ret
    exact ⟨rfl, Below.refl _ _⟩
  · have HC := Lib.hid (show MkdS w (some ⟨g, 0, none⟩) n from .inr ⟨g, rfl, hg, hc⟩)
    clear hc
    go_enter Tryd.func19, Tryd.ntmps19
    go_wp2_with fail
    go_loopw [1, 5] (fun t i wr => ∃ k : Nat, k ≤ n ∧ i = .int .i64 (k : Int) ∧ t = .int .i64 (1 + (k : Int)) ∧ Below w.heap.size w wr) (fun _ i _ => n - (intOf i).toNat)
    case atStart => exact ⟨0, Nat.zero_le _, rfl, rfl, Below.refl _ _⟩
    case round =>
      obtain ⟨k, hk, rfl, rfl, hb⟩ := hrel
      have HB := Lib.hid hb
      clear hb
      by_cases hlt : k < n
      · have hki : (k : Int) < n := by omega
        have hz : wr.cell? ⟨g, k, none⟩ = some (.string (markT (1 + k))) := by
          rcases HC.out.next HB.out with h | ⟨g', e1, e2, e3⟩
          · omega
          · injection e1 with e1; injection e1 with e1; subst e1; exact e3 k hlt
        obtain ⟨p, hp⟩ : ∃ p, p = markT (1 + k) := ⟨_, rfl⟩
        rw [← hp] at hz
        have HP := Lib.hid hp
        have HZ := Lib.hid hz
        have hpp : (p.toList == p.toList) = true := beq_self_eq_true _
        clear hz hp
        go_wp2_with fail
        go_region_held3 (fun w' => w'.cell? ⟨g, k, none⟩ = some (.string p)) (first | exact HZ.out | exact (bq.cell (World.block_lt_of_cell? _ _ HZ.out)).trans HZ.out)
          ((go_at_call 52; refine (markTextI_is _ _ (by omega) (by omega)).mono ?_; rw [show (1 + (k : Int)).toNat = 1 + k by omega, ← HP.out]; rintro e w1 ⟨rfl, bq⟩))
        have HB1 := Lib.hid (stepB HB.out (below_undr bq))
        clear bq
        go_wp2_with fail
        go_roundw
        case rel => exact ⟨k + 1, by omega, by go_num, congrArg (Value.int .i64) (by omega), HB1.out⟩
        case measure => simp [intOf]; omega
      · obtain rfl : k = n := by omega
        go_wp2_with fail
        go_ret
        exact ⟨rfl, HB.out⟩
end Go.Proofs.YtfgfoggnhjchiaaDoor
