/-
  The laws' marks over slices of airways, exactly: markAirwayS, heldAirwayS, markMine, heldMine.
-/
import Derived.Test.YtgiokjflfadeeaaMarkX
import Derived.Test.YtgiokjflfadeeaaOwnA
import Derived.Test.YtgiokjflfadeeaaMines
import Derived.Deep.RegionHeld3
import Derived.Test.YtgiokjflfadeeaaNum
import Derived.RowKit3
import Derived.ProofKit
import Derived.OpenShut
import Derived.Lib.SmallJoins
namespace Go.Proofs.Ytgiokjflfadeeaa
open Go.RowKit
set_option linter.unusedVariables false

/-- the airway that the marks leave at place k -/
def mkA (k : Nat) : AW := ⟨markT (1 + 7 * k), 1 + 7 * (k : Int) + 1, 1 + 7 * (k : Int) + 1 + 1, 1 + 7 * (k : Int) + 1 + 1 + 1, 1 + 7 * (k : Int) + 1 + 1 + 1 + 1, 1 + 7 * (k : Int) + 1 + 1 + 1 + 1 + 1, 1 + 7 * (k : Int) + 1 + 1 + 1 + 1 + 1 + 1⟩
def MkdA (w : World) (A : Option Addr) (n : Nat) : Prop := n = 0 ∨ ∃ g, A = some ⟨g, 0, none⟩ ∧ g < w.heap.size ∧ ∀ j, j < n → AirAt w g (j * 7) (mkA j)
theorem MkdA.next {w w' : World} {A : Option Addr} {n : Nat} (h : MkdA w A n) (hb : Below w.heap.size w w') : MkdA w' A n := by
  rcases h with h | ⟨g, h1, h2, h3⟩
  · exact .inl h
  · exact .inr ⟨g, h1, Nat.lt_of_lt_of_le h2 hb.size, fun j hj => (h3 j hj).below hb h2⟩
def MarkAPost (A : Option Addr) (n : Nat) (w : World) (e : Ending) (w' : World) : Prop := e = .returned (.int .i64 (1 + 7 * (n : Int))) ∧ MkdA w' A n ∧ w.grownBy w' (A.map (·.block))
theorem gA_set {w w' : World} {g : Nat} (h : w.grownBy w' (some g)) (o : Nat) (v : Value) : w.grownBy (w'.setCell ⟨g, o, none⟩ v) (some g) :=
  ⟨h.os, h.tape, h.output, by simpa using h.size, fun k hk hne => (Below.heap_setCell w' _ v k (by simpa using hne)).trans (h.block k hk hne)⟩
theorem gA_below {w w' w'' : World} {r : Option Nat} (h : w.grownBy w' r) (hb : Below w'.heap.size w' w'') : w.grownBy w'' r :=
  ⟨hb.os.trans h.os, hb.tape.trans h.tape, hb.output.trans h.output, Nat.le_trans h.size hb.size, fun k hk hne => (hb.block k (Nat.lt_of_lt_of_le hk h.size)).trans (h.block k hk hne)⟩
def MkW (g n k : Nat) (w wr : World) : Prop := w.grownBy wr (some g) ∧ ∃ cur, wr.heap[g]? = some (.cells cur 51 (0, 0)) ∧ n * 7 ≤ cur.size ∧ ∀ j, j < k → ∀ i, i < 7 → cur[j * 7 + i]? = (fieldsA (mkA j))[i]?
theorem mkW_step {g n k : Nat} {w wr : World} (h : MkW g n k w wr) (hk : k < n) :
    MkW g n (k + 1) w (((((((wr.setCell ⟨g, k * 7, none⟩ (.string (mkA k).a)).setCell ⟨g, k * 7 + 1, none⟩ (.int .i64 (mkA k).u)).setCell ⟨g, k * 7 + 2, none⟩ (.int .i64 (mkA k).v)).setCell ⟨g, k * 7 + 3, none⟩ (.int .i64 (mkA k).l)).setCell ⟨g, k * 7 + 4, none⟩ (.int .i64 (mkA k).s)).setCell ⟨g, k * 7 + 5, none⟩ (.int .i64 (mkA k).f)).setCell ⟨g, k * 7 + 6, none⟩ (.int .i64 (mkA k).k)) := by
  obtain ⟨hb, cur, h1, h2, h3⟩ := h
  refine ⟨gA_set (gA_set (gA_set (gA_set (gA_set (gA_set (gA_set hb _ _) _ _) _ _) _ _) _ _) _ _) _ _, _, heap_set (heap_set (heap_set (heap_set (heap_set (heap_set (heap_set h1 _ _) _ _) _ _) _ _) _ _) _ _) _ _, by simpa using h2, fun j hj i hi => ?_⟩
  have s0 : k * 7 < cur.size := by omega
  have s1 : k * 7 + 1 < cur.size := by omega
  have s2 : k * 7 + 2 < cur.size := by omega
  have s3 : k * 7 + 3 < cur.size := by omega
  have s4 : k * 7 + 4 < cur.size := by omega
  have s5 : k * 7 + 5 < cur.size := by omega
  have s6 : k * 7 + 6 < cur.size := by omega
  simp only [Array.getElem?_setIfInBounds, Array.size_setIfInBounds]
  by_cases e : j = k
  · subst e
    generalize mkA j = x
    unfold fieldsA
    rcases (by omega : i = 0 ∨ i = 1 ∨ i = 2 ∨ i = 3 ∨ i = 4 ∨ i = 5 ∨ i = 6) with rfl | rfl | rfl | rfl | rfl | rfl | rfl <;> simp [s0, s1, s2, s3, s4, s5, s6]
  · rw [if_neg (by omega), if_neg (by omega), if_neg (by omega), if_neg (by omega), if_neg (by omega), if_neg (by omega), if_neg (by omega)]
    exact h3 j (by omega) i hi
theorem mkW_cells {g n k : Nat} {w wr : World} (h : MkW g n k w wr) (hk : k < n) :
    (∀ o, wr.frozen? ⟨g, o, none⟩ = false) ∧ ∃ z0 z1 z2 z3 z4 z5 z6, wr.cell? ⟨g, k * 7, none⟩ = some z0 ∧ wr.cell? ⟨g, k * 7 + 1, none⟩ = some z1 ∧ wr.cell? ⟨g, k * 7 + 2, none⟩ = some z2 ∧ wr.cell? ⟨g, k * 7 + 3, none⟩ = some z3 ∧ wr.cell? ⟨g, k * 7 + 4, none⟩ = some z4 ∧ wr.cell? ⟨g, k * 7 + 5, none⟩ = some z5 ∧ wr.cell? ⟨g, k * 7 + 6, none⟩ = some z6 := by
  obtain ⟨hb, cur, h1, h2, h3⟩ := h
  have hc : ∀ o, o < n * 7 → wr.cell? ⟨g, o, none⟩ = some (cur[o]?.getD (.bool false)) := fun o ho => by
    rw [cell_of_row wr g o cur _ _ h1]; rw [Array.getElem?_eq_getElem (by omega)]; rfl
  exact ⟨fun o => by simp [World.frozen?, h1], _, _, _, _, _, _, _, hc _ (by omega), hc _ (by omega), hc _ (by omega), hc _ (by omega), hc _ (by omega), hc _ (by omega), hc _ (by omega)⟩
theorem mkW_next {g n k : Nat} {w wr w1 : World} (h : MkW g n k w wr) (hb1 : Below wr.heap.size wr w1) : MkW g n k w w1 := by
  obtain ⟨hb, cur, h1, h2, h3⟩ := h
  refine ⟨gA_below hb hb1, cur, (hb1.block g ?_).trans h1, h2, h3⟩
  apply Classical.byContradiction; intro hx
  rw [Array.getElem?_eq_none (by omega)] at h1; cases h1
theorem mkW_done {g n : Nat} {w wr : World} (h : MkW g n n w wr) (hg : g < wr.heap.size) : MkdA wr (some ⟨g, 0, none⟩) n := by
  obtain ⟨hb, cur, h1, h2, h3⟩ := h
  refine .inr ⟨g, rfl, hg, fun j hj => ?_⟩
  have hc : ∀ i, i < 7 → wr.cell? ⟨g, j * 7 + i, none⟩ = (fieldsA (mkA j))[i]? := fun i hi => by
    rw [cell_of_row wr g _ cur _ _ h1, h3 j hj i hi]
  exact ⟨hc 0 (by omega), hc 1 (by omega), hc 2 (by omega), hc 3 (by omega), hc 4 (by omega), hc 5 (by omega), hc 6 (by omega)⟩
set_option maxHeartbeats 1000000 in
set_option maxRecDepth 100000 in
theorem markA_is (A : Option Addr) (c : Nat) (xs : List AW) (n B : Nat) (w : World) (hn : xs.length = n) (h20 : n ≤ 1048577) (hB : B ≤ w.heap.size) (ho : OwnA w B (.slice A n c) xs) :
    Calls Try.prog 37 #[.slice A n c, .int .i64 1] w (MarkAPost A n w) := by
  subst hn
  by_cases h0 : 0 < xs.length
  · obtain ⟨g, c', cur, hv, hBg, hg, hh, hs⟩ := ho.block h0
    injection hv with hA _ _
    subst hA
    generalize xs.length = n at *
    have H0 := Lib.hid (show MkW g n 0 w w from ⟨World.grownBy.refl w _, cur, hh, hs, fun j hj => absurd hj (by omega)⟩)
    clear ho hh hs
    go_enter Try.func37, Try.ntmps37
    go_wp2_with fail
    go_loopw [1, 5] (fun t i wr => ∃ k : Nat, k ≤ n ∧ i = .int .i64 (k : Int) ∧ t = .int .i64 (1 + 7 * (k : Int)) ∧ MkW g n k w wr) (fun _ i _ => n - (intOf i).toNat)
    case atStart => exact ⟨0, Nat.zero_le _, rfl, rfl, H0.out⟩
    case round =>
      obtain ⟨k, hk, rfl, rfl, hr⟩ := hrel
      have HR := Lib.hid hr
      clear hr
      by_cases hlt : k < n
      · have hki : (k : Int) < n := by omega
        go_wp2_with fail
        refine (markTextI_is _ _ (by omega) (by omega)).mono ?_; rw [show (1 + 7 * (k : Int)).toNat = 1 + 7 * k by omega]; rintro e w1 ⟨rfl, b1⟩
        have HR1 := Lib.hid (mkW_next HR.out b1)
        obtain ⟨hf, z0, z1, z2, z3, z4, z5, z6, d0, d1, d2, d3, d4, d5, d6⟩ := mkW_cells HR1.out hlt
        clear b1
        go_wp2_with fail
        go_roundw
        case rel => exact ⟨k + 1, by omega, by go_num, congrArg (Value.int .i64) (by omega), mkW_step HR1.out hlt⟩
        case measure => simp [intOf]; omega
      · obtain rfl : k = n := by omega
        have HM := Lib.hid (mkW_done HR.out (Nat.lt_of_lt_of_le hg HR.out.1.size))
        have HB := Lib.hid HR.out.1
        go_wp2_with fail
        go_ret
        exact ⟨rfl, HM.out, HB.out⟩
  · have hz : xs.length = 0 := by omega
    have hb := World.grownBy.refl w (A.map (·.block))
    rw [hz]
    clear ho hz h0
    go_enter Try.func37, Try.ntmps37
    go_wp2_with fail
    refine wp_loop_rounds 1 ?_
    rw [rounds_succ]
    go_wp2_with fail
    go_ret
    exact ⟨rfl, .inl rfl, hb⟩
theorem MkdA.at_ {w : World} {g n : Nat} (h : MkdA w (some ⟨g, 0, none⟩) n) {k : Nat} (hk : k < n) : AirAt w g (k * 7) (mkA k) := by
  rcases h with h | ⟨g', e1, e2, e3⟩
  · omega
  · injection e1 with e1; injection e1 with e1; subst e1; exact e3 k hk
set_option maxHeartbeats 1000000 in
set_option maxRecDepth 100000 in
theorem heldA_is (A : Option Addr) (c : Nat) (n : Nat) (w : World) (h20 : n ≤ 1048577) (hm : MkdA w A n) :
    Calls Try.prog 38 #[.slice A n c, .int .i64 1] w fun e w' => e = .returned (.int .i64 (1 + 7 * (n : Int))) ∧ Below w.heap.size w w' := by
  rcases hm with rfl | ⟨g, rfl, hg, hc⟩
  · go_enter Try.func38, Try.ntmps38
    go_wp2_with fail
    refine wp_loop_rounds 1 ?_
    rw [rounds_succ]
    go_wp2_with fail
    go_ret
    exact ⟨rfl, Below.refl _ _⟩
  · have HC := Lib.hid (show MkdA w (some ⟨g, 0, none⟩) n from .inr ⟨g, rfl, hg, hc⟩)
    clear hc
    go_enter Try.func38, Try.ntmps38
    go_wp2_with fail
    go_loopw [1, 5] (fun t i wr => ∃ k : Nat, k ≤ n ∧ i = .int .i64 (k : Int) ∧ t = .int .i64 (1 + 7 * (k : Int)) ∧ Below w.heap.size w wr) (fun _ i _ => n - (intOf i).toNat)
    case atStart => exact ⟨0, Nat.zero_le _, rfl, rfl, Below.refl _ _⟩
    case round =>
      obtain ⟨k, hk, rfl, rfl, hb⟩ := hrel
      have HB := Lib.hid hb
      clear hb
      by_cases hlt : k < n
      · have hki : (k : Int) < n := by omega
        have HA := Lib.hid ((HC.out.next HB.out).at_ hlt)
        obtain ⟨p, hp⟩ : ∃ p, p = markT (1 + 7 * k) := ⟨_, rfl⟩
        have HZ := Lib.hid (show wr.cell? ⟨g, k * 7, none⟩ = some (.string p) by rw [hp]; exact HA.out.c0)
        have HP := Lib.hid hp
        have hpp : (p.toList == p.toList) = true := beq_self_eq_true _
        clear hp
        go_wp2_with fail
        go_region_held3 (fun w' => w'.cell? ⟨g, k * 7, none⟩ = some (.string p)) (first | exact HZ.out | exact (bq.cell (World.block_lt_of_cell? _ _ HZ.out)).trans HZ.out)
          ((go_at_call 59; refine (markTextI_is _ _ (by omega) (by omega)).mono ?_; rw [show (1 + 7 * (k : Int)).toNat = 1 + 7 * k by omega, ← HP.out]; rintro e w1 ⟨rfl, bq⟩))
        have HB1 := Lib.hid (stepB HB.out (below_undrew bq))
        obtain ⟨_, f1, f2, f3, f4, f5, f6⟩ := HA.out.below (below_undrew bq) (World.block_lt_of_cell? _ _ HZ.out)
        unfold mkA at f1 f2 f3 f4 f5 f6
        dsimp only at f1 f2 f3 f4 f5 f6
        clear bq
        go_wp2_with fail
        go_roundw
        case rel => exact ⟨k + 1, by omega, by go_num, congrArg (Value.int .i64) (by omega), HB1.out⟩
        case measure => simp [intOf]; omega
      · obtain rfl : k = n := by omega
        go_wp2_with fail
        go_ret
        exact ⟨rfl, HB.out⟩
theorem markM_is (j : Int) (A : Option Addr) (c : Nat) (xs : List AW) (n B : Nat) (w : World) (hn : xs.length = n) (h20 : n ≤ 1048577) (hB : B ≤ w.heap.size) (ho : OwnA w B (.slice A n c) xs) :
    Calls Try.prog 12 #[.agg #[.int .i64 j, .slice A n c], .int .i64 1] w (MarkAPost A n w) := by
  have b0 : Below w.heap.size w (w.alloc (.cells #[.int .i64 j, .slice A n c] 28)) := (Below.refl _ _).alloc (Nat.le_refl _) _
  have HO := Lib.hid (ho.below b0)
  have B0 := Lib.hid b0
  have hsz := b0.size
  clear ho b0
  go_enter Try.func12, Try.ntmps12
  go_wp2_with fail
  refine (markA_is A c xs n B _ hn h20 (Nat.le_trans hB hsz) HO.out).mono ?_; rintro e w1 ⟨rfl, hm, hb⟩
  have HM := Lib.hid hm
  have HB := Lib.hid ((World.grownBy_alloc w _ _).trans hb)
  clear hm hb
  go_wp2_with fail
  go_ret
  exact ⟨rfl, HM.out, HB.out⟩
theorem heldM_is (j : Int) (A : Option Addr) (c : Nat) (n : Nat) (w : World) (h20 : n ≤ 1048577) (hm : MkdA w A n) :
    Calls Try.prog 13 #[.agg #[.int .i64 j, .slice A n c], .int .i64 1] w fun e w' => e = .returned (.int .i64 (1 + 7 * (n : Int))) ∧ Below w.heap.size w w' := by
  have b0 : Below w.heap.size w (w.alloc (.cells #[.int .i64 j, .slice A n c] 28)) := (Below.refl _ _).alloc (Nat.le_refl _) _
  have HM := Lib.hid (hm.next b0)
  have B0 := Lib.hid b0
  have hn0 : (0 : Int) ≤ (n : Int) := by omega
  clear hm b0
  go_enter Try.func13, Try.ntmps13
  go_wp2_with fail
  refine (heldA_is A c n _ h20 HM.out).mono ?_; rintro e w1 ⟨rfl, hb⟩
  have HB := Lib.hid (stepB B0.out hb)
  clear hb
  go_wp2_with fail
  go_ret
  exact ⟨rfl, HB.out⟩
end Go.Proofs.Ytgiokjflfadeeaa
