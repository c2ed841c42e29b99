/-
  Mines: the contracts of the laws' own measure (szMine), copy (toMine) and comparison (eqMine).
-/
import Derived.Test.YtgiokjflfadeeaaAirs
import Derived.StillTailTactics
import Derived.Deep.RegionHeld3
namespace Go.Proofs.Ytgiokjflfadeeaa
open Go.RowKit
set_option linter.unusedVariables false

theorem below_keep {W w1 : World} (hb : Below W.heap.size W w1) :
    (∀ b o, b < W.heap.size → w1.cell? ⟨b, o, none⟩ = W.cell? ⟨b, o, none⟩) ∧ (∀ b o, b < W.heap.size → w1.frozen? ⟨b, o, none⟩ = W.frozen? ⟨b, o, none⟩) :=
  ⟨fun b o h => hb.cell (p := ⟨b, o, none⟩) h, fun b o h => hb.frozen (p := ⟨b, o, none⟩) h⟩
theorem RowA.set_other {w : World} {g n k : Nat} {xs : List AW} (h : RowA w g n k xs) (p : Addr) (v : Value) (hp : g ≠ p.block) : RowA (w.setCell p v) g n k xs := by
  obtain ⟨cur, h1, h2, h3⟩ := h
  exact ⟨cur, (Below.heap_setCell w p v g hp).trans h1, h2, h3⟩

theorem szMine_any (j : Int) (A : Option Addr) (c : Nat) (xs : List AW) (n : Nat) (left : Int) (w : World) (hn : xs.length = n) (hm : n ≤ maxLen) (h0 : 0 ≤ left) (h1 : left ≤ 1048576) (hs : ∀ k, k < n → (atA xs k).a.size ≤ maxLen) (hx : Airs w A xs) :
    Calls Try.prog 7 #[.agg #[.int .i64 j, .slice A n c], .int .i64 left] w (SzPost xs left w) := by
  have HX := Lib.hid hx
  have HN := Lib.hid hn
  have HS := Lib.hid hs
  clear hx hn hs
  go_enter Try.func7, Try.ntmps7
  go_wp2_with fail
  have b0 : Below w.heap.size w (w.alloc (.cells #[.int .i64 j, .slice A n c] 24)) := (Below.refl _ _).alloc (Nat.le_refl _) _
  refine (szAirwayS_any _ _ xs _ left _ HN.out hm h0 h1 HS.out (HX.out.next b0)).mono ?_; rintro e w1 ⟨r, rfl, hr, b1⟩
  have c1 := stepB b0 b1
  by_cases hr0 : r < 0
  · go_wp2_with fail
    go_ret
    exact ⟨_, rfl, .inl (by omega), c1⟩
  · have hr2 := hr.resolve_left hr0
    clear hr
    have HR := Lib.hid hr2
    clear hr2
    go_wp2_with fail
    go_ret
    exact ⟨_, rfl, .inr HR.out, c1⟩

theorem eqAirway_same (x : AW) (w : World) :
    Calls Try.prog 58 #[x.val, x.val] w fun e w' => e = .returned (.bool true) ∧ Below w.heap.size w w' := by
  unfold AW.val
  go_enter Try.func58, Try.ntmps58
  go_wp2_with fail
  go_ret
  exact ⟨rfl, by ((repeat (first | with_reducible exact Below.refl _ _ | with_reducible apply below_drewN | with_reducible apply Below.drew | (with_reducible refine Below.alloc ?_ ?_ _) | (with_reducible refine Below.setCell ?_ ?_ _) | (with_reducible refine Below.trans ?_ (hb4.mono ?_)) | (with_reducible refine Below.trans ?_ (hb3.mono ?_)) | (with_reducible refine Below.trans ?_ (hb2.mono ?_)))); all_goals (first | (simp <;> omega) | (have h2s := hb2.size; (try simp at h2s); (try simp); omega) | (have h2s := hb2.size; have h3s := hb3.size; (try simp at h2s); (try simp at h3s); (try simp); omega) | (have h2s := hb2.size; have h3s := hb3.size; have h4s := hb4.size; (try simp at h2s); (try simp at h3s); (try simp at h4s); (try simp); omega)))⟩
theorem below_undrew {w w1 : World} (h : Below w.drew.heap.size w.drew w1) : Below w.heap.size w w1 := ⟨h.os, h.tape, h.output, h.size, h.block⟩
theorem two_next {w w1 : World} {x : AW} {b o b2 o2 : Nat} (hb : Below w.heap.size w w1) (l1 : b < w.heap.size) (l2 : b2 < w.heap.size) (h : w.cell? ⟨b, o, none⟩ = some (.string x.a) ∧ w.cell? ⟨b, o + 1, none⟩ = some (.int .i64 x.u) ∧ w.cell? ⟨b, o + 2, none⟩ = some (.int .i64 x.v) ∧ w.cell? ⟨b, o + 3, none⟩ = some (.int .i64 x.l) ∧ w.cell? ⟨b, o + 4, none⟩ = some (.int .i64 x.s) ∧ w.cell? ⟨b, o + 5, none⟩ = some (.int .i64 x.f) ∧ w.cell? ⟨b, o + 6, none⟩ = some (.int .i64 x.k) ∧ w.cell? ⟨b2, o2, none⟩ = some (.string x.a) ∧ w.cell? ⟨b2, o2 + 1, none⟩ = some (.int .i64 x.u) ∧ w.cell? ⟨b2, o2 + 2, none⟩ = some (.int .i64 x.v) ∧ w.cell? ⟨b2, o2 + 3, none⟩ = some (.int .i64 x.l) ∧ w.cell? ⟨b2, o2 + 4, none⟩ = some (.int .i64 x.s) ∧ w.cell? ⟨b2, o2 + 5, none⟩ = some (.int .i64 x.f) ∧ w.cell? ⟨b2, o2 + 6, none⟩ = some (.int .i64 x.k)) : w1.cell? ⟨b, o, none⟩ = some (.string x.a) ∧ w1.cell? ⟨b, o + 1, none⟩ = some (.int .i64 x.u) ∧ w1.cell? ⟨b, o + 2, none⟩ = some (.int .i64 x.v) ∧ w1.cell? ⟨b, o + 3, none⟩ = some (.int .i64 x.l) ∧ w1.cell? ⟨b, o + 4, none⟩ = some (.int .i64 x.s) ∧ w1.cell? ⟨b, o + 5, none⟩ = some (.int .i64 x.f) ∧ w1.cell? ⟨b, o + 6, none⟩ = some (.int .i64 x.k) ∧ w1.cell? ⟨b2, o2, none⟩ = some (.string x.a) ∧ w1.cell? ⟨b2, o2 + 1, none⟩ = some (.int .i64 x.u) ∧ w1.cell? ⟨b2, o2 + 2, none⟩ = some (.int .i64 x.v) ∧ w1.cell? ⟨b2, o2 + 3, none⟩ = some (.int .i64 x.l) ∧ w1.cell? ⟨b2, o2 + 4, none⟩ = some (.int .i64 x.s) ∧ w1.cell? ⟨b2, o2 + 5, none⟩ = some (.int .i64 x.f) ∧ w1.cell? ⟨b2, o2 + 6, none⟩ = some (.int .i64 x.k) := by
  obtain ⟨a0, a1, a2, a3, a4, a5, a6, d0, d1, d2, d3, d4, d5, d6⟩ := h
  exact ⟨(hb.cell l1).trans a0, (hb.cell l1).trans a1, (hb.cell l1).trans a2, (hb.cell l1).trans a3, (hb.cell l1).trans a4, (hb.cell l1).trans a5, (hb.cell l1).trans a6, (hb.cell l2).trans d0, (hb.cell l2).trans d1, (hb.cell l2).trans d2, (hb.cell l2).trans d3, (hb.cell l2).trans d4, (hb.cell l2).trans d5, (hb.cell l2).trans d6⟩
set_option maxHeartbeats 400000 in
set_option maxRecDepth 100000 in
theorem eqAirwayS_same (A1 A2 : Option Addr) (c1 c2 : Nat) (xs : List AW) (n : Nat) (w : World) (hn : xs.length = n) (h20 : n ≤ 1099511627776) (h1 : Airs w A1 xs) (h2 : Airs w A2 xs) :
    Calls Try.prog 36 #[.slice A1 n c1, .slice A2 n c2] w fun e w' => e = .returned (.bool true) ∧ Below w.heap.size w w' := by
  have H1 := Lib.hid h1
  have H2 := Lib.hid h2
  have HN := Lib.hid hn
  clear h1 h2 hn
  go_enter Try.func36, Try.ntmps36
  go_wp2_with fail
  go_loopw [5] (fun i wr => ∃ k : Nat, k ≤ n ∧ i = .int .i64 k ∧ Below w.heap.size w wr) (fun i _ => n - (intOf i).toNat)
  case atStart => exact ⟨0, Nat.zero_le _, rfl, Below.refl _ _⟩
  case round =>
    obtain ⟨k, hk, rfl, hb⟩ := hrel
    have HB := Lib.hid hb
    clear hb
    by_cases hlt : k < n
    · obtain ⟨b, off, rfl, hb', hc⟩ := (H1.out.next HB.out).at_ (k := k) (by have := HN.out; omega)
      obtain ⟨b2, off2, rfl, hb2', hc2⟩ := (H2.out.next HB.out).at_ (k := k) (by have := HN.out; omega)
      obtain ⟨c0, c1, c2, c3, c4, c5, c6⟩ := hc
      obtain ⟨d0, d1, d2, d3, d4, d5, d6⟩ := hc2
      generalize atA xs k = x at c0 c1 c2 c3 c4 c5 c6 d0 d1 d2 d3 d4 d5 d6
      have hki : (k : Int) < n := by omega
      go_wp2_with fail
      go_region_held3 (fun w' => w'.cell? ⟨b, off + k * 7, none⟩ = some (.string x.a) ∧ w'.cell? ⟨b, off + k * 7 + 1, none⟩ = some (.int .i64 x.u) ∧ w'.cell? ⟨b, off + k * 7 + 2, none⟩ = some (.int .i64 x.v) ∧ w'.cell? ⟨b, off + k * 7 + 3, none⟩ = some (.int .i64 x.l) ∧ w'.cell? ⟨b, off + k * 7 + 4, none⟩ = some (.int .i64 x.s) ∧ w'.cell? ⟨b, off + k * 7 + 5, none⟩ = some (.int .i64 x.f) ∧ w'.cell? ⟨b, off + k * 7 + 6, none⟩ = some (.int .i64 x.k) ∧ w'.cell? ⟨b2, off2 + k * 7, none⟩ = some (.string x.a) ∧ w'.cell? ⟨b2, off2 + k * 7 + 1, none⟩ = some (.int .i64 x.u) ∧ w'.cell? ⟨b2, off2 + k * 7 + 2, none⟩ = some (.int .i64 x.v) ∧ w'.cell? ⟨b2, off2 + k * 7 + 3, none⟩ = some (.int .i64 x.l) ∧ w'.cell? ⟨b2, off2 + k * 7 + 4, none⟩ = some (.int .i64 x.s) ∧ w'.cell? ⟨b2, off2 + k * 7 + 5, none⟩ = some (.int .i64 x.f) ∧ w'.cell? ⟨b2, off2 + k * 7 + 6, none⟩ = some (.int .i64 x.k)) (first | exact ⟨c0, c1, c2, c3, c4, c5, c6, d0, d1, d2, d3, d4, d5, d6⟩ | exact two_next b1 hb' hb2' ⟨c0, c1, c2, c3, c4, c5, c6, d0, d1, d2, d3, d4, d5, d6⟩)
        ((go_at_call 58; refine (eqAirway_same x _).mono ?_; rintro e w1 ⟨rfl, b1⟩))
      have HB1 := Lib.hid (stepB HB.out (below_undrew b1))
      clear b1 c0 c1 c2 c3 c4 c5 c6 d0 d1 d2 d3 d4 d5 d6
      go_wp2_with fail
      go_roundw
      case rel => exact ⟨k + 1, by omega, by go_num, HB1.out⟩
      case measure => simp [intOf]; omega
    · obtain rfl : k = n := by omega
      go_wp2_with fail
      go_ret
      exact ⟨rfl, HB.out⟩

theorem eqMine_same (j : Int) (A1 A2 : Option Addr) (c1 c2 : Nat) (xs : List AW) (n : Nat) (w : World) (hn : xs.length = n) (h20 : n ≤ 1099511627776) (h1 : Airs w A1 xs) (h2 : Airs w A2 xs) :
    Calls Try.prog 11 #[.agg #[.int .i64 j, .slice A1 n c1], .agg #[.int .i64 j, .slice A2 n c2]] w fun e w' => e = .returned (.bool true) ∧ Below w.heap.size w w' := by
  have H1 := Lib.hid h1
  have H2 := Lib.hid h2
  have HN := Lib.hid hn
  clear h1 h2 hn
  go_enter Try.func11, Try.ntmps11
  go_wp2_with fail
  have b0 : Below w.heap.size w ((w.alloc (.cells #[.int .i64 j, .slice A1 n c1] 28)).alloc (.cells #[.int .i64 j, .slice A2 n c2] 28)) := by ((repeat (first | with_reducible exact Below.refl _ _ | with_reducible apply below_drewN | with_reducible apply Below.drew | (with_reducible refine Below.alloc ?_ ?_ _) | (with_reducible refine Below.setCell ?_ ?_ _) | (with_reducible refine Below.trans ?_ (hb4.mono ?_)) | (with_reducible refine Below.trans ?_ (hb3.mono ?_)) | (with_reducible refine Below.trans ?_ (hb2.mono ?_)))); all_goals (first | (simp <;> omega) | (have h2s := hb2.size; (try simp at h2s); (try simp); omega) | (have h2s := hb2.size; have h3s := hb3.size; (try simp at h2s); (try simp at h3s); (try simp); omega) | (have h2s := hb2.size; have h3s := hb3.size; have h4s := hb4.size; (try simp at h2s); (try simp at h3s); (try simp at h4s); (try simp); omega)))
  refine (eqAirwayS_same _ _ _ _ xs _ _ HN.out h20 (H1.out.next b0) (H2.out.next b0)).mono ?_; rintro e w1 ⟨rfl, b1⟩
  have c1 := stepB b0 b1
  go_wp2_with fail
  go_ret
  exact ⟨rfl, c1⟩

theorem two_cells {w1 : World} {c b : Nat} {a v0 v1 x0 x1 : Value} (h0 : w1.cell? ⟨b, 0, none⟩ = some x0) (h1 : w1.cell? ⟨b, 1, none⟩ = some x1) :
    ((w1.setCell ⟨c, 1, none⟩ a).setCell ⟨b, 0, none⟩ v0).cell? ⟨b, 0, none⟩ = some v0 ∧ (((w1.setCell ⟨c, 1, none⟩ a).setCell ⟨b, 0, none⟩ v0).setCell ⟨b, 1, none⟩ v1).cell? ⟨b, 1, none⟩ = some v1 := by
  obtain ⟨y0, e0⟩ := cell?_setCell_some (p := ⟨c, 1, none⟩) (x := a) h0
  obtain ⟨y1, e1⟩ := cell?_setCell_some (p := ⟨c, 1, none⟩) (x := a) h1
  obtain ⟨y2, e2⟩ := cell?_setCell_some (p := ⟨b, 0, none⟩) (x := v0) e1
  exact ⟨World.cell?_setCell_same _ _ _ e0, World.cell?_setCell_same _ _ _ e2⟩
def ToMPost (j : Int) (xs : List AW) (n : Nat) (w : World) (e : Ending) (w' : World) : Prop :=
  ∃ g, e = .returned (.agg #[.int .i64 j, .slice (some ⟨g, 0, none⟩) n n]) ∧ w.heap.size ≤ g ∧ RowA w' g n n xs ∧ Below w.heap.size w w'
theorem toMine_any (j : Int) (A : Option Addr) (c : Nat) (xs : List AW) (n : Nat) (w : World) (hn : xs.length = n) (h20 : n ≤ 1048576) (hx : Airs w A xs) :
    Calls Try.prog 9 #[.agg #[.int .i64 j, .slice A n c]] w (ToMPost j xs n w) := by
  have HX := Lib.hid hx
  have HN := Lib.hid hn
  clear hx hn
  go_enter Try.func9, Try.ntmps9
  go_wp2_with fail
  have b0 : Below w.heap.size w (((w.alloc (.cells #[.int .i64 j, .slice A n c] 24)).alloc (.cells #[.int .i64 0, .slice none 0 0] 28)).alloc (.cells #[.int .i64 j, .slice none 0 0] 28)) := by ((repeat (first | with_reducible exact Below.refl _ _ | with_reducible apply below_drewN | with_reducible apply Below.drew | (with_reducible refine Below.alloc ?_ ?_ _) | (with_reducible refine Below.setCell ?_ ?_ _) | (with_reducible refine Below.trans ?_ (hb4.mono ?_)) | (with_reducible refine Below.trans ?_ (hb3.mono ?_)) | (with_reducible refine Below.trans ?_ (hb2.mono ?_)))); all_goals (first | (simp <;> omega) | (have h2s := hb2.size; (try simp at h2s); (try simp); omega) | (have h2s := hb2.size; have h3s := hb3.size; (try simp at h2s); (try simp at h3s); (try simp); omega) | (have h2s := hb2.size; have h3s := hb3.size; have h4s := hb4.size; (try simp at h2s); (try simp at h3s); (try simp at h4s); (try simp); omega)))
  refine (toAirwayS_any _ _ xs _ _ HN.out h20 (HX.out.next b0)).mono ?_; rintro e w1 ⟨g, rfl, hg, hr, b1⟩
  have HR := Lib.hid hr
  have HG := Lib.hid hg
  have HC := Lib.hid (stepB b0 b1)
  obtain ⟨hc1, hf1⟩ := below_keep b1
  have hz := b1.size
  clear b0 b1 hr hg
  go_wp2_with fail
  have hg := HG.out
  simp at hg
  obtain ⟨f0, f1⟩ := two_cells (w1 := w1) (c := w.heap.size + 1 + 1) (b := w.heap.size + 1) (a := .slice (some ⟨g, 0, none⟩) n n) (v0 := .int .i64 j) (v1 := .slice (some ⟨g, 0, none⟩) n n) (x0 := .int .i64 0) (x1 := .slice none 0 0) ((hc1 _ 0 (by simp)).trans (by simp [go_sem])) ((hc1 _ 1 (by simp)).trans (by simp [go_sem]))
  simp [bodyPost, results, Try.results9, go_sem, f0, f1]
  exact ⟨g, rfl, by omega, ((HR.out.set_other _ _ (by simp; omega)).set_other _ _ (by simp; omega)).set_other _ _ (by simp; omega), ((HC.out.setCell (by simp; omega) _).setCell (by simp) _).setCell (by simp) _⟩
end Go.Proofs.Ytgiokjflfadeeaa
