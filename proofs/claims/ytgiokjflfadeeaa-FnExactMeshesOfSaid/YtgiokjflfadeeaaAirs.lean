/-
  Lists of airways behind slices: what a slice reads as; the contracts of the laws' own measure (szAirwayS), copy (toAirwayS, toMine) and comparison (eqAirwayS, eqMine).
-/
import Derived.Test.YtgiokjflfadeeaaNum
import Derived.Deep.OwnRows
import Derived.Laws.OwnMore
namespace Go.Proofs.Ytgiokjflfadeeaa
open Go.RowKit
set_option linter.unusedVariables false

structure AW where
  a : ByteArray
  u : Int
  v : Int
  l : Int
  s : Int
  f : Int
  k : Int
def AW.none : AW := ⟨ByteArray.empty, 0, 0, 0, 0, 0, 0⟩
def AW.val (x : AW) : Value := .agg #[.string x.a, .int .i64 x.u, .int .i64 x.v, .int .i64 x.l, .int .i64 x.s, .int .i64 x.f, .int .i64 x.k]
def atA (xs : List AW) (k : Nat) : AW := xs.getD k AW.none
theorem atA_is (xs : List AW) (k : Nat) (h : k < xs.length) : atA xs k = xs[k] := by simp [atA, h]
structure AirAt (w : World) (b o : Nat) (x : AW) : Prop where
  c0 : w.cell? ⟨b, o, none⟩ = some (.string x.a)
  c1 : w.cell? ⟨b, o + 1, none⟩ = some (.int .i64 x.u)
  c2 : w.cell? ⟨b, o + 2, none⟩ = some (.int .i64 x.v)
  c3 : w.cell? ⟨b, o + 3, none⟩ = some (.int .i64 x.l)
  c4 : w.cell? ⟨b, o + 4, none⟩ = some (.int .i64 x.s)
  c5 : w.cell? ⟨b, o + 5, none⟩ = some (.int .i64 x.f)
  c6 : w.cell? ⟨b, o + 6, none⟩ = some (.int .i64 x.k)
theorem AirAt.below {w w' : World} {b o B : Nat} {x : AW} (h : AirAt w b o x) (hb : Below B w w') (hl : b < B) : AirAt w' b o x :=
  ⟨(hb.cell hl).trans h.c0, (hb.cell hl).trans h.c1, (hb.cell hl).trans h.c2, (hb.cell hl).trans h.c3, (hb.cell hl).trans h.c4, (hb.cell hl).trans h.c5, (hb.cell hl).trans h.c6⟩
def Airs (w : World) (A : Option Addr) (xs : List AW) : Prop :=
  xs = [] ∨ ∃ b off, A = some ⟨b, off, .none⟩ ∧ b < w.heap.size ∧ ∀ k, k < xs.length → AirAt w b (off + k * 7) (atA xs k)
theorem Airs.next {w w' : World} {A : Option Addr} {xs : List AW} (h : Airs w A xs) (hb : Below w.heap.size w w') : Airs w' A xs := by
  rcases h with h | ⟨b, off, h1, h2, h3⟩
  · exact .inl h
  · exact .inr ⟨b, off, h1, Nat.lt_of_lt_of_le h2 hb.size, fun k hk => (h3 k hk).below hb h2⟩
theorem Airs.at_ {w : World} {A : Option Addr} {xs : List AW} (h : Airs w A xs) {k : Nat} (hk : k < xs.length) :
    ∃ b off, A = some ⟨b, off, .none⟩ ∧ b < w.heap.size ∧ AirAt w b (off + k * 7) (atA xs k) := by
  rcases h with h | ⟨b, off, h1, h2, h3⟩
  · rw [h] at hk; simp at hk
  · exact ⟨b, off, h1, h2, h3 k hk⟩
theorem stepB {w w1 w2 : World} (h1 : Below w.heap.size w w1) (h2 : Below w1.heap.size w1 w2) : Below w.heap.size w w2 := h1.trans (h2.mono h1.size)

/-- the measure: all names are short -/
def SzPost (xs : List AW) (left : Int) (w : World) (e : Ending) (w' : World) : Prop :=
  ∃ r : Int, e = .returned (.int .i64 r) ∧ (r < 0 ∨ (r ≤ left ∧ (xs.length : Int) ≤ left ∧ ∀ k, k < xs.length → ((atA xs k).a.size : Int) ≤ left)) ∧ Below w.heap.size w w'
theorem szAirway_any (x : AW) (left : Int) (w : World) (h0 : 0 ≤ left) (h1 : left ≤ 1048576) (hs : x.a.size ≤ maxLen) :
    Calls Try.prog 24 #[x.val, .int .i64 left] w fun e w' => e = .returned (.int .i64 (if left < x.a.size then -1 else left - x.a.size)) ∧ Below w.heap.size w w' := by
  unfold maxLen at hs
  unfold AW.val
  by_cases h : left < x.a.size
  · rw [if_pos h]
    go_enter Try.func24, Try.ntmps24
    go_wp2
    go_ret
    exact ⟨rfl, by ((repeat (first | with_reducible exact Below.refl _ _ | with_reducible apply below_drewN | with_reducible apply Below.drew | (with_reducible refine Below.alloc ?_ ?_ _) | (with_reducible refine Below.setCell ?_ ?_ _) | (with_reducible refine Below.trans ?_ (hb4.mono ?_)) | (with_reducible refine Below.trans ?_ (hb3.mono ?_)) | (with_reducible refine Below.trans ?_ (hb2.mono ?_)))); all_goals (first | (simp <;> omega) | (have h2s := hb2.size; (try simp at h2s); (try simp); omega) | (have h2s := hb2.size; have h3s := hb3.size; (try simp at h2s); (try simp at h3s); (try simp); omega) | (have h2s := hb2.size; have h3s := hb3.size; have h4s := hb4.size; (try simp at h2s); (try simp at h3s); (try simp at h4s); (try simp); omega)))⟩
  · rw [if_neg h]
    go_enter Try.func24, Try.ntmps24
    go_wp2
    go_ret
    exact ⟨rfl, by ((repeat (first | with_reducible exact Below.refl _ _ | with_reducible apply below_drewN | with_reducible apply Below.drew | (with_reducible refine Below.alloc ?_ ?_ _) | (with_reducible refine Below.setCell ?_ ?_ _) | (with_reducible refine Below.trans ?_ (hb4.mono ?_)) | (with_reducible refine Below.trans ?_ (hb3.mono ?_)) | (with_reducible refine Below.trans ?_ (hb2.mono ?_)))); all_goals (first | (simp <;> omega) | (have h2s := hb2.size; (try simp at h2s); (try simp); omega) | (have h2s := hb2.size; have h3s := hb3.size; (try simp at h2s); (try simp at h3s); (try simp); omega) | (have h2s := hb2.size; have h3s := hb3.size; have h4s := hb4.size; (try simp at h2s); (try simp at h3s); (try simp at h4s); (try simp); omega)))⟩
theorem szAirwayS_any (A : Option Addr) (c : Nat) (xs : List AW) (n : Nat) (left : Int) (w : World) (hn : xs.length = n) (hm : n ≤ maxLen) (h0 : 0 ≤ left) (h1 : left ≤ 1048576) (hs : ∀ k, k < n → (atA xs k).a.size ≤ maxLen) (hx : Airs w A xs) :
    Calls Try.prog 28 #[.slice A n c, .int .i64 left] w (SzPost xs left w) := by
  unfold maxLen at hm
  have HX := Lib.hid hx
  have HN := Lib.hid hn
  have HS := Lib.hid hs
  clear hx hn hs
  by_cases hl : left < n
  · go_enter Try.func28, Try.ntmps28
    go_wp2_with fail
    go_ret
    exact ⟨-1, rfl, .inl (by omega), Below.refl _ _⟩
  · have hl : (n : Int) ≤ left := by omega
    go_enter Try.func28, Try.ntmps28
    go_wp2_with fail
    go_loopw [1, 5] (fun t i wr => ∃ (k : Nat) (r : Int), k ≤ n ∧ i = .int .i64 k ∧ t = .int .i64 r ∧ 0 ≤ r ∧ r ≤ left ∧ (∀ j, j < k → ((atA xs j).a.size : Int) ≤ left) ∧ Below w.heap.size w wr) (fun _ i _ => n - (intOf i).toNat)
    case atStart => exact ⟨0, _, Nat.zero_le _, rfl, rfl, by omega, by omega, fun j hj => absurd hj (by omega), Below.refl _ _⟩
    case round =>
      obtain ⟨k, r, hk, rfl, rfl, hr0, hr1, hj, hb⟩ := hrel
      have HJ := Lib.hid hj
      have HB := Lib.hid hb
      clear hj hb
      by_cases hlt : k < n
      · obtain ⟨b, off, rfl, hb', hc⟩ := (HX.out.next HB.out).at_ (k := k) (by have := HN.out; omega)
        obtain ⟨c0, c1, c2, c3, c4, c5, c6⟩ := hc
        have hz := HS.out k hlt
        generalize hx : atA xs k = x at c0 c1 c2 c3 c4 c5 c6 hz
        have HXK := Lib.hid hx
        clear hx
        by_cases hlt2 : r < x.a.size
        · go_wp2_with fail
          refine (szAirway_any x r _ hr0 (by omega) hz).mono ?_; rw [if_pos hlt2]; rintro e w1 ⟨rfl, b1⟩
          go_wp2_with fail
          go_ret
          exact ⟨-1, rfl, .inl (by omega), stepB HB.out b1⟩
        · go_wp2_with fail
          refine (szAirway_any x r _ hr0 (by omega) hz).mono ?_; rw [if_neg (show ¬ r < x.a.size by omega)]; rintro e w1 ⟨rfl, b1⟩
          have hr2 : 0 ≤ r - x.a.size := by omega
          go_wp2_with fail
          go_roundw
          case rel =>
            refine ⟨k + 1, r - x.a.size, by omega, by go_num, rfl, by omega, by omega, fun j hj => ?_, stepB HB.out b1⟩
            by_cases e : j = k
            · subst e; rw [HXK.out]; omega
            · exact HJ.out j (by omega)
          case measure => simp [intOf]; omega
      · obtain rfl : k = n := by omega
        go_wp2_with fail
        go_ret
        exact ⟨r, rfl, .inr ⟨hr1, by rw [HN.out]; exact hl, fun j hj => HJ.out j (by have := HN.out; omega)⟩, HB.out⟩

def fieldsA (x : AW) : List Value := [.string x.a, .int .i64 x.u, .int .i64 x.v, .int .i64 x.l, .int .i64 x.s, .int .i64 x.f, .int .i64 x.k]
/-- block g is a row of n airways, of which the first k are xs's -/
def RowA (w : World) (g n k : Nat) (xs : List AW) : Prop :=
  ∃ cur, w.heap[g]? = some (.cells cur 51 (0, 0)) ∧ cur.size = n * 7 ∧ ∀ j, j < k → ∀ i, i < 7 → cur[j * 7 + i]? = (fieldsA (atA xs j))[i]?
theorem RowA.next {w w' : World} {g n k : Nat} {xs : List AW} (h : RowA w g n k xs) (hb : Below w.heap.size w w') : RowA w' g n k xs := by
  obtain ⟨cur, h1, h2, h3⟩ := h
  refine ⟨cur, (hb.block g ?_).trans h1, h2, h3⟩
  apply Classical.byContradiction; intro hx
  rw [Array.getElem?_eq_none (by omega)] at h1; cases h1
theorem RowA.lt {w : World} {g n k : Nat} {xs : List AW} (h : RowA w g n k xs) : g < w.heap.size := by
  obtain ⟨cur, h1, h2, h3⟩ := h
  apply Classical.byContradiction; intro hx
  rw [Array.getElem?_eq_none (by omega)] at h1; cases h1
theorem RowA.free {w : World} {g n k : Nat} {xs : List AW} (h : RowA w g n k xs) (hk : k < n) :
    (∀ o, w.frozen? ⟨g, o, none⟩ = false) ∧ ∃ z0 z1 z2 z3 z4 z5 z6, w.cell? ⟨g, k * 7, none⟩ = some z0 ∧ w.cell? ⟨g, k * 7 + 1, none⟩ = some z1 ∧ w.cell? ⟨g, k * 7 + 2, none⟩ = some z2 ∧ w.cell? ⟨g, k * 7 + 3, none⟩ = some z3 ∧ w.cell? ⟨g, k * 7 + 4, none⟩ = some z4 ∧ w.cell? ⟨g, k * 7 + 5, none⟩ = some z5 ∧ w.cell? ⟨g, k * 7 + 6, none⟩ = some z6 := by
  obtain ⟨cur, h1, h2, h3⟩ := h
  have hc : ∀ o, o < n * 7 → w.cell? ⟨g, o, none⟩ = some (cur[o]?.getD (.bool false)) := fun o ho => by
    rw [cell_of_row w g o cur _ _ h1]; simp [h2, ho]
  exact ⟨fun o => by simp [World.frozen?, h1], _, _, _, _, _, _, _, hc _ (by omega), hc _ (by omega), hc _ (by omega), hc _ (by omega), hc _ (by omega), hc _ (by omega), hc _ (by omega)⟩
theorem heap_set {w : World} {g : Nat} {cur : Array Value} {t : TypeId} (h : w.heap[g]? = some (.cells cur t (0, 0))) (o : Nat) (v : Value) : (w.setCell ⟨g, o, none⟩ v).heap[g]? = some (.cells (cur.setIfInBounds o v) t (0, 0)) := by
  simp [World.setCell, Array.getElem?_modify, h]
theorem RowA.step {w : World} {g n k : Nat} {xs : List AW} {x : AW} (h : RowA w g n k xs) (hk : k < n) (hx : atA xs k = x) :
    RowA (((((((w.setCell ⟨g, k * 7, none⟩ (.string x.a)).setCell ⟨g, k * 7 + 1, none⟩ (.int .i64 x.u)).setCell ⟨g, k * 7 + 2, none⟩ (.int .i64 x.v)).setCell ⟨g, k * 7 + 3, none⟩ (.int .i64 x.l)).setCell ⟨g, k * 7 + 4, none⟩ (.int .i64 x.s)).setCell ⟨g, k * 7 + 5, none⟩ (.int .i64 x.f)).setCell ⟨g, k * 7 + 6, none⟩ (.int .i64 x.k)) g n (k + 1) xs := by
  obtain ⟨cur, h1, h2, h3⟩ := h
  refine ⟨_, heap_set (heap_set (heap_set (heap_set (heap_set (heap_set (heap_set h1 _ _) _ _) _ _) _ _) _ _) _ _) _ _, by simpa using h2, fun j hj i hi => ?_⟩
  simp only [Array.getElem?_setIfInBounds, Array.size_setIfInBounds]
  by_cases e : j = k
  · subst e
    rw [hx]
    unfold fieldsA
    rcases (by omega : i = 0 ∨ i = 1 ∨ i = 2 ∨ i = 3 ∨ i = 4 ∨ i = 5 ∨ i = 6) with rfl | rfl | rfl | rfl | rfl | rfl | rfl <;> simp [h2, show j * 7 < n * 7 by omega] <;> omega
  · rw [if_neg (by omega), if_neg (by omega), if_neg (by omega), if_neg (by omega), if_neg (by omega), if_neg (by omega), if_neg (by omega)]
    exact h3 j (by omega) i hi
theorem below_step {B : Nat} {w w' : World} {g k : Nat} {v0 v1 v2 v3 v4 v5 v6 : Value} (h : Below B w w') (hg : B ≤ g) :
    Below B w (((((((w'.setCell ⟨g, k * 7, none⟩ v0).setCell ⟨g, k * 7 + 1, none⟩ v1).setCell ⟨g, k * 7 + 2, none⟩ v2).setCell ⟨g, k * 7 + 3, none⟩ v3).setCell ⟨g, k * 7 + 4, none⟩ v4).setCell ⟨g, k * 7 + 5, none⟩ v5).setCell ⟨g, k * 7 + 6, none⟩ v6) :=
  ((((((h.setCell hg _).setCell hg _).setCell hg _).setCell hg _).setCell hg _).setCell hg _).setCell hg _
theorem RowA.airs {w : World} {g n : Nat} {xs : List AW} (h : RowA w g n n xs) (hn : xs.length = n) : Airs w (some ⟨g, 0, none⟩) xs := by
  have hl := h.lt
  obtain ⟨cur, h1, h2, h3⟩ := h
  refine .inr ⟨g, 0, rfl, hl, fun j hj => ?_⟩
  have hc : ∀ i, i < 7 → w.cell? ⟨g, j * 7 + i, none⟩ = (fieldsA (atA xs j))[i]? := fun i hi => by
    rw [cell_of_row w g _ cur _ _ h1, h3 j (by omega) i hi]
  rw [Nat.zero_add]
  exact ⟨hc 0 (by omega), hc 1 (by omega), hc 2 (by omega), hc 3 (by omega), hc 4 (by omega), hc 5 (by omega), hc 6 (by omega)⟩

theorem toAW_any (x : AW) (w : World) :
    Calls Try.prog 26 #[x.val] w fun e w' => e = .returned x.val ∧ Below w.heap.size w w' := by
  unfold AW.val
  go_enter Try.func26, Try.ntmps26
  go_wp2
  simp [bodyPost, results, Try.results26, go_sem]
  exact by ((repeat (first | with_reducible exact Below.refl _ _ | with_reducible apply below_drewN | with_reducible apply Below.drew | (with_reducible refine Below.alloc ?_ ?_ _) | (with_reducible refine Below.setCell ?_ ?_ _) | (with_reducible refine Below.trans ?_ (hb4.mono ?_)) | (with_reducible refine Below.trans ?_ (hb3.mono ?_)) | (with_reducible refine Below.trans ?_ (hb2.mono ?_)))); all_goals (first | (simp <;> omega) | (have h2s := hb2.size; (try simp at h2s); (try simp); omega) | (have h2s := hb2.size; have h3s := hb3.size; (try simp at h2s); (try simp at h3s); (try simp); omega) | (have h2s := hb2.size; have h3s := hb3.size; have h4s := hb4.size; (try simp at h2s); (try simp at h3s); (try simp at h4s); (try simp); omega)))
theorem info_a : (Try.prog.info? 51).map (fun i => (i.zero, i.size, i.bytes)) = some (some (.agg #[.string ⟨#[]⟩, .int .i64 0, .int .i64 0, .int .i64 0, .int .i64 0, .int .i64 0, .int .i64 0]), 7, 64) := by kernel_rfl
theorem mk_airs (n : Nat) (hn : n ≤ 1048576) (w : World) : ∃ cur, cur.size = n * 7 ∧ (Instr.makeSlice 26 (.int .i64 (n : Int)) (.int .i64 (n : Int))).run Try.prog w = .ok (.slice (some ⟨w.heap.size, 0, none⟩) n n) (w.alloc (.cells cur 51)) := by
  obtain ⟨i, hi, hz⟩ := Option.map_eq_some_iff.1 info_a
  simp only [Prod.mk.injEq] at hz
  obtain ⟨hz0, hz1, hz2⟩ := hz
  have h := run_make (P := Try.prog) w 26 51 i _ Try.underlying26 hi hz0 .i64 .i64 (n : Int) (n : Int) (by omega) (by omega) (by rw [hz2]; omega) (by omega)
  refine ⟨_, ?_, by simpa [hz1] using h⟩
  simp [size_madeCells]

def ToAPost (xs : List AW) (n : Nat) (w : World) (e : Ending) (w' : World) : Prop :=
  ∃ g, e = .returned (.slice (some ⟨g, 0, none⟩) n n) ∧ w.heap.size ≤ g ∧ RowA w' g n n xs ∧ Below w.heap.size w w'
theorem toAirwayS_any (A : Option Addr) (c : Nat) (xs : List AW) (n : Nat) (w : World) (hn : xs.length = n) (h20 : n ≤ 1048576) (hx : Airs w A xs) :
    Calls Try.prog 31 #[.slice A n c] w (ToAPost xs n w) := by
  have HX := Lib.hid hx
  have HN := Lib.hid hn
  obtain ⟨cur, hcs, hmk⟩ := mk_airs n h20 w
  have H0 := Lib.hid (show RowA (w.alloc (.cells cur 51)) w.heap.size n 0 xs from ⟨cur, heap_alloc_new w _, hcs, fun j hj => absurd hj (by omega)⟩)
  clear hx hn hcs
  go_enter Try.func31, Try.ntmps31
  go_wp2_with fail
  clear hmk
  go_loopw [4] (fun i wr => ∃ k : Nat, k ≤ n ∧ i = .int .i64 k ∧ RowA wr w.heap.size n k xs ∧ Below w.heap.size w wr) (fun i _ => n - (intOf i).toNat)
  case atStart => exact ⟨0, Nat.zero_le _, rfl, H0.out, (Below.refl _ _).alloc (Nat.le_refl _) _⟩
  case round =>
    obtain ⟨k, hk, rfl, hr, hb⟩ := hrel
    have HR := Lib.hid hr
    have HB := Lib.hid hb
    clear hr hb
    by_cases hlt : k < n
    · obtain ⟨b, off, rfl, hb', hc⟩ := (HX.out.next HB.out).at_ (k := k) (by have := HN.out; omega)
      obtain ⟨c0, c1, c2, c3, c4, c5, c6⟩ := hc
      generalize hx : atA xs k = x at c0 c1 c2 c3 c4 c5 c6
      have HXK := Lib.hid hx
      clear hx
      go_wp2_with fail
      refine (toAW_any x _).mono ?_; rintro e w1 ⟨rfl, b1⟩
      have HR1 := Lib.hid (HR.out.next b1)
      have HB1 := Lib.hid (stepB HB.out b1)
      obtain ⟨hf, z0, z1, z2, z3, z4, z5, z6, d0, d1, d2, d3, d4, d5, d6⟩ := HR1.out.free hlt
      clear c0 c1 c2 c3 c4 c5 c6 b1
      unfold AW.val
      go_wp2_with fail
      go_roundw
      case rel => exact ⟨k + 1, by omega, by go_num, HR1.out.step hlt HXK.out, below_step HB1.out (Nat.le_refl _)⟩
      case measure => simp [intOf]; omega
    · obtain rfl : k = n := by omega
      go_wp2_with fail
      go_ret
      exact ⟨_, rfl, Nat.le_refl _, HR.out, HB.out⟩
end Go.Proofs.Ytgiokjflfadeeaa
