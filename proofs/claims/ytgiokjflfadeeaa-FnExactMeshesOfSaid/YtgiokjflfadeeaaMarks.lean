/-
  The contracts of the laws' marks: markText, markAirwayS, markMine, markInt64S, heldInt64S.
-/
import Derived.Test.YtgiokjflfadeeaaMineLaw
import Derived.Test.YtgiokjflfadeeaaOwn
import Derived.Laws.BytesArg
namespace Go.Proofs.Ytgiokjflfadeeaa
open Go.RowKit
set_option linter.unusedVariables false

def TextPost (w : World) (e : Ending) (w' : World) : Prop := ∃ s : ByteArray, e = .returned (.string s) ∧ Below w.heap.size w w'
theorem markText_any (k : Nat) (w : World) (h0 : 0 < k) (hk : k ≤ 1099511627776) :
    Calls Try.prog 59 #[.int .i64 (k : Int)] w (TextPost w) := by
  have hki : (0 : Int) < k := by omega
  go_enter Try.func59, Try.ntmps59
  go_wp2_with fail
  go_loopw [0, 3] (fun t o wr => ∃ (m : Nat) (s : ByteArray), t = .int .i64 (m : Int) ∧ o = .string s ∧ s.size + m ≤ k ∧ Below w.heap.size w wr) (fun t _ _ => (intOf t).toNat)
  case atStart => exact ⟨k, ⟨#[]⟩, rfl, rfl, by show 0 + k ≤ k; omega, Below.refl _ _⟩
  case round =>
    obtain ⟨m, s, rfl, rfl, hs, hb⟩ := hrel
    have HB := Lib.hid hb
    clear hb
    by_cases hm : 0 < m
    · have hmi : (0 : Int) < m := by omega
      have hw8 : IntKind.u8.wrap (48 + (m : Int) % 10) = 48 + (m : Int) % 10 := by rw [IntKind.wrap_u8]; omega
      have hmod := Int.emod_nonneg (m : Int) (show (10 : Int) ≠ 0 by omega)
      have hmod2 := Int.emod_lt_of_pos (m : Int) (show (0 : Int) < 10 by omega)
      obtain ⟨t, ht, hts⟩ : ∃ t : ByteArray, t = strOfNums [48 + (m : Int) % 10] ∧ t.size = 1 := ⟨_, rfl, rfl⟩
      have hcv : (convert 95 9 (.slice (some ⟨wr.heap.size, 0, none⟩) 1 1)).run Try.prog (wr.alloc (.cells #[.int .u8 (48 + (m : Int) % 10)] 5)) = .ok (.string t) (wr.alloc (.cells #[.int .u8 (48 + (m : Int) % 10)] 5)) := by
        rw [ht]
        have hce : ∀ i, i < 1 → (wr.alloc (.cells #[.int .u8 (48 + (m : Int) % 10)] 5)).cell? ⟨wr.heap.size, 0 + i, none⟩ = some (.int .u8 ([48 + (m : Int) % 10].getD i 0)) := by
          intro i hi
          have hi0 : i = 0 := by omega
          subst hi0
          simp [go_sem]
        exact run_convert_bytes_arg (P := Try.prog) _ 95 5 Try.underlying95 Try.underlying5 wr.heap.size 0 1 1 [48 + (m : Int) % 10] rfl hce 9 Try.underlying9
      have hsz : t.size + s.size ≤ 9223372036854775807 := by omega
      have HT := Lib.hid hts
      clear ht hts
      go_wp2_with fail
      go_roundw
      case rel => exact ⟨m / 10, t ++ s, congrArg (Value.int .i64) (by omega), rfl, by rw [ByteArray.size_append, HT.out]; omega, HB.out.alloc HB.out.size _⟩
      case measure => simp [intOf]; omega
    · have hm0 : m = 0 := by omega
      have HM := Lib.hid hm0
      have hmi : (m : Int) ≤ 0 := by omega
      clear hm0
      go_wp2_with fail
      go_ret
      exact ⟨_, rfl, HB.out⟩

theorem markTextI_any (k : Int) (w : World) (h0 : 0 < k) (hk : k ≤ 1099511627776) : Calls Try.prog 59 #[.int .i64 k] w (TextPost w) := by
  obtain ⟨m, rfl⟩ := Int.eq_ofNat_of_zero_le (show 0 ≤ k by omega)
  exact markText_any m w (by omega) (by omega)
theorem grown_set {w w' : World} {g : Nat} (h : w.grownBy w' (some g)) (o : Nat) (v : Value) : w.grownBy (w'.setCell ⟨g, o, none⟩ v) (some g) :=
  ⟨h.os, h.tape, h.output, by simpa using h.size, fun k hk hne => (Below.heap_setCell w' _ v k (by simpa using hne)).trans (h.block k hk hne)⟩
theorem grown_below {w w' w'' : World} {g : Nat} (h : w.grownBy w' (some g)) (hb : Below w'.heap.size w' w'') : w.grownBy w'' (some g) :=
  ⟨hb.os.trans h.os, hb.tape.trans h.tape, hb.output.trans h.output, Nat.le_trans h.size hb.size, fun k hk hne => (hb.block k (Nat.lt_of_lt_of_le hk h.size)).trans (h.block k hk hne)⟩
/-- block g is a row of n airways' cells -/
def RowN (w : World) (g n : Nat) : Prop := ∃ cur, w.heap[g]? = some (.cells cur 51 (0, 0)) ∧ cur.size = n * 7
theorem RowN.next {w w' : World} {g n : Nat} (h : RowN w g n) (hb : Below w.heap.size w w') : RowN w' g n := by
  obtain ⟨cur, h1, h2⟩ := h
  refine ⟨cur, (hb.block g ?_).trans h1, h2⟩
  apply Classical.byContradiction; intro hx
  rw [Array.getElem?_eq_none (by omega)] at h1; cases h1
theorem RowN.set {w : World} {g n : Nat} (h : RowN w g n) (o : Nat) (v : Value) : RowN (w.setCell ⟨g, o, none⟩ v) g n := by
  obtain ⟨cur, h1, h2⟩ := h
  exact ⟨_, heap_set h1 o v, by simpa using h2⟩
theorem RowN.cell {w : World} {g n o : Nat} (h : RowN w g n) (ho : o < n * 7) : ∃ z, w.cell? ⟨g, o, none⟩ = some z := by
  obtain ⟨cur, h1, h2⟩ := h
  exact ⟨_, by rw [cell_of_row w g o cur _ _ h1]; exact Array.getElem?_eq_getElem (by omega)⟩
theorem RowN.free {w : World} {g n : Nat} (h : RowN w g n) (o : Nat) : w.frozen? ⟨g, o, none⟩ = false := by
  obtain ⟨cur, h1, h2⟩ := h
  simp [World.frozen?, h1]
def MarkPost (g : Nat) (w : World) (e : Ending) (w' : World) : Prop := ∃ r : Nat, e = .returned (.int .i64 (r : Int)) ∧ w.grownBy w' (some g)
set_option maxHeartbeats 1000000 in
set_option maxRecDepth 100000 in
theorem markAirwayS_any (g n c : Nat) (w : World) (h20 : n ≤ 1048576) (hr : RowN w g n) :
    Calls Try.prog 37 #[.slice (some ⟨g, 0, none⟩) n c, .int .i64 1] w (MarkPost g w) := by
  have HR0 := Lib.hid hr
  clear hr
  go_enter Try.func37, Try.ntmps37
  go_wp2_with fail
  go_loopw [1, 5] (fun t i wr => ∃ k : Nat, k ≤ n ∧ i = .int .i64 (k : Int) ∧ t = .int .i64 (1 + 7 * (k : Int)) ∧ RowN wr g n ∧ w.grownBy wr (some g)) (fun _ i _ => n - (intOf i).toNat)
  case atStart => exact ⟨0, Nat.zero_le _, rfl, rfl, HR0.out, World.grownBy.refl w _⟩
  case round =>
    obtain ⟨k, hk, rfl, rfl, hr, hg⟩ := hrel
    have HR := Lib.hid hr
    have HG := Lib.hid hg
    clear hr hg
    by_cases hlt : k < n
    · have hki : (k : Int) < n := by omega
      go_wp2_with fail
      refine (markTextI_any _ _ (by omega) (by omega)).mono ?_; rintro e w1 ⟨s, rfl, b1⟩
      have HR1 := Lib.hid (HR.out.next b1)
      have HG1 := Lib.hid (grown_below HG.out b1)
      have hf := HR1.out.free
      obtain ⟨z0, d0⟩ := HR1.out.cell (o := k * 7) (by omega)
      obtain ⟨z1, d1⟩ := HR1.out.cell (o := k * 7 + 1) (by omega)
      obtain ⟨z2, d2⟩ := HR1.out.cell (o := k * 7 + 2) (by omega)
      obtain ⟨z3, d3⟩ := HR1.out.cell (o := k * 7 + 3) (by omega)
      obtain ⟨z4, d4⟩ := HR1.out.cell (o := k * 7 + 4) (by omega)
      obtain ⟨z5, d5⟩ := HR1.out.cell (o := k * 7 + 5) (by omega)
      obtain ⟨z6, d6⟩ := HR1.out.cell (o := k * 7 + 6) (by omega)
      clear b1
      go_wp2_with fail
      go_roundw
      case rel => exact ⟨k + 1, by omega, by go_num, congrArg (Value.int .i64) (by omega), ((((((HR1.out.set _ _).set _ _).set _ _).set _ _).set _ _).set _ _).set _ _, grown_set (grown_set (grown_set (grown_set (grown_set (grown_set (grown_set HG1.out _ _) _ _) _ _) _ _) _ _) _ _) _ _⟩
      case measure => simp [intOf]; omega
    · obtain rfl : k = n := by omega
      go_wp2_with fail
      go_ret
      exact ⟨1 + 7 * k, congrArg (fun x => Ending.returned (.int .i64 x)) (by omega), HG.out⟩

theorem grown_trans {w w1 w2 : World} {row : Option Nat} (h1 : w.grownBy w1 row) (h2 : w1.grownBy w2 row) : w.grownBy w2 row :=
  ⟨h2.os.trans h1.os, h2.tape.trans h1.tape, h2.output.trans h1.output, Nat.le_trans h1.size h2.size, fun k hk hne => (h2.block k (Nat.lt_of_lt_of_le hk h1.size) hne).trans (h1.block k hk hne)⟩
theorem markMine_any (j : Int) (g n c : Nat) (w : World) (h20 : n ≤ 1048576) (hr : RowN w g n) :
    Calls Try.prog 12 #[.agg #[.int .i64 j, .slice (some ⟨g, 0, none⟩) n c], .int .i64 1] w (MarkPost g w) := by
  have HR := Lib.hid (hr.next ((Below.refl w.heap.size w).alloc (Nat.le_refl _) (.cells #[.int .i64 j, .slice (some ⟨g, 0, none⟩) n c] 28)))
  clear hr
  go_enter Try.func12, Try.ntmps12
  go_wp2_with fail
  refine (markAirwayS_any g n c _ h20 HR.out).mono ?_; rintro e w1 ⟨r, rfl, hg⟩
  have HG := Lib.hid (grown_trans (World.grownBy_alloc w _ _) hg)
  clear hg
  go_wp2_with fail
  go_ret
  exact ⟨r, rfl, HG.out⟩

def MkdI (w : World) (A : Option Addr) (n : Nat) : Prop := n = 0 ∨ ∃ g, A = some ⟨g, 0, none⟩ ∧ g < w.heap.size ∧ ∀ j, j < n → w.cell? ⟨g, j, none⟩ = some (.int .i64 (1 + (j : Int)))
theorem MkdI.next {w w' : World} {A : Option Addr} {n : Nat} (h : MkdI w A n) (hb : Below w.heap.size w w') : MkdI w' A n := by
  rcases h with h | ⟨g, h1, h2, h3⟩
  · exact .inl h
  · exact .inr ⟨g, h1, Nat.lt_of_lt_of_le h2 hb.size, fun j hj => (hb.cell (by simpa using h2)).trans (h3 j hj)⟩
def MarkIPost (A : Option Addr) (n B : Nat) (w : World) (e : Ending) (w' : World) : Prop := e = .returned (.int .i64 (1 + (n : Int))) ∧ MkdI w' A n ∧ Below B w w'
def MkRel (g n k B : Nat) (w wr : World) : Prop := Below B w wr ∧ ∃ cur, wr.heap[g]? = some (.cells cur 2 (0, 0)) ∧ n ≤ cur.size ∧ ∀ j, j < k → cur[j]? = some (.int .i64 (1 + (j : Int)))
theorem mk_step {g n k B : Nat} {w wr : World} (h : MkRel g n k B w wr) (hB : B ≤ g) (hk : k < n) : MkRel g n (k + 1) B w (wr.setCell ⟨g, k, none⟩ (.int .i64 (1 + (k : Int)))) := by
  obtain ⟨hb, cur, h1, h2, h3⟩ := h
  refine ⟨hb.setCell (by simpa using hB) _, _, heap_set h1 _ _, by simpa using h2, fun j hj => ?_⟩
  rw [Array.getElem?_setIfInBounds]
  by_cases e : k = j
  · subst e; rw [if_pos rfl, if_pos (by omega)]
  · rw [if_neg e]; exact h3 j (by omega)
theorem mk_cell {g n k B : Nat} {w wr : World} (h : MkRel g n k B w wr) (hk : k < n) : (∃ z, wr.cell? ⟨g, k, none⟩ = some z) ∧ wr.frozen? ⟨g, k, none⟩ = false := by
  obtain ⟨hb, cur, h1, h2, h3⟩ := h
  exact ⟨⟨_, by rw [cell_of_row wr g k cur _ _ h1]; exact Array.getElem?_eq_getElem (by omega)⟩, by simp [World.frozen?, h1]⟩
theorem markI_any (A : Option Addr) (c : Nat) (xs : List Int) (n B : Nat) (w : World) (hn : xs.length = n) (h20 : n ≤ 1099511627776) (hB : B ≤ w.heap.size) (ho : OwnI w B (.slice A n c) xs) :
    Calls Try.prog 17 #[.slice A n c, .int .i64 1] w (MarkIPost A n B w) := by
  subst hn
  by_cases h0 : 0 < xs.length
  · obtain ⟨g, c', cur, hv, hBg, hg, hh, hs, hc⟩ := ho.block h0
    injection hv with hA _ _
    subst hA
    generalize xs.length = n at *
    have H0 := Lib.hid (show MkRel g n 0 B w w from ⟨Below.refl _ _, cur, hh, hs, fun j hj => absurd hj (by omega)⟩)
    clear ho hh hs hc
    go_enter Try.func17, Try.ntmps17
    go_wp2_with fail
    go_loopw [1, 5] (fun t i wr => ∃ k : Nat, k ≤ n ∧ i = .int .i64 (k : Int) ∧ t = .int .i64 (1 + (k : Int)) ∧ MkRel g n k B w wr) (fun _ i _ => n - (intOf i).toNat)
    case atStart => exact ⟨0, Nat.zero_le _, rfl, rfl, H0.out⟩
    case round =>
      obtain ⟨k, hk, rfl, rfl, hr⟩ := hrel
      have HR := Lib.hid hr
      clear hr
      by_cases hlt : k < n
      · have hki : (k : Int) < n := by omega
        obtain ⟨⟨z, hz⟩, hf⟩ := mk_cell HR.out hlt
        go_wp2_with fail
        go_roundw
        case rel => exact ⟨k + 1, by omega, by go_num, congrArg (Value.int .i64) (by omega), mk_step HR.out hBg hlt⟩
        case measure => simp [intOf]; omega
      · obtain rfl : k = n := by omega
        obtain ⟨hb, cur', h1, h2, h3⟩ := HR.out
        have HM := Lib.hid (show MkdI wr (some ⟨g, 0, none⟩) k from .inr ⟨g, rfl, Nat.lt_of_lt_of_le hg hb.size, fun j hj => by rw [cell_of_row wr g j cur' _ _ h1]; exact h3 j hj⟩)
        have HB := Lib.hid hb
        clear h1 h2 h3 hb
        go_wp2_with fail
        go_ret
        exact ⟨rfl, HM.out, HB.out⟩
  · have hz : xs.length = 0 := by omega
    have hb := Below.refl B w
    rw [hz]
    clear ho hz h0
    go_enter Try.func17, Try.ntmps17
    go_wp2_with fail
    refine wp_loop_rounds 1 ?_
    rw [rounds_succ]
    go_wp2_with fail
    go_ret
    exact ⟨rfl, .inl rfl, hb⟩
theorem heldI_any (A : Option Addr) (c : Nat) (n : Nat) (w : World) (h20 : n ≤ 1099511627776) (hm : MkdI w A n) :
    Calls Try.prog 18 #[.slice A n c, .int .i64 1] w fun e w' => e = .returned (.int .i64 (1 + (n : Int))) ∧ w = w' := by
  rcases hm with rfl | ⟨g, rfl, hg, hc⟩
  · go_enter Try.func18, Try.ntmps18
    go_wp2_with fail
    refine wp_loop_rounds 1 ?_
    rw [rounds_succ]
    go_wp2_with fail
    go_ret
    exact ⟨rfl, rfl⟩
  · have HC := Lib.hid hc
    clear hc
    go_enter Try.func18, Try.ntmps18
    go_wp2_with fail
    go_loopw [1, 5] (fun t i wr => ∃ k : Nat, k ≤ n ∧ i = .int .i64 (k : Int) ∧ t = .int .i64 (1 + (k : Int)) ∧ w = wr) (fun _ i _ => n - (intOf i).toNat)
    case atStart => exact ⟨0, Nat.zero_le _, rfl, rfl, rfl⟩
    case round =>
      obtain ⟨k, hk, rfl, rfl, rfl⟩ := hrel
      by_cases hlt : k < n
      · have hki : (k : Int) < n := by omega
        have hz := HC.out k hlt
        go_wp2_with fail
        go_roundw
        case rel => exact ⟨k + 1, by omega, by go_num, congrArg (Value.int .i64) (by omega), by first | exact rfl | trivial⟩
        case measure => simp [intOf]; omega
      · obtain rfl : k = n := by omega
        go_wp2_with fail
        go_ret
        exact ⟨rfl, rfl⟩
end Go.Proofs.Ytgiokjflfadeeaa
