/-
  The contract of the reference's l01Dec: the decimal numeral of every int64.
-/
import Derived.Test.YtfgfoggnhjchiaaDoorOwnB
import Derived.Lib.ItoaNum
import Derived.Deep.DeepMust
namespace Go.Proofs.YtfgfoggnhjchiaaDoor
open Go.RowKit
set_option linter.unusedVariables false

/-- the digits as bytes, the last first -/
def rdF : Nat → Nat → List Int
  | 0, _ => []
  | f + 1, u => if u = 0 then [] else (48 + (u % 10 : Nat) : Int) :: rdF f (u / 10)
def rd (u : Nat) : List Int := rdF 20 u
theorem rdF_zero (f : Nat) : rdF f 0 = [] := by cases f <;> simp [rdF]
theorem rdF_len (f u : Nat) : (rdF f u).length ≤ f := by
  induction f generalizing u with
  | zero => simp [rdF]
  | succ f ih => unfold rdF; split
                 · simp
                 · simp; exact ih _
theorem rdF_more (f u : Nat) (h : u < 10 ^ f) : rdF (f + 1) u = rdF f u := by
  induction f generalizing u with
  | zero => have h0 : u = 0 := by simpa using h
            subst h0; simp [rdF]
  | succ f ih =>
    show (if u = 0 then [] else _ :: rdF (f + 1) (u / 10)) = (if u = 0 then [] else _ :: rdF f (u / 10))
    rw [ih (u / 10) (by rw [Nat.pow_succ] at h; omega)]
theorem rd_step (u : Nat) (h0 : 0 < u) (h : u < 10 ^ 20) : rd u = (48 + (u % 10 : Nat) : Int) :: rd (u / 10) := by
  unfold rd
  show (if u = 0 then [] else _ :: rdF 19 (u / 10)) = _
  rw [if_neg (by omega), rdF_more 19 (u / 10) (by omega)]
theorem rd_zero : rd 0 = [] := rdF_zero 20
theorem rd_len (u : Nat) : (rd u).length ≤ 20 := rdF_len 20 u
theorem ofNat_dig (d : Nat) : UInt8.ofNat ((48 + (d : Int)).toNat) = UInt8.ofNat (48 + d) := by congr 1
theorem rdF_dec (f u : Nat) (h0 : 0 < u) (h : u < 10 ^ f) : (rdF f u).reverse.map (fun n => UInt8.ofNat n.toNat) = Lib.decDigits u := by
  induction f generalizing u with
  | zero => omega
  | succ f ih =>
    have e : rdF (f + 1) u = (48 + (u % 10 : Nat) : Int) :: rdF f (u / 10) := by
      show (if u = 0 then [] else _) = _
      rw [if_neg (by omega)]
    rw [e, List.reverse_cons, List.map_append, Lib.decDigits]
    by_cases hs : u < 10
    · rw [dif_pos hs]
      have e0 : u / 10 = 0 := by omega
      have e1 : u % 10 = u := by omega
      rw [e0, rdF_zero, e1, List.reverse_nil, List.map_nil, List.nil_append, List.map_cons, List.map_nil, ofNat_dig]
    · rw [dif_neg hs, ih (u / 10) (by omega) (by rw [Nat.pow_succ] at h; omega), List.map_cons, List.map_nil, ofNat_dig]
theorem dec_pos (u : Nat) (h0 : 0 < u) (h : u < 10 ^ 20) : strOfNums (rd u).reverse = ⟨(Lib.itoa (u : Int)).toArray⟩ := by
  unfold strOfNums Lib.itoa rd
  rw [rdF_dec 20 u h0 h, if_neg (by omega), Int.toNat_natCast]
theorem dec_neg (u : Nat) (h0 : 0 < u) (h : u < 10 ^ 20) : strOfNums (rd u ++ [45]).reverse = ⟨(Lib.itoa (-(u : Int))).toArray⟩ := by
  unfold strOfNums Lib.itoa rd
  rw [List.reverse_append, List.map_append, rdF_dec 20 u h0 h, if_pos (by omega), Int.natAbs_neg, Int.natAbs_natCast]
  rfl
theorem dec_zero : (⟨#[48]⟩ : ByteArray) = ⟨(Lib.itoa 0).toArray⟩ := by
  unfold Lib.itoa
  rw [if_neg (by omega), Lib.decDigits, dif_pos (by decide)]
  rfl

def decS (n : Int) : ByteArray := ⟨(Lib.itoa n).toArray⟩
def StrPost (s : ByteArray) (w : World) (e : Ending) (w' : World) : Prop := e = .returned (.string s) ∧ Below w.heap.size w w'
theorem drop_rev (xs : List Int) (k : Nat) (h : k < xs.length) : (xs.drop k).reverse = (xs.drop (k + 1)).reverse ++ [atN xs k] := by
  rw [atN_is xs k h, List.drop_eq_getElem_cons h, List.reverse_cons]

set_option maxHeartbeats 1000000 in
set_option maxRecDepth 100000 in
theorem l01Dec_any (n : Int) (h0 : -9223372036854775808 ≤ n) (h1 : n ≤ 9223372036854775807) (w : World) :
    Calls Tryd.prog 48 #[.int .i64 n] w (StrPost (decS n) w) := by
  by_cases hz : n = 0
  · subst hz
    go_enter Tryd.func48, Tryd.ntmps48
    go_wp2_with fail
    go_ret
    exact ⟨by rw [dec_zero]; rfl, Below.refl _ _⟩
  · have hzb : (n == 0) = false := beq_eq_false_iff_ne.2 hz
    by_cases hneg : n < 0
    · obtain ⟨u, hu⟩ : ∃ u : Nat, n = -(u : Int) := ⟨n.natAbs, by omega⟩
      subst hu
      have hu0 : 0 < u := by omega
      have hub : u < 10 ^ 20 := by have : u ≤ 9223372036854775808 := by omega
                                   exact Nat.lt_of_le_of_lt this (by decide)
      have HD := Lib.hid (dec_neg u hu0 hub)
      clear hz
      go_enter Tryd.func48, Tryd.ntmps48
      go_wp2_with fail
      go_loopw [3, 4] (fun v t wr => ∃ (m : Nat) (ds : List Int), t = .int .i64 (-(m : Int)) ∧ m ≤ u ∧ ds ++ rd m = rd u ∧ OwnB wr w.heap.size v ds ∧ Below w.heap.size w wr) (fun _ t _ => (intOf t).natAbs)
      case atStart => exact ⟨u, [], rfl, Nat.le_refl _, rfl, OwnB.lit _ _ (Nat.le_refl _), (Below.refl _ _).alloc (Nat.le_refl _) _⟩
      case round =>
        obtain ⟨m, ds, rfl, hm, hd, ho, hb⟩ := hrel
        have HO := Lib.hid ho
        have HB := Lib.hid hb
        have hl : ds.length ≤ 20 := by have := rd_len u; rw [← hd] at this; simp at this; omega
        have HR := Lib.hid hd
        clear ho hb hd
        by_cases h : 0 < m
        · have hmb : ((-(m : Int)) == 0) = false := beq_eq_false_iff_ne.2 (by omega)
          have hmn : ((-(m : Int)) != 0) = true := bne_iff_ne.2 (by omega)
          have hmod := Int.emod_nonneg (m : Int) (show (10 : Int) ≠ 0 by omega)
          have hmod2 := Int.emod_lt_of_pos (m : Int) (show (0 : Int) < 10 by omega)
          have HS := Lib.hid (rd_step m h (by omega))
          have hw8 : IntKind.u8.wrap (48 + (m : Int) % 10) = 48 + (m : Int) % 10 := by rw [IntKind.wrap_u8]; omega
          by_cases h9 : 0 < m % 10
          · have hlt : -((m : Int) % 10) < 0 := by omega
            go_wp2_with (at_builtin; refine push_byte rfl (.tmp 22) (.tmp 26) rfl _ w.heap.size _ ds _ rfl HO.out rfl (by omega) HB.out.size ?_; intro v4 w4 ho4 hg4 hl4; have HO4 := Lib.hid ho4; have HB4 := Lib.hid (below_grown (HB.out.alloc HB.out.size _) hg4 (fun g e => (HO.out.lt e).1) (by have := HB.out.size; simp; omega)); clear ho4 hg4 hl4)
            go_roundw
            case rel => exact ⟨m / 10, ds ++ [48 + (m : Int) % 10], congrArg (Value.int .i64) (by omega), by omega, by rw [← HR.out, HS.out, List.append_assoc]; rfl, HO4.out, HB4.out⟩
            case measure => simp [intOf]; omega
          · have hz0 : (m : Int) % 10 = 0 := by omega
            go_wp2_with (at_builtin; refine push_byte rfl (.tmp 22) (.tmp 26) rfl _ w.heap.size _ ds _ rfl HO.out rfl (by omega) HB.out.size ?_; intro v4 w4 ho4 hg4 hl4; have HO4 := Lib.hid ho4; have HB4 := Lib.hid (below_grown (HB.out.alloc HB.out.size _) hg4 (fun g e => (HO.out.lt e).1) (by have := HB.out.size; simp; omega)); clear ho4 hg4 hl4)
            go_roundw
            case rel => exact ⟨m / 10, ds ++ [48 + (m : Int) % 10], congrArg (Value.int .i64) (by omega), by omega, by rw [← HR.out, HS.out, List.append_assoc]; rfl, by rw [hz0]; exact HO4.out, HB4.out⟩
            case measure => simp [intOf]; omega
        · have hm0 : m = 0 := by omega
          subst hm0
          have hds : ds = rd u := by have := HR.out; rw [rd_zero, List.append_nil] at this; exact this
          subst hds
          obtain ⟨xs, hxs⟩ : ∃ xs, xs = rd u ++ [45] := ⟨_, rfl⟩
          have hLL : xs.length ≤ 21 := by have := rd_len u; rw [hxs, List.length_append]; show (rd u).length + 1 ≤ 21; omega
          have hLp : 0 < xs.length := by rw [hxs, List.length_append]; show 0 < (rd u).length + 1; omega
          obtain ⟨L, hL⟩ : ∃ L, L = xs.length := ⟨_, rfl⟩
          have HL := Lib.hid hL
          have HXS := Lib.hid hxs
          rw [← hL] at hLL hLp
          clear hL hxs
          go_wp2_with (at_builtin; go_must (refine push_byte rfl (.tmp 30) (.tmp 31) rfl _ w.heap.size _ (rd u) _ rfl HO.out rfl (by omega) HB.out.size ?_; intro v7 w7 ho7 hg7 hl7; rw [← HXS.out] at ho7; have HB7 := Lib.hid (below_grown (HB.out.alloc HB.out.size _) hg7 (fun g e => (HO.out.lt e).1) (by have := HB.out.size; simp; omega)); clear hg7 hl7; obtain ⟨g5, c5, hv5, hg5, hB5, hc5⟩ := ho7.reads (by have := HL.out; omega); rw [← HL.out] at hv5 hc5; subst hv5; have HO7 := Lib.hid ho7; have HC5 := Lib.hid hc5; have HS5 := Lib.hid HB7.out.size; clear hc5 ho7))
          go_loopw [6, 7] (fun v t wq => ∃ k : Nat, k ≤ L ∧ t = .int .i64 ((k : Int) - 1) ∧ OwnB wq w7.heap.size v (xs.drop k).reverse ∧ Below w7.heap.size w7 wq) (fun _ t _ => (intOf t + 1).toNat)
          case atStart => exact ⟨L, Nat.le_refl _, congrArg (Value.int .i64) (by omega), by rw [HL.out, List.drop_length]; exact OwnB.lit _ _ (Nat.le_refl _), (Below.refl _ _).alloc (Nat.le_refl _) _⟩
          case round =>
            obtain ⟨k, hk, rfl, ho, hb⟩ := hrel
            have HO2 := Lib.hid ho
            have HB2 := Lib.hid hb
            clear ho hb
            by_cases hk0 : 0 < k
            · obtain ⟨i, rfl⟩ : ∃ i, k = i + 1 := ⟨k - 1, by omega⟩
              have e1 : (((i + 1 : Nat) : Int) - 1) = (i : Int) := by omega
              rw [e1]
              have hi0 : (0 : Int) ≤ i := by omega
              have hiL : (i : Int) < L := by omega
              have hci := (HB2.out.cell (by simpa using hg5)).trans (HC5.out i (by omega))
              have hlen : (xs.drop (i + 1)).reverse.length ≤ L := by rw [List.length_reverse, List.length_drop]; have := HL.out; omega
              have HDR := Lib.hid (drop_rev xs i (by have := HL.out; omega))
              generalize hz : atN xs i = z at hci
              have HZ := Lib.hid hz
              clear hz e1
              go_wp2_with (at_builtin; go_must (refine push_byte rfl (.tmp 41) (.tmp 46) rfl _ w7.heap.size _ (xs.drop (i + 1)).reverse _ rfl HO2.out rfl (by omega) HB2.out.size ?_; intro v6 w6 ho6 hg6 hl6; have HO6 := Lib.hid ho6; have HB6 := Lib.hid (below_grown (HB2.out.alloc HB2.out.size _) hg6 (fun g e => (HO2.out.lt e).1) (by have := HB2.out.size; simp; omega)); clear ho6 hg6 hl6))
              go_roundw
              case rel => exact ⟨i, by omega, congrArg (Value.int .i64) (by omega), by rw [HDR.out, HZ.out]; exact HO6.out, HB6.out⟩
              case measure => simp [intOf]
            · have hk00 : k = 0 := by omega
              subst hk00
              have hcv := conv_row HO2.out
              have HF := Lib.hid (show strOfNums (xs.drop 0).reverse = decS (-(u : Int)) by rw [List.drop_zero, HXS.out]; exact HD.out)
              rw [HF.out] at hcv
              have hneg1 : ¬ ((0 : Nat) : Int) - 1 ≥ 0 := by omega
              go_wp2_with fail
              go_ret
              exact ⟨rfl, (HB7.out.trans (HB2.out.mono HB7.out.size))⟩
    · obtain ⟨u, hu⟩ : ∃ u : Nat, n = (u : Int) := ⟨n.toNat, by omega⟩
      subst hu
      have hu0 : 0 < u := by omega
      have hub : u < 10 ^ 20 := by have : u ≤ 9223372036854775808 := by omega
                                   exact Nat.lt_of_le_of_lt this (by decide)
      have HD := Lib.hid (dec_pos u hu0 hub)
      clear hz
      go_enter Tryd.func48, Tryd.ntmps48
      go_wp2_with fail
      go_loopw [3, 4] (fun v t wr => ∃ (m : Nat) (ds : List Int), t = .int .i64 (m : Int) ∧ m ≤ u ∧ ds ++ rd m = rd u ∧ OwnB wr w.heap.size v ds ∧ Below w.heap.size w wr) (fun _ t _ => (intOf t).natAbs)
      case atStart => exact ⟨u, [], rfl, Nat.le_refl _, rfl, OwnB.lit _ _ (Nat.le_refl _), (Below.refl _ _).alloc (Nat.le_refl _) _⟩
      case round =>
        obtain ⟨m, ds, rfl, hm, hd, ho, hb⟩ := hrel
        have HO := Lib.hid ho
        have HB := Lib.hid hb
        have hl : ds.length ≤ 20 := by have := rd_len u; rw [← hd] at this; simp at this; omega
        have HR := Lib.hid hd
        clear ho hb hd
        by_cases h : 0 < m
        · have hmb : ((m : Int) == 0) = false := beq_eq_false_iff_ne.2 (by omega)
          have hmn : ((m : Int) != 0) = true := bne_iff_ne.2 (by omega)
          have hmod := Int.emod_nonneg (m : Int) (show (10 : Int) ≠ 0 by omega)
          have hmod2 := Int.emod_lt_of_pos (m : Int) (show (0 : Int) < 10 by omega)
          have HS := Lib.hid (rd_step m h (by omega))
          have hw8 : IntKind.u8.wrap (48 + (m : Int) % 10) = 48 + (m : Int) % 10 := by rw [IntKind.wrap_u8]; omega
          have hlt : ¬ (m : Int) % 10 < 0 := by omega
          go_wp2_with (at_builtin; refine push_byte rfl (.tmp 22) (.tmp 26) rfl _ w.heap.size _ ds _ rfl HO.out rfl (by omega) HB.out.size ?_; intro v4 w4 ho4 hg4 hl4; have HO4 := Lib.hid ho4; have HB4 := Lib.hid (below_grown (HB.out.alloc HB.out.size _) hg4 (fun g e => (HO.out.lt e).1) (by have := HB.out.size; simp; omega)); clear ho4 hg4 hl4)
          go_roundw
          case rel => exact ⟨m / 10, ds ++ [48 + (m : Int) % 10], congrArg (Value.int .i64) (by omega), by omega, by rw [← HR.out, HS.out, List.append_assoc]; rfl, HO4.out, HB4.out⟩
          case measure => simp [intOf]; omega
        · have hm0 : m = 0 := by omega
          subst hm0
          have hds : ds = rd u := by have := HR.out; rw [rd_zero, List.append_nil] at this; exact this
          subst hds
          have hnn : ¬ (u : Int) < 0 := by omega
          rename World => wd
          have hLL : (rd u).length ≤ 21 := by have := rd_len u; omega
          have hLp : 0 < (rd u).length := by rw [rd_step u hu0 hub]; simp
          obtain ⟨g5, c5, hv5, hg5, hB5, hc5⟩ := HO.out.reads hLp
          subst hv5
          obtain ⟨xs, hxs⟩ : ∃ xs, xs = rd u := ⟨_, rfl⟩
          rw [← hxs] at hLL hLp hc5 HO ⊢
          obtain ⟨L, hL⟩ : ∃ L, L = xs.length := ⟨_, rfl⟩
          rw [← hL] at hLL hLp hc5 ⊢
          have HL := Lib.hid hL
          have HXS := Lib.hid hxs
          have HC5 := Lib.hid hc5
          have HS5 := Lib.hid HB.out.size
          clear hL hxs hc5
          go_wp2_with fail
          go_loopw [6, 7] (fun v t wq => ∃ k : Nat, k ≤ L ∧ t = .int .i64 ((k : Int) - 1) ∧ OwnB wq wd.heap.size v (xs.drop k).reverse ∧ Below wd.heap.size wd wq) (fun _ t _ => (intOf t + 1).toNat)
          case atStart => exact ⟨L, Nat.le_refl _, congrArg (Value.int .i64) (by omega), by rw [HL.out, List.drop_length]; exact OwnB.lit _ _ (Nat.le_refl _), (Below.refl _ _).alloc (Nat.le_refl _) _⟩
          case round =>
            obtain ⟨k, hk, rfl, ho, hb⟩ := hrel
            have HO2 := Lib.hid ho
            have HB2 := Lib.hid hb
            clear ho hb
            by_cases hk0 : 0 < k
            · obtain ⟨i, rfl⟩ : ∃ i, k = i + 1 := ⟨k - 1, by omega⟩
              have e1 : (((i + 1 : Nat) : Int) - 1) = (i : Int) := by omega
              rw [e1]
              have hi0 : (0 : Int) ≤ i := by omega
              have hiL : (i : Int) < L := by omega
              have hci := (HB2.out.cell (by simpa using hg5)).trans (HC5.out i (by omega))
              have hlen : (xs.drop (i + 1)).reverse.length ≤ L := by rw [List.length_reverse, List.length_drop]; have := HL.out; omega
              have HDR := Lib.hid (drop_rev xs i (by have := HL.out; omega))
              generalize hz : atN xs i = z at hci
              have HZ := Lib.hid hz
              clear hz e1
              go_wp2_with (at_builtin; go_must (refine push_byte rfl (.tmp 41) (.tmp 46) rfl _ wd.heap.size _ (xs.drop (i + 1)).reverse _ rfl HO2.out rfl (by omega) HB2.out.size ?_; intro v6 w6 ho6 hg6 hl6; have HO6 := Lib.hid ho6; have HB6 := Lib.hid (below_grown (HB2.out.alloc HB2.out.size _) hg6 (fun g e => (HO2.out.lt e).1) (by have := HB2.out.size; simp; omega)); clear ho6 hg6 hl6))
              go_roundw
              case rel => exact ⟨i, by omega, congrArg (Value.int .i64) (by omega), by rw [HDR.out, HZ.out]; exact HO6.out, HB6.out⟩
              case measure => simp [intOf]
            · have hk00 : k = 0 := by omega
              subst hk00
              have hcv := conv_row HO2.out
              have HF := Lib.hid (show strOfNums (xs.drop 0).reverse = decS (u : Int) by rw [List.drop_zero, HXS.out]; exact HD.out)
              rw [HF.out] at hcv
              have hneg1 : ¬ ((0 : Nat) : Int) - 1 ≥ 0 := by omega
              go_wp2_with fail
              go_ret
              exact ⟨rfl, (HB.out.trans (HB2.out.mono HB.out.size))⟩
end Go.Proofs.YtfgfoggnhjchiaaDoor
