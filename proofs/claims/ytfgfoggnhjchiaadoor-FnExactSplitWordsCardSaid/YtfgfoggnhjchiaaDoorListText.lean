/-
  FnExactListText: for every list of numbers the program's ListText returns what the reference's returns; the list stays as it was.
-/
import Derived.Test.YtfgfoggnhjchiaaDoorListT
import Derived.Test.YtfgfoggnhjchiaaDoorRowI
import Derived.Deep.QuietTactic
import Derived.BigQuiet
import Derived.Test.YtfgfoggnhjchiaaDoorNum
import Derived.RowKit3
import Derived.ProofKit
import Derived.OpenShut
import Derived.Lib.SmallJoins
namespace Go.Proofs.YtfgfoggnhjchiaaDoor
open Go.RowKit
set_option linter.unusedVariables false

def IB (xs : List Int) : Prop := ∀ k, k < xs.length → -9223372036854775808 ≤ atI xs k ∧ atI xs k ≤ 9223372036854775807
def inN (xs : List Int) (k : Nat) : Bool := inB (atI xs k) (-1000000000000) 1000000000000
def inAll (xs : List Int) (k : Nat) : Bool := (List.range k).all (inN xs)
theorem inAll_next (xs : List Int) (k : Nat) : inAll xs (k + 1) = (inAll xs k && inN xs k) := by unfold inAll; rw [List.range_succ, List.all_append]; simp
theorem inAll_no (xs : List Int) (k n : Nat) (h : k < n) (hk : inN xs k = false) : inAll xs n = false := by
  unfold inAll
  rw [List.all_eq_false]
  exact ⟨k, List.mem_range.2 h, by simp [hk]⟩
theorem fits_is (xs : List Int) (n : Nat) (hn : xs.length = n) : fitsB xs = (inAll xs n && decide (n ≤ 64)) := by subst hn; rfl

theorem l01Fits_any (A : Option Addr) (c : Nat) (xs : List Int) (n : Nat) (w : World) (hn : xs.length = n) (h20 : n ≤ 1048576) (hx : Ints w w.heap.size A xs) :
    Calls Tryd.prog 53 #[.slice A n c] w fun e w' => e = .returned (.bool (fitsB xs)) ∧ Below w.heap.size w w' := by
  have HX := Lib.hid hx
  have HN := Lib.hid hn
  rw [fits_is xs n hn]
  clear hx hn
  go_enter Tryd.func53, Tryd.ntmps53
  go_wp2_with fail
  go_loopw [3] (fun t wr => ∃ k : Nat, k ≤ n ∧ t = .int .i64 (k : Int) ∧ inAll xs k = true ∧ Below w.heap.size w wr) (fun t _ => n - (intOf t).toNat)
  case atStart => exact ⟨0, Nat.zero_le _, rfl, rfl, Below.refl _ _⟩
  case round =>
    obtain ⟨k, hk, rfl, ha, hb⟩ := hrel
    have HA := Lib.hid ha
    have HB := Lib.hid hb
    clear ha hb
    by_cases hlt : k < n
    · have hki : (k : Int) < n := by omega
      have hk0 : (0 : Int) ≤ k := by omega
      obtain ⟨b, off, rfl, _, hc⟩ := (HX.out.next HB.out).at_ (k := k) (by have := HN.out; omega)
      obtain ⟨z, hz⟩ : ∃ z, z = atI xs k := ⟨_, rfl⟩
      rw [← hz] at hc
      have HZ := Lib.hid hz
      clear hz
      cases hq : inN xs k with
      | true =>
        have hqz : inB z (-1000000000000) 1000000000000 = true := by rw [HZ.out]; exact hq
        have HQ := Lib.hid hq
        clear hq
        go_wp2_with (go_at_call 73; refine (l00In_is _ _ _ _ _ hqz).mono ?_; rintro e w' ⟨rfl, rfl⟩)
        go_roundw
        case rel => exact ⟨k + 1, by omega, by go_num, by rw [inAll_next, HA.out, HQ.out]; rfl, HB.out⟩
        case measure => simp [intOf]; omega
      | false =>
        have hqz : inB z (-1000000000000) 1000000000000 = false := by rw [HZ.out]; exact hq
        have HQ := Lib.hid (inAll_no xs k n hlt hq)
        clear hq
        go_wp2_with (go_at_call 73; refine (l00In_is _ _ _ _ _ hqz).mono ?_; rintro e w' ⟨rfl, rfl⟩)
        go_ret
        exact ⟨ret_bool (by rw [HQ.out, Bool.false_and]), HB.out⟩
    · obtain rfl : k = n := by omega
      have hki : ¬ (k : Int) < k := by omega
      by_cases h64 : k ≤ 64
      · have h64i : (k : Int) ≤ 64 := by omega
        go_wp2_with fail
        go_ret
        exact ⟨ret_bool (by first | rfl | (rw [HA.out]; first | done | rfl | (simp; omega))), HB.out⟩
      · have h64i : ¬ (k : Int) ≤ 64 := by omega
        go_wp2_with fail
        go_ret
        exact ⟨ret_bool (by first | rfl | (rw [HA.out]; first | done | rfl | (simp; omega))), HB.out⟩

theorem l01List_any (A : Option Addr) (c : Nat) (xs : List Int) (n : Nat) (w : World) (hn : xs.length = n) (h20 : n ≤ 1048576) (hib : IB xs) (hx : Ints w w.heap.size A xs) :
    Calls Tryd.prog 54 #[.slice A n c] w (StrPost (listT xs) w) := by
  have HX := Lib.hid hx
  have HN := Lib.hid hn
  have HI := Lib.hid hib
  have HT := Lib.hid (show listT xs = if n = 0 then ⟨#[45]⟩ else ltT xs n by subst hn; rfl)
  clear hx hn hib
  by_cases h0 : n = 0
  · have h0i : ((n : Int) == 0) = true := by simp [h0]
    go_enter Tryd.func54, Tryd.ntmps54
    go_wp2_with fail
    go_ret
    exact ⟨by rw [HT.out, if_pos h0]; rfl, Below.refl _ _⟩
  · have h0i : ((n : Int) == 0) = false := beq_eq_false_iff_ne.2 (by omega)
    go_enter Tryd.func54, Tryd.ntmps54
    go_wp2_with fail
    go_loopw [3, 4] (fun v t wr => ∃ k : Nat, k ≤ n ∧ t = .int .i64 (k : Int) ∧ v = .string (ltT xs k) ∧ Below w.heap.size w wr) (fun _ t _ => n - (intOf t).toNat)
    case atStart => exact ⟨0, Nat.zero_le _, rfl, rfl, Below.refl _ _⟩
    case round =>
      obtain ⟨k, hk, rfl, rfl, hb⟩ := hrel
      have HB := Lib.hid hb
      clear hb
      by_cases hlt : k < n
      · have hki : (k : Int) < n := by omega
        have hk0 : (0 : Int) ≤ k := by omega
        obtain ⟨b, off, rfl, _, hc⟩ := (HX.out.next HB.out).at_ (k := k) (by have := HN.out; omega)
        have hzb := HI.out k (by have := HN.out; omega)
        have hl := ltT_len xs HI.out k (by have := HN.out; omega)
        obtain ⟨z, hz⟩ : ∃ z, z = atI xs k := ⟨_, rfl⟩
        rw [← hz] at hc hzb
        have hdl := decS_len z hzb.1 hzb.2
        obtain ⟨s, hs⟩ : ∃ s, s = ltT xs k := ⟨_, rfl⟩
        rw [← hs] at hl ⊢
        by_cases hp : 0 < k
        · have hpi : (0 : Int) < k := by omega
          have HS := Lib.hid (show ltT xs (k + 1) = (s ++ ⟨#[44]⟩) ++ decS z by rw [ltT_first xs k hp, ← hs, ← hz])
          have hsz1 : s.size + (⟨#[44]⟩ : ByteArray).size ≤ 9223372036854775807 := by show s.size + 1 ≤ _; omega
          have hsz2 : (s ++ ⟨#[44]⟩ : ByteArray).size + (decS z).size ≤ 9223372036854775807 := by rw [ByteArray.size_append]; show s.size + 1 + _ ≤ _; omega
          have hzz := Lib.hid hzb
          clear hs hz hzb
          go_wp2_with (go_at_call 48; refine (l01Dec_any z hzz.out.1 hzz.out.2 _).mono ?_; rintro e w' ⟨rfl, hbb⟩; have HB2 := Lib.hid (stepB HB.out hbb); clear hbb)
          go_roundw
          case rel => exact ⟨k + 1, by omega, by go_num, by rw [HS.out], HB2.out⟩
          case measure => simp [intOf]; omega
        · have hpi : ¬ (0 : Int) < k := by omega
          have HS := Lib.hid (show ltT xs (k + 1) = s ++ decS z by
            have h0 : k = 0 := by omega
            subst h0
            rw [ltT_zero, hs, hz]; exact ByteArray.empty_append.symm)
          have hsz2 : s.size + (decS z).size ≤ 9223372036854775807 := by omega
          have hzz := Lib.hid hzb
          clear hs hz hzb
          go_wp2_with (go_at_call 48; refine (l01Dec_any z hzz.out.1 hzz.out.2 _).mono ?_; rintro e w' ⟨rfl, hbb⟩; have HB2 := Lib.hid (stepB HB.out hbb); clear hbb)
          go_roundw
          case rel => exact ⟨k + 1, by omega, by go_num, by rw [HS.out], HB2.out⟩
          case measure => simp [intOf]; omega
      · obtain rfl : k = n := by omega
        have hki : ¬ (k : Int) < k := by omega
        go_wp2_with fail
        go_ret
        exact ⟨by rw [HT.out, if_neg h0]; rfl, HB.out⟩
theorem ltS_any (A : Option Addr) (c : Nat) (xs : List Int) (n : Nat) (w : World) (hn : xs.length = n) (h20 : n ≤ 1048576) (hib : IB xs) (hx : Ints w w.heap.size A xs) :
    Calls Tryd.prog 20 #[.slice A n c] w (StrPost (listText xs) w) := by
  go_enter Tryd.func20, Tryd.ntmps20
  go_wp2_with fail
  refine (l01Fits_any A c xs n w hn h20 hx).mono ?_
  cases hf : fitsB xs with
  | false =>
    rintro e w1 ⟨rfl, b1⟩
    have HB := Lib.hid b1
    have HF := Lib.hid hf
    clear b1
    go_wp2_with fail
    go_ret
    exact ⟨by unfold listText; rw [HF.out]; rfl, HB.out⟩
  | true =>
    rintro e w1 ⟨rfl, b1⟩
    have HB := Lib.hid b1
    have HF := Lib.hid hf
    go_wp2_with fail
    refine (l01List_any A c xs n w1 hn h20 hib (hx.next HB.out)).mono ?_
    rintro e w2 ⟨rfl, b2⟩
    have HB2 := Lib.hid (stepB HB.out b2)
    clear b1 b2
    go_wp2_with fail
    go_ret
    exact ⟨by unfold listText; rw [HF.out]; rfl, HB2.out⟩

def partT (xs : List Int) (k : Nat) : List ByteArray := (xs.take k).map decS
theorem partT_len (xs : List Int) (k : Nat) (h : k ≤ xs.length) : (partT xs k).length = k := by simp [partT]; omega
theorem partT_next (xs : List Int) (k : Nat) (h : k < xs.length) : partT xs (k + 1) = partT xs k ++ [decS (atI xs k)] := by
  unfold partT; rw [List.take_succ_eq_append_getElem h, List.map_append, atI_is xs k h]; rfl
theorem join_is (xs : List Int) (n : Nat) (hn : xs.length = n) : (⟨(Lib.join ((partT xs n).map (·.data.toList)) (⟨#[44]⟩ : ByteArray).data.toList).toArray⟩ : ByteArray) = ltT xs n := by
  have h := ltT_join xs n (by omega)
  unfold partT
  show (⟨(Lib.join (((xs.take n).map decS).map (·.data.toList)) [44]).toArray⟩ : ByteArray) = _
  rw [← h]
theorem join_len (xs : List Int) (n : Nat) (hn : xs.length = n) (hib : IB xs) : (Lib.join ((partT xs n).map (·.data.toList)) (⟨#[44]⟩ : ByteArray).data.toList).length ≤ 22 * n := by
  have h := ltT_join xs n (by omega)
  unfold partT
  show (Lib.join (((xs.take n).map decS).map (·.data.toList)) [44]).length ≤ _
  rw [← h]
  have := ltT_len xs hib n (by omega)
  exact this
theorem grown_alloc {w w1 w2 : World} {B : Nat} (hb : Below B w w1) (o : Obj) (hB : B ≤ w1.heap.size) : Below B w (w1.alloc o) := hb.alloc hB o

set_option maxHeartbeats 1000000 in
theorem ltP_any (A : Option Addr) (c : Nat) (xs : List Int) (n : Nat) (w : World) (hn : xs.length = n) (h20 : n ≤ 1048576) (hib : IB xs) (hx : Ints w w.heap.size A xs) (hp : Pow w) :
    Calls Tryd.prog 22 #[.slice A n c] w (StrPost (listText xs) w) := by
  have HX := Lib.hid hx
  have HN := Lib.hid hn
  have HI := Lib.hid hib
  have HP := Lib.hid hp
  have HF := Lib.hid (show listText xs = if (inAll xs n && decide (n ≤ 64)) then (if n = 0 then ⟨#[45]⟩ else ltT xs n) else ⟨#[]⟩ by
    unfold listText; rw [fits_is xs n hn]; subst hn; rfl)
  clear hx hn hib hp
  by_cases h64 : 64 < n
  · have h64i : (64 : Int) < n := by omega
    go_enter Tryd.func22, Tryd.ntmps22
    go_wp2_with fail
    go_ret
    refine ⟨?_, Below.refl _ _⟩
    rw [HF.out, decide_eq_false (by omega), Bool.and_false, if_neg (by simp)]; rfl
  · have h64i : ¬ (64 : Int) < n := by omega
    by_cases h0 : n = 0
    · have h0i : ((n : Int) == 0) = true := by simp [h0]
      go_enter Tryd.func22, Tryd.ntmps22
      go_wp2_with fail
      go_ret
      refine ⟨?_, Below.refl _ _⟩
      subst h0
      rw [HF.out]; rfl
    · have h0i : ((n : Int) == 0) = false := beq_eq_false_iff_ne.2 (by omega)
      obtain ⟨cur, hcs, hmk⟩ := mk_strs n h20 w
      have HO0 := Lib.hid (show OwnS (w.alloc (.cells cur 9)) w.heap.size (.slice (some ⟨w.heap.size, 0, none⟩) 0 n) (partT xs 0) from World.ownsRow_made w cur n (Nat.le_refl _) (by unfold maxLen; omega) hcs)
      clear hcs
      go_enter Tryd.func22, Tryd.ntmps22
      go_wp2_with fail
      clear hmk
      go_loopw [3, 17] (fun v t wr => ∃ k : Nat, k ≤ n ∧ t = .int .i64 (k : Int) ∧ inAll xs k = true ∧ OwnS wr w.heap.size v (partT xs k) ∧ Below w.heap.size w wr) (fun _ t _ => n - (intOf t).toNat)
      case atStart => exact ⟨0, Nat.zero_le _, rfl, rfl, HO0.out, (Below.refl _ _).alloc (Nat.le_refl _) _⟩
      case round =>
        obtain ⟨k, hk, rfl, ha, ho, hb⟩ := hrel
        have HA := Lib.hid ha
        have HO := Lib.hid ho
        have HB := Lib.hid hb
        clear ha ho hb
        have hpl := partT_len xs k (by have := HN.out; omega)
        have HPL := Lib.hid hpl
        clear hpl
        by_cases hlt : k < n
        · have hki : (k : Int) < n := by omega
          have hk0 : (0 : Int) ≤ k := by omega
          obtain ⟨b, off, rfl, _, hc⟩ := (HX.out.next HB.out).at_ (k := k) (by have := HN.out; omega)
          have hzb := HI.out k (by have := HN.out; omega)
          have hpn := partT_next xs k (by have := HN.out; omega)
          obtain ⟨z, hz⟩ : ∃ z, z = atI xs k := ⟨_, rfl⟩
          rw [← hz] at hc hzb hpn
          have HPN := Lib.hid hpn
          have HZ := Lib.hid hz
          have HZB := Lib.hid hzb
          clear hz hpn hzb
          cases hq : inN xs k with
          | false =>
            have hqz : inB z (-1000000000000) 1000000000000 = false := by rw [HZ.out]; exact hq
            have HQ := Lib.hid (inAll_no xs k n hlt hq)
            clear hq
            go_wp2_with (go_at_call 55; refine (within_any _ _ _ _).mono ?_; rw [hqz]; rintro e w' ⟨rfl, rfl⟩)
            go_ret
            exact ⟨by rw [HF.out, HQ.out, Bool.false_and, if_neg (by simp)]; rfl, HB.out⟩
          | true =>
            have hqz : inB z (-1000000000000) 1000000000000 = true := by rw [HZ.out]; exact hq
            have HQ := Lib.hid hq
            clear hq
            go_wp2_with (first | (go_at_call 55; refine (within_any _ _ _ _).mono ?_; rw [hqz]; rintro e w' ⟨rfl, rfl⟩) | (go_at_call 14; refine (decP_any z HZB.out.1 HZB.out.2 _ (HP.out.next HB.out HP.out.lt)).mono ?_; rintro e w2 ⟨rfl, b2⟩; have HB2 := Lib.hid (stepB HB.out b2); have HO2 := Lib.hid (HO.out.below b2); clear b2) | (at_builtin; refine push_str rfl (.tmp 24) (.tmp 27) rfl _ w.heap.size _ (partT xs k) _ rfl HO2.out rfl (by have := HPL.out; omega) HB2.out.size ?_; intro v' w4 ho4 hg4 hl4; have HO4 := Lib.hid ho4; have HB4 := Lib.hid (below_grown (HB2.out.alloc HB2.out.size _) hg4 (fun g e => (HO2.out.lt e).1) (by have := HB2.out.size; simp; omega)); clear ho4 hg4 hl4))
            go_roundw
            case rel => exact ⟨k + 1, by omega, by go_num, by rw [inAll_next, HA.out, HQ.out]; rfl, by rw [HPN.out]; exact HO4.out, HB4.out⟩
            case measure => simp [intOf]; omega
        · obtain rfl : k = n := by omega
          have hki : ¬ (k : Int) < k := by omega
          obtain ⟨A3, c3, ev, hcap, hst⟩ := HO.out.reads
          rw [HPL.out] at ev hcap
          subst ev
          have HST := Lib.hid hst
          have HCAP := Lib.hid hcap
          clear hst hcap
          obtain ⟨b3, off3, rfl, hb3, _⟩ := HST.out.at_ (k := 0) (by have := HPL.out; omega)
          have HC3 := Lib.hid (show ∀ (j : Nat) x, (partT xs k)[j]? = some x → wr.cell? ⟨b3, off3 + j, none⟩ = some (.string x) from fun j x hj => by
            have hjl : j < (partT xs k).length := by
              rcases Nat.lt_or_ge j (partT xs k).length with h | h
              · exact h
              · rw [List.getElem?_eq_none h] at hj; cases hj
            obtain ⟨b', o', e, _, h⟩ := HST.out.at_ hjl
            injection e with e; injection e with e1 e2
            subst e1 e2
            rw [h, atS_is _ j hjl]
            rw [List.getElem?_eq_getElem hjl] at hj
            injection hj with hj
            rw [hj])
          have hjn := Tryd.strings_Join b3 off3 c3 (partT xs k) ⟨#[44]⟩ wr HC3.out hb3 (by have := HPL.out; omega) (by have := HPL.out; have := HCAP.out; omega) (by have := join_len xs k HN.out HI.out; omega)
          rw [HPL.out, join_is xs k HN.out] at hjn
          go_wp2_with (go_at_call 56; refine hjn.mono ?_; rintro e w5 ⟨rfl, b5⟩; have HB5 := Lib.hid (stepB HB.out b5); clear b5)
          go_ret
          exact ⟨by rw [HF.out, HA.out, decide_eq_true (by omega), Bool.true_and, if_pos rfl, if_neg h0]; rfl, HB5.out⟩

theorem law_ListText (A : Option Addr) (n c : Nat) (xs : List Int) (hn : xs.length = n) (hm : n ≤ maxLen) (hw : ∀ z ∈ xs, -9223372036854775808 ≤ z ∧ z ≤ 9223372036854775807) (w : World) (hx : Ints w w.heap.size A xs) (hp : Pow w) :
    Calls Tryd.prog 5 #[.slice A n c] w fun e w' => e = .returned (.bool true) ∧ Below w.heap.size w w' := by
  unfold maxLen at hm
  have HIB := Lib.hid (show IB xs from fun k hk => by rw [atI_is xs k hk]; exact hw _ (List.getElem_mem hk))
  have HX := Lib.hid hx
  have HN := Lib.hid hn
  have HP := Lib.hid hp
  clear hx hn hw hp
  by_cases h20 : n ≤ 1048576
  · have h20i : ¬ (1048576 : Int) < n := by omega
    go_enter Tryd.func5, Tryd.ntmps5
    go_wp2_with fail
    refine (toI_any A c xs n _ HN.out h20 HX.out).mono ?_; rintro e w1 ⟨g1, rfl, i1, b1, _, _⟩
    have HB1 := Lib.hid b1
    have HX1 := Lib.hid (HX.out.next b1)
    have HP1 := Lib.hid (HP.out.step b1)
    clear b1
    go_wp2_with fail
    refine (ltS_any _ _ xs n _ HN.out h20 HIB.out i1).mono ?_; rintro e w2 ⟨rfl, b2⟩
    have HB2 := Lib.hid (stepB HB1.out b2)
    have HX2 := Lib.hid (HX1.out.next b2)
    have HP2 := Lib.hid (HP1.out.step b2)
    clear b2 i1
    go_wp2_with fail
    refine (toI_any A c xs n _ HN.out h20 HX2.out).mono ?_; rintro e w3 ⟨g3, rfl, i3, b3, _, _⟩
    have HB3 := Lib.hid (stepB HB2.out b3)
    have HX3 := Lib.hid (HX2.out.next b3)
    have HP3 := Lib.hid (HP2.out.step b3)
    have HI3 := Lib.hid i3
    clear b3 i3
    go_wp2_with fail
    refine (ltP_any _ _ xs n _ HN.out h20 HIB.out HI3.out HP3.out).mono ?_; rintro e w4 ⟨rfl, b4⟩
    have HB4 := Lib.hid (stepB HB3.out b4)
    have HX4 := Lib.hid (HX3.out.next b4)
    have HI4 := Lib.hid (HI3.out.next b4)
    clear b4
    go_wp2_with fail
    refine (toI_any A c xs n _ HN.out h20 HX4.out).mono ?_; rintro e w5 ⟨g5, rfl, i5, b5, _, _⟩
    have HB5 := Lib.hid (stepB HB4.out b5)
    have HI5 := Lib.hid (HI4.out.next b5)
    have HJ5 := Lib.hid i5
    clear b5 i5
    go_wp2_with fail
    refine (eqI_same _ _ _ _ xs n _ HN.out (by omega) HI5.out HJ5.out).mono ?_; rintro e w6 ⟨rfl, b6⟩
    have HB6 := Lib.hid (stepB HB5.out b6)
    clear b6
    go_wp2_with fail
    go_ret
    exact ⟨rfl, HB6.out⟩
  · have h20i : (1048576 : Int) < n := by omega
    go_enter Tryd.func5, Tryd.ntmps5
    go_wp2_with fail
    go_ret
    exact ⟨rfl, Below.refl _ _⟩

/-! ### the row of FnExactListText: the arguments are opened, the walk is met, each argument reads behind the call as before -/
namespace fnExactListText
open Go.ChangeShapes Go.WideShapes Go.ChangeAt Go.RowKit Go.Joins
open Go.ChangeMaps (open_string shut_string)
set_option linter.unusedVariables false
set_option maxRecDepth 100000 in
theorem lifted (os : Os) (started : os.Started) (H : Type) (enc : TypeId × Value → H) :
    ReturnsInHanded {} Tryd.checked os 5 .any (fun w args => (Rows.fnExactListTextSpec.pre enc Tryd.prog Tryd.f5 [] false w args ∧ laidMetH Tryd.prog Rows.fnExactListTextRow.laid w) ∧ sizedMet enc Tryd.prog Tryd.f5 (OpenSpec.ofChange Rows.fnExactListTextSpec) false w args) (Rows.fnExactListTextSpec.post enc Tryd.prog Tryd.f5 false true false false) := by
  refine returnsInHanded_of_change_and (C := Tryd.checked) (X := fun w _ => laidMetH Tryd.prog Rows.fnExactListTextRow.laid w) (fun _ _ _ hh h => h.of_heap hh) own started (by kernel_rfl) Tryd.func5
    (ChangeSpec.witness_shaped (enc := enc) (C := Tryd.checked) (os := os) (X := fun w _ => laidMetH Tryd.prog Rows.fnExactListTextRow.laid w) false (World.doorLaid Tryd.prog 72 os) #[.slice none 0 0] 8 rfl (World.shaped_of_RefB (by kernel_rfl) (by kernel_rfl)) (by kernel_rfl) (by kernel_rfl) (by kernel_rfl) (pow3_door os _)) ?_
  intro W base args ds gs before hval0 hW _ _ hL _
  have hval : ∀ (j : Nat) t v, Tryd.f5.params[j]? = some t → args[j]? = some v → Value.okWide Tryd.prog W .any base t v := hval0
  have hW' := hW
  obtain ⟨p, q, hA0, hV, rfl, hfz, hnd⟩ := hW
  have hA : DataW.TrodAll enc Tryd.prog W 0 (fun _ => true) true Tryd.f5.params.toList args.toList ds p := hA0
  rw [Tryd.params5] at hA hval
  obtain ⟨v0, vs0, d0, ds0, p0, q0, hargs, rfl, rfl, h0, r0⟩ := trodAll_cons hA
  obtain ⟨rfl, rfl, rfl⟩ := trodAll_nil r0
  obtain rfl : args = #[v0] := by cases args; simp_all
  obtain ⟨rfl, rfl⟩ := trodVars_none hV
  clear hA0 hval0
  simp only [List.append_nil] at hW'
  have lt0 : ∀ x ∈ p0, x.block < W.heap.size := fun x hx => by simpa using hW'.lt x (by simp [hx])
  have k0 := h0
  obtain ⟨A0, len0, cap0, rfl⟩ := okWide_slice Tryd.underlying29 (hval 0 29 v0 rfl rfl)
  obtain ⟨xs0, hn0, hm0, hw0, hx0⟩ := view_ints Tryd.underlying29 Tryd.underlying2 (by kernel_rfl) h0
  refine (law_ListText A0 len0 cap0 xs0 hn0 hm0 hw0 W hx0 (pow3 hL)).mono fun e W' ⟨he, hb⟩ => ?_
  subst he
  exact ⟨_, rfl, _, _, _, _, _, [], hW', (trodAll_cons_mk (shut_bool Tryd.underlying4 _) trodAll_mk0), (trodAll_cons_mk (Below.trod laidOut (by kernel_rfl) (of_decide_eq_true (by kernel_rfl)) k0 hb lt0) trodAll_mk0), rfl, hb.frame _, fun h => by cases h⟩

theorem proved : Rows.FnExactListTextSaid :=
  OpenClaim.holds_of_wide 5 Tryd.f5 rfl rfl rfl rfl rfl rfl rfl ⟨rfl, rfl, rfl, rfl, rfl⟩ rfl rfl rfl rfl rfl (by kernel_rfl) Tryd.func5 (by kernel_rfl)
    (of_decide_eq_true (by kernel_rfl)) (by unfold Func.isWrapper; first | (rw [if_pos (by decide +kernel)]; kernel_rfl) | (rw [if_neg (by decide +kernel)]; exact ⟨rfl, rfl⟩))
    (fun os started H enc _ => lifted os started H enc)
theorem card : Rows.FnExactListTextCardSaid :=
  Claim7.holds_tied_plain_at .later [] _ true Rows.fnExactListTextCard.stood.harness Rows.fnExactListTextCard.stood.looks
    proved (fun _ h => by cases h) (by kernel_rfl) (fun _ h => by cases h) fnExactListText_row_tie rfl ⟨rfl, rfl⟩ (by kernel_rfl) rfl
    (fun f fn hf hfn => by
      obtain rfl : f = 5 := Option.some.inj ((show Tryd.prog.funcNamed "loop.example/g01021/laws.FnExactListText" = some 5 by kernel_rfl).symm.trans hf) |>.symm
      obtain rfl : fn = Tryd.f5 := (Option.some.inj (Tryd.func5.symm.trans hfn)).symm
      exact ⟨by kernel_rfl, fun j t ht => by
        rw [Tryd.params5] at ht
        have hm : t ∈ [29] := by simpa using Array.mem_of_getElem? ht
        have hall : ([29].all fun u => !Tryd.prog.wantsStandIn u) = true := by kernel_rfl
        exact (show Tryd.prog.wantsStandIn t = false by simpa using List.all_eq_true.1 hall t hm)⟩)
    (by kernel_rfl)
#print axioms card
end fnExactListText
end Go.Proofs.YtfgfoggnhjchiaaDoor
