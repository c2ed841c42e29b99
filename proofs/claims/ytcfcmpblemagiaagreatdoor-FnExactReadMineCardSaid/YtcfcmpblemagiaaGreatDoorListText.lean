/-
  FnExactListText: for every list of numbers the program's ListText returns what the reference's returns; the list stays as it was.
-/
import Derived.Test.YtcfcmpblemagiaaGreatDoorListT
import Derived.Test.YtcfcmpblemagiaaGreatDoorRowI
import Derived.Deep.QuietTactic
import Derived.BigQuiet
import Derived.Test.YtcfcmpblemagiaaGreatDoorNum
import Derived.RowKit3
import Derived.ProofKit
import Derived.OpenShut
import Derived.Lib.SmallJoins
namespace Go.Proofs.YtcfcmpblemagiaaGreatDoor
open Go.RowKit
set_option linter.unusedVariables false

def IB (xs : List Int) : Prop := ∀ k, k < xs.length → -9223372036854775808 ≤ atI xs k ∧ atI xs k ≤ 9223372036854775807
def inN (xs : List Int) (k : Nat) : Bool := inB (atI xs k) (-1000000000000) 1000000000000
def inAll (xs : List Int) (k : Nat) : Bool := (List.range k).all (inN xs)
theorem inAll_next (xs : List Int) (k : Nat) : inAll xs (k + 1) = (inAll xs k && inN xs k) := by unfold inAll; rw [List.range_succ, List.all_append]; simp
theorem inAll_no (xs : List Int) (k n : Nat) (h : k < n) (hk : inN xs k = false) : inAll xs n = false := by
  unfold inAll
  rw [List.all_eq_false]
  exact ⟨k, List.mem_range.2 h, by simp [hk]⟩
theorem fits_is (xs : List Int) (n : Nat) (hn : xs.length = n) : fitsB xs = (inAll xs n && decide (n ≤ 64)) := by subst hn; rfl

def partT (xs : List Int) (k : Nat) : List ByteArray := (xs.take k).map decS
theorem partT_len (xs : List Int) (k : Nat) (h : k ≤ xs.length) : (partT xs k).length = k := by simp [partT]; omega
theorem partT_next (xs : List Int) (k : Nat) (h : k < xs.length) : partT xs (k + 1) = partT xs k ++ [decS (atI xs k)] := by
  unfold partT; rw [List.take_succ_eq_append_getElem h, List.map_append, atI_is xs k h]; rfl
theorem join_is (xs : List Int) (n : Nat) (hn : xs.length = n) : (⟨(Lib.join ((partT xs n).map (·.data.toList)) (⟨#[44]⟩ : ByteArray).data.toList).toArray⟩ : ByteArray) = ltT xs n := by
  have h := ltT_join xs n (by omega)
  unfold partT
  show (⟨(Lib.join (((xs.take n).map decS).map (·.data.toList)) [44]).toArray⟩ : ByteArray) = _
  rw [← h]
theorem join_len (xs : List Int) (n : Nat) (hn : xs.length = n) (hib : IB xs) : (Lib.join ((partT xs n).map (·.data.toList)) (⟨#[44]⟩ : ByteArray).data.toList).length ≤ 22 * n := by
  have h := ltT_join xs n (by omega)
  unfold partT
  show (Lib.join (((xs.take n).map decS).map (·.data.toList)) [44]).length ≤ _
  rw [← h]
  have := ltT_len xs hib n (by omega)
  exact this
theorem grown_alloc {w w1 w2 : World} {B : Nat} (hb : Below B w w1) (o : Obj) (hB : B ≤ w1.heap.size) : Below B w (w1.alloc o) := hb.alloc hB o

set_option maxHeartbeats 1000000 in
theorem ltP_any (A : Option Addr) (c : Nat) (xs : List Int) (n : Nat) (w : World) (hn : xs.length = n) (h20 : n ≤ 1048576) (hib : IB xs) (hx : Ints w w.heap.size A xs) (hp : Pow w) :
    Calls Tryz.prog 61 #[.slice A n c] w (StrPost (listText xs) w) := by
  have HX := Lib.hid hx
  have HN := Lib.hid hn
  have HI := Lib.hid hib
  have HP := Lib.hid hp
  have HF := Lib.hid (show listText xs = if (inAll xs n && decide (n ≤ 64)) then (if n = 0 then ⟨#[45]⟩ else ltT xs n) else ⟨#[]⟩ by
    unfold listText; rw [fits_is xs n hn]; subst hn; rfl)
  clear hx hn hib hp
  by_cases h64 : 64 < n
  · have h64i : (64 : Int) < n := by omega
    go_enter Tryz.func61, Tryz.ntmps61
    go_wp2_with fail
    go_ret
    refine ⟨?_, Below.refl _ _⟩
    rw [HF.out, decide_eq_false (by omega), Bool.and_false, if_neg (by simp)]; rfl
  · have h64i : ¬ (64 : Int) < n := by omega
    by_cases h0 : n = 0
    · have h0i : ((n : Int) == 0) = true := by simp [h0]
      go_enter Tryz.func61, Tryz.ntmps61
      go_wp2_with fail
      go_ret
      refine ⟨?_, Below.refl _ _⟩
      subst h0
      rw [HF.out]; rfl
    · have h0i : ((n : Int) == 0) = false := beq_eq_false_iff_ne.2 (by omega)
      obtain ⟨cur, hcs, hmk⟩ := mk_strs n h20 w
      have HO0 := Lib.hid (show OwnS (w.alloc (.cells cur 9)) w.heap.size (.slice (some ⟨w.heap.size, 0, none⟩) 0 n) (partT xs 0) from World.ownsRow_made w cur n (Nat.le_refl _) (by unfold maxLen; omega) hcs)
      clear hcs
      go_enter Tryz.func61, Tryz.ntmps61
      go_wp2_with fail
      clear hmk
      go_loopw [3, 17] (fun v t wr => ∃ k : Nat, k ≤ n ∧ t = .int .i64 (k : Int) ∧ inAll xs k = true ∧ OwnS wr w.heap.size v (partT xs k) ∧ Below w.heap.size w wr) (fun _ t _ => n - (intOf t).toNat)
      case atStart => exact ⟨0, Nat.zero_le _, rfl, rfl, HO0.out, (Below.refl _ _).alloc (Nat.le_refl _) _⟩
      case round =>
        obtain ⟨k, hk, rfl, ha, ho, hb⟩ := hrel
        have HA := Lib.hid ha
        have HO := Lib.hid ho
        have HB := Lib.hid hb
        clear ha ho hb
        have hpl := partT_len xs k (by have := HN.out; omega)
        have HPL := Lib.hid hpl
        clear hpl
        by_cases hlt : k < n
        · have hki : (k : Int) < n := by omega
          have hk0 : (0 : Int) ≤ k := by omega
          obtain ⟨b, off, rfl, _, hc⟩ := (HX.out.next HB.out).at_ (k := k) (by have := HN.out; omega)
          have hzb := HI.out k (by have := HN.out; omega)
          have hpn := partT_next xs k (by have := HN.out; omega)
          obtain ⟨z, hz⟩ : ∃ z, z = atI xs k := ⟨_, rfl⟩
          rw [← hz] at hc hzb hpn
          have HPN := Lib.hid hpn
          have HZ := Lib.hid hz
          have HZB := Lib.hid hzb
          clear hz hpn hzb
          cases hq : inN xs k with
          | false =>
            have hqz : inB z (-1000000000000) 1000000000000 = false := by rw [HZ.out]; exact hq
            have HQ := Lib.hid (inAll_no xs k n hlt hq)
            clear hq
            go_wp2_with (go_at_call 46; refine (within_any _ _ _ _).mono ?_; rw [hqz]; rintro e w' ⟨rfl, rfl⟩)
            go_ret
            exact ⟨by rw [HF.out, HQ.out, Bool.false_and, if_neg (by simp)]; rfl, HB.out⟩
          | true =>
            have hqz : inB z (-1000000000000) 1000000000000 = true := by rw [HZ.out]; exact hq
            have HQ := Lib.hid hq
            clear hq
            go_wp2_with (first | (go_at_call 46; refine (within_any _ _ _ _).mono ?_; rw [hqz]; rintro e w' ⟨rfl, rfl⟩) | (go_at_call 24; refine (decP_any z HZB.out.1 HZB.out.2 _ (HP.out.next HB.out HP.out.lt)).mono ?_; rintro e w2 ⟨rfl, b2⟩; have HB2 := Lib.hid (stepB HB.out b2); have HO2 := Lib.hid (HO.out.below b2); clear b2) | (at_builtin; refine push_str rfl (.tmp 24) (.tmp 27) rfl _ w.heap.size _ (partT xs k) _ rfl HO2.out rfl (by have := HPL.out; omega) HB2.out.size ?_; intro v' w4 ho4 hg4 hl4; have HO4 := Lib.hid ho4; have HB4 := Lib.hid (below_grown (HB2.out.alloc HB2.out.size _) hg4 (fun g e => (HO2.out.lt e).1) (by have := HB2.out.size; simp; omega)); clear ho4 hg4 hl4))
            go_roundw
            case rel => exact ⟨k + 1, by omega, by go_num, by rw [inAll_next, HA.out, HQ.out]; rfl, by rw [HPN.out]; exact HO4.out, HB4.out⟩
            case measure => simp [intOf]; omega
        · obtain rfl : k = n := by omega
          have hki : ¬ (k : Int) < k := by omega
          obtain ⟨A3, c3, ev, hcap, hst⟩ := HO.out.reads
          rw [HPL.out] at ev hcap
          subst ev
          have HST := Lib.hid hst
          have HCAP := Lib.hid hcap
          clear hst hcap
          obtain ⟨b3, off3, rfl, hb3, _⟩ := HST.out.at_ (k := 0) (by have := HPL.out; omega)
          have HC3 := Lib.hid (show ∀ (j : Nat) x, (partT xs k)[j]? = some x → wr.cell? ⟨b3, off3 + j, none⟩ = some (.string x) from fun j x hj => by
            have hjl : j < (partT xs k).length := by
              rcases Nat.lt_or_ge j (partT xs k).length with h | h
              · exact h
              · rw [List.getElem?_eq_none h] at hj; cases hj
            obtain ⟨b', o', e, _, h⟩ := HST.out.at_ hjl
            injection e with e; injection e with e1 e2
            subst e1 e2
            rw [h, atS_is _ j hjl]
            rw [List.getElem?_eq_getElem hjl] at hj
            injection hj with hj
            rw [hj])
          have hjn := Tryz.strings_Join b3 off3 c3 (partT xs k) ⟨#[44]⟩ wr HC3.out hb3 (by have := HPL.out; omega) (by have := HPL.out; have := HCAP.out; omega) (by have := join_len xs k HN.out HI.out; omega)
          rw [HPL.out, join_is xs k HN.out] at hjn
          go_wp2_with (go_at_call 80; refine hjn.mono ?_; rintro e w5 ⟨rfl, b5⟩; have HB5 := Lib.hid (stepB HB.out b5); clear b5)
          go_ret
          exact ⟨by rw [HF.out, HA.out, decide_eq_true (by omega), Bool.true_and, if_pos rfl, if_neg h0]; rfl, HB5.out⟩

end Go.Proofs.YtcfcmpblemagiaaGreatDoor
