/-
  FnExactReadDecimal: for every text the program's ReadDecimal returns what the reference's returns.
-/
import Derived.Test.YtcfcmpblemagiaaGreatDoorReadNum
import Derived.Test.YtcfcmpblemagiaaGreatDoorErrs
import Derived.Lib.AtoiErrMem
import Derived.Test.YtcfcmpblemagiaaGreatDoorNum
import Derived.RowKit3
import Derived.ProofKit
import Derived.OpenShut
import Derived.Lib.SmallJoins
namespace Go.Proofs.YtcfcmpblemagiaaGreatDoor
open Go.RowKit
set_option linter.unusedVariables false

def numOk (l : List UInt8) : Prop := ∃ v, Lib.parseIntB 64 l = .ok v
def ParsePost (l : List UInt8) (w : World) (e : Ending) (w' : World) : Prop :=
  Below w.heap.size w w' ∧ ((∃ v, Lib.parseIntB 64 l = .ok v ∧ e = .returned (.tuple #[.int .i64 v, .nilIface])) ∨ (readO l = none ∧ ∃ n t p, e = .returned (.tuple #[.int .i64 n, .iface t p])))
theorem parseInt_any (s : ByteArray) (w : World) (hs : s.size ≤ 1048576) (he : Env w) :
    Calls Tryz.prog 22 #[.string s, .int .i64 10, .int .i64 64] w (ParsePost s.data.toList w) := by
  obtain ⟨tp, p, h1⟩ := he.syn
  obtain ⟨tq, q, h2⟩ := he.ran
  cases h : Lib.parseIntB 64 s.data.toList with
  | ok v =>
    refine (Any.strconv_ParseInt_10_at64_ok Tryz.laysC174 s (by omega) v h w).mono ?_
    rintro e w' ⟨rfl, hw⟩
    refine ⟨?_, .inl ⟨v, h, rfl⟩⟩
    rcases hw with rfl | ⟨t, rfl⟩
    · exact Below.refl _ _
    · exact Lib.bytesWorld_below _ _ _
  | range =>
    refine (Any.strconv_ParseInt_10_at64_range_var Tryz.laysC174 s (by omega) h tq q w h2).mono ?_
    rintro e w' ⟨N, rfl, _, _, hb⟩
    exact ⟨hb, .inr ⟨by unfold readO; rw [h], _, _, _, rfl⟩⟩
  | _ =>
    refine (Any.strconv_ParseInt_10_at64_syntax_var Tryz.laysC174 s (by omega) h tp p w h1).mono ?_
    rintro e w' ⟨N, rfl, _, _, hb⟩
    exact ⟨hb, .inr ⟨by unfold readO; rw [h], _, _, _, rfl⟩⟩

theorem parse_bd (l : List UInt8) (v : Int) (h : Lib.parseIntB 64 l = .ok v) : -9223372036854775808 ≤ v ∧ v ≤ 9223372036854775807 := by
  unfold Lib.parseIntB at h
  cases l with
  | nil => cases h
  | cons c r =>
    dsimp only at h
    cases hq : Lib.parseUintB 64 (if c.toNat = 43 ∨ c.toNat = 45 then r else c :: r) with
    | ok u =>
      rw [hq] at h
      dsimp only at h
      split at h
      · cases h
      · split at h
        · cases h
        · rename_i h1 h2
          injection h with h
          have e1 : (2 : Nat) ^ (64 - 1) = 9223372036854775808 := by decide
          rw [e1] at h1 h2
          by_cases hc : c.toNat = 45
          · rw [if_pos hc] at h
            have : ¬ 9223372036854775808 < u := fun h' => h2 ⟨hc, h'⟩
            omega
          · rw [if_neg hc] at h
            have : ¬ 9223372036854775808 ≤ u := fun h' => h1 ⟨hc, h'⟩
            omega
    | _ => rw [hq] at h; cases h
theorem trim_size (s : ByteArray) : ((⟨(Lib.trimPrefix s.data.toList [45]).toArray⟩ : ByteArray).size : Int) = ((Lib.trimPrefix s.data.toList [45]).length : Int) := by
  show (((Lib.trimPrefix s.data.toList [45]).toArray).size : Int) = _
  rw [List.size_toArray]
theorem dec_ne {s : ByteArray} {v : Int} : decS v = s ↔ Lib.itoa v = s.data.toList := by
  constructor
  · intro h; rw [← h]; rfl
  · intro h
    unfold decS
    rw [h]
theorem rdP_any (s : ByteArray) (w : World) (hs : s.size ≤ 1048576) (he : Env w) :
    Calls Tryz.prog 11 #[.string s] w fun e w' => e = .returned (resV (numO s.data.toList)) ∧ Below w.heap.size w w' := by
  have HE := Lib.hid he
  have HR := Lib.hid (read_num s.data.toList)
  clear he
  go_enter Tryz.func11, Tryz.ntmps11
  go_wp2_with fail
  refine (parseInt_any s _ hs HE.out).mono ?_
  rintro e w1 ⟨b1, ⟨v, hv, rfl⟩ | ⟨hno, n, t, p, rfl⟩⟩
  · have HB := Lib.hid b1
    have HV := Lib.hid hv
    have hvb : -9223372036854775808 ≤ v ∧ v ≤ 9223372036854775807 := parse_bd _ _ hv
    have hnum : numO s.data.toList = if decide (18 < (Lib.trimPrefix s.data.toList [45]).length) || decide (Lib.itoa v ≠ s.data.toList) then none else some v := by
      rw [← HR.out]; unfold readO; rw [HV.out]
    have HN := Lib.hid hnum
    have HEV := Lib.hid (HE.out.step HB.out)
    have htp := trim_size s
    obtain ⟨tr, htr⟩ : ∃ tr : ByteArray, tr = ⟨(Lib.trimPrefix s.data.toList [45]).toArray⟩ := ⟨_, rfl⟩
    have htc : Calls Tryz.prog 23 #[.string s, .string ⟨#[45]⟩] w1 fun e w' => e = .returned (.string tr) ∧ w' = w1 := by
      rw [htr]; exact Tryz.strings_TrimPrefix s ⟨#[45]⟩ w1
    rw [← htr] at htp
    have HTC := Lib.hid htc
    clear b1 hv hnum htr htc
    by_cases h18 : 18 < (Lib.trimPrefix s.data.toList [45]).length
    · have h18i : (18 : Int) < tr.size := by omega
      clear htp
      have HZ := Lib.hid (res_none (show numO s.data.toList = none by rw [HN.out, decide_eq_true h18, Bool.true_or, if_pos rfl]))
      go_wp2_with (go_at_call 23; refine HTC.out.mono ?_; rintro e w' ⟨rfl, rfl⟩)
      go_ret2
      exact ⟨by rw [HZ.out]; rfl, HB.out⟩
    · have h18i : ¬ (18 : Int) < tr.size := by omega
      clear htp
      by_cases heq : decS v = s
      · have hne : ((decS v).toList == s.toList) = true := by rw [heq]; exact beq_self_eq_true _
        have HZ := Lib.hid (res_some (show numO s.data.toList = some v by rw [HN.out, decide_eq_false h18, Bool.false_or, decide_eq_false (fun h => h (dec_ne.1 heq)), if_neg (by simp)]))
        go_wp2_with (first | (go_at_call 23; refine HTC.out.mono ?_; rintro e w' ⟨rfl, rfl⟩) | (go_at_call 24; refine (decP_any v hvb.1 hvb.2 _ HEV.out.pow).mono ?_; rintro e w2 ⟨rfl, b2⟩; have HB2 := Lib.hid (stepB HB.out b2); clear b2))
        go_ret2
        exact ⟨by rw [HZ.out]; rfl, HB2.out⟩
      · have hne : ((decS v).toList == s.toList) = false := beq_eq_false_iff_ne.2 (fun h => heq (by
          rw [ByteArray.toList_eq, ByteArray.toList_eq] at h
          exact dec_ne.2 h))
        have HZ := Lib.hid (res_none (show numO s.data.toList = none by rw [HN.out, show decide (Lib.itoa v ≠ s.data.toList) = true from decide_eq_true (fun h => heq (dec_ne.2 h)), Bool.or_true, if_pos rfl]))
        go_wp2_with (first | (go_at_call 23; refine HTC.out.mono ?_; rintro e w' ⟨rfl, rfl⟩) | (go_at_call 24; refine (decP_any v hvb.1 hvb.2 _ HEV.out.pow).mono ?_; rintro e w2 ⟨rfl, b2⟩; have HB2 := Lib.hid (stepB HB.out b2); clear b2))
        go_ret2
        exact ⟨by rw [HZ.out]; rfl, HB2.out⟩
  · have HB := Lib.hid b1
    have HZ := Lib.hid (res_none (show numO s.data.toList = none by rw [← HR.out]; exact hno))
    clear b1 hno
    go_wp2_with fail
    go_ret2
    exact ⟨by rw [HZ.out]; rfl, HB.out⟩
end Go.Proofs.YtcfcmpblemagiaaGreatDoor
