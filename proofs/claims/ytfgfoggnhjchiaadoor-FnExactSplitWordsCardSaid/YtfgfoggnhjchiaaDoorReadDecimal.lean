/-
  FnExactReadDecimal: for every text the program's ReadDecimal returns what the reference's returns.
-/
import Derived.Test.YtfgfoggnhjchiaaDoorReadNum
import Derived.Test.YtfgfoggnhjchiaaDoorErrs
import Derived.Lib.AtoiErrMem
import Derived.Test.YtfgfoggnhjchiaaDoorNum
import Derived.RowKit3
import Derived.ProofKit
import Derived.OpenShut
import Derived.Lib.SmallJoins
namespace Go.Proofs.YtfgfoggnhjchiaaDoor
open Go.RowKit
set_option linter.unusedVariables false

def numOk (l : List UInt8) : Prop := ∃ v, Lib.parseIntB 64 l = .ok v
def ParsePost (l : List UInt8) (w : World) (e : Ending) (w' : World) : Prop :=
  Below w.heap.size w w' ∧ ((∃ v, Lib.parseIntB 64 l = .ok v ∧ e = .returned (.tuple #[.int .i64 v, .nilIface])) ∨ (readO l = none ∧ ∃ n t p, e = .returned (.tuple #[.int .i64 n, .iface t p])))
theorem parseInt_any (s : ByteArray) (w : World) (hs : s.size ≤ 1048576) (he : Env w) :
    Calls Tryd.prog 65 #[.string s, .int .i64 10, .int .i64 64] w (ParsePost s.data.toList w) := by
  obtain ⟨tp, p, h1⟩ := he.syn
  obtain ⟨tq, q, h2⟩ := he.ran
  cases h : Lib.parseIntB 64 s.data.toList with
  | ok v =>
    refine (Any.strconv_ParseInt_10_at64_ok Tryd.laysC174 s (by omega) v h w).mono ?_
    rintro e w' ⟨rfl, hw⟩
    refine ⟨?_, .inl ⟨v, h, rfl⟩⟩
    rcases hw with rfl | ⟨t, rfl⟩
    · exact Below.refl _ _
    · exact Lib.bytesWorld_below _ _ _
  | range =>
    refine (Any.strconv_ParseInt_10_at64_range_var Tryd.laysC174 s (by omega) h tq q w h2).mono ?_
    rintro e w' ⟨N, rfl, _, _, hb⟩
    exact ⟨hb, .inr ⟨by unfold readO; rw [h], _, _, _, rfl⟩⟩
  | _ =>
    refine (Any.strconv_ParseInt_10_at64_syntax_var Tryd.laysC174 s (by omega) h tp p w h1).mono ?_
    rintro e w' ⟨N, rfl, _, _, hb⟩
    exact ⟨hb, .inr ⟨by unfold readO; rw [h], _, _, _, rfl⟩⟩

theorem parse_bd (l : List UInt8) (v : Int) (h : Lib.parseIntB 64 l = .ok v) : -9223372036854775808 ≤ v ∧ v ≤ 9223372036854775807 := by
  unfold Lib.parseIntB at h
  cases l with
  | nil => cases h
  | cons c r =>
    dsimp only at h
    cases hq : Lib.parseUintB 64 (if c.toNat = 43 ∨ c.toNat = 45 then r else c :: r) with
    | ok u =>
      rw [hq] at h
      dsimp only at h
      split at h
      · cases h
      · split at h
        · cases h
        · rename_i h1 h2
          injection h with h
          have e1 : (2 : Nat) ^ (64 - 1) = 9223372036854775808 := by decide
          rw [e1] at h1 h2
          by_cases hc : c.toNat = 45
          · rw [if_pos hc] at h
            have : ¬ 9223372036854775808 < u := fun h' => h2 ⟨hc, h'⟩
            omega
          · rw [if_neg hc] at h
            have : ¬ 9223372036854775808 ≤ u := fun h' => h1 ⟨hc, h'⟩
            omega
    | _ => rw [hq] at h; cases h
theorem trim_size (s : ByteArray) : ((⟨(Lib.trimPrefix s.data.toList [45]).toArray⟩ : ByteArray).size : Int) = ((Lib.trimPrefix s.data.toList [45]).length : Int) := by
  show (((Lib.trimPrefix s.data.toList [45]).toArray).size : Int) = _
  rw [List.size_toArray]
theorem dec_ne {s : ByteArray} {v : Int} : decS v = s ↔ Lib.itoa v = s.data.toList := by
  constructor
  · intro h; rw [← h]; rfl
  · intro h
    unfold decS
    rw [h]
theorem rdP_any (s : ByteArray) (w : World) (hs : s.size ≤ 1048576) (he : Env w) :
    Calls Tryd.prog 32 #[.string s] w fun e w' => e = .returned (resV (numO s.data.toList)) ∧ Below w.heap.size w w' := by
  have HE := Lib.hid he
  have HR := Lib.hid (read_num s.data.toList)
  clear he
  go_enter Tryd.func32, Tryd.ntmps32
  go_wp2_with fail
  refine (parseInt_any s _ hs HE.out).mono ?_
  rintro e w1 ⟨b1, ⟨v, hv, rfl⟩ | ⟨hno, n, t, p, rfl⟩⟩
  · have HB := Lib.hid b1
    have HV := Lib.hid hv
    have hvb : -9223372036854775808 ≤ v ∧ v ≤ 9223372036854775807 := parse_bd _ _ hv
    have hnum : numO s.data.toList = if decide (18 < (Lib.trimPrefix s.data.toList [45]).length) || decide (Lib.itoa v ≠ s.data.toList) then none else some v := by
      rw [← HR.out]; unfold readO; rw [HV.out]
    have HN := Lib.hid hnum
    have HEV := Lib.hid (HE.out.step HB.out)
    have htp := trim_size s
    obtain ⟨tr, htr⟩ : ∃ tr : ByteArray, tr = ⟨(Lib.trimPrefix s.data.toList [45]).toArray⟩ := ⟨_, rfl⟩
    have htc : Calls Tryd.prog 66 #[.string s, .string ⟨#[45]⟩] w1 fun e w' => e = .returned (.string tr) ∧ w' = w1 := by
      rw [htr]; exact Tryd.strings_TrimPrefix s ⟨#[45]⟩ w1
    rw [← htr] at htp
    have HTC := Lib.hid htc
    clear b1 hv hnum htr htc
    by_cases h18 : 18 < (Lib.trimPrefix s.data.toList [45]).length
    · have h18i : (18 : Int) < tr.size := by omega
      clear htp
      have HZ := Lib.hid (res_none (show numO s.data.toList = none by rw [HN.out, decide_eq_true h18, Bool.true_or, if_pos rfl]))
      go_wp2_with (go_at_call 66; refine HTC.out.mono ?_; rintro e w' ⟨rfl, rfl⟩)
      go_ret2
      exact ⟨by rw [HZ.out]; rfl, HB.out⟩
    · have h18i : ¬ (18 : Int) < tr.size := by omega
      clear htp
      by_cases heq : decS v = s
      · have hne : ((decS v).toList == s.toList) = true := by rw [heq]; exact beq_self_eq_true _
        have HZ := Lib.hid (res_some (show numO s.data.toList = some v by rw [HN.out, decide_eq_false h18, Bool.false_or, decide_eq_false (fun h => h (dec_ne.1 heq)), if_neg (by simp)]))
        go_wp2_with (first | (go_at_call 66; refine HTC.out.mono ?_; rintro e w' ⟨rfl, rfl⟩) | (go_at_call 14; refine (decP_any v hvb.1 hvb.2 _ HEV.out.pow).mono ?_; rintro e w2 ⟨rfl, b2⟩; have HB2 := Lib.hid (stepB HB.out b2); clear b2))
        go_ret2
        exact ⟨by rw [HZ.out]; rfl, HB2.out⟩
      · have hne : ((decS v).toList == s.toList) = false := beq_eq_false_iff_ne.2 (fun h => heq (by
          rw [ByteArray.toList_eq, ByteArray.toList_eq] at h
          exact dec_ne.2 h))
        have HZ := Lib.hid (res_none (show numO s.data.toList = none by rw [HN.out, show decide (Lib.itoa v ≠ s.data.toList) = true from decide_eq_true (fun h => heq (dec_ne.2 h)), Bool.or_true, if_pos rfl]))
        go_wp2_with (first | (go_at_call 66; refine HTC.out.mono ?_; rintro e w' ⟨rfl, rfl⟩) | (go_at_call 14; refine (decP_any v hvb.1 hvb.2 _ HEV.out.pow).mono ?_; rintro e w2 ⟨rfl, b2⟩; have HB2 := Lib.hid (stepB HB.out b2); clear b2))
        go_ret2
        exact ⟨by rw [HZ.out]; rfl, HB2.out⟩
  · have HB := Lib.hid b1
    have HZ := Lib.hid (res_none (show numO s.data.toList = none by rw [← HR.out]; exact hno))
    clear b1 hno
    go_wp2_with fail
    go_ret2
    exact ⟨by rw [HZ.out]; rfl, HB.out⟩
theorem rdS_any (s : ByteArray) (w : World) (hs : s.size ≤ maxLen) :
    Calls Tryd.prog 31 #[.string s] w fun e w' => e = .returned (resV (numO s.data.toList)) ∧ Below w.heap.size w w' := by
  unfold resV
  go_enter Tryd.func31, Tryd.ntmps31
  go_wp2_with fail
  refine (l01Number_any s _ hs).mono ?_; unfold resV; rintro e w1 ⟨rfl, b1⟩
  have HB := Lib.hid b1
  clear b1
  go_wp2_with fail
  go_ret2
  exact ⟨rfl, HB.out⟩
theorem law_ReadDecimal (a : ByteArray) (hm : a.size ≤ maxLen) (w : World) (he : Env w) :
    Calls Tryd.prog 8 #[.string a] w fun e w' => e = .returned (.bool true) ∧ Below w.heap.size w w' := by
  have HE := Lib.hid he
  have HM := Lib.hid hm
  unfold maxLen at hm
  clear he
  by_cases h20 : a.size ≤ 1048576
  · have h20i : ¬ (1048576 : Int) < a.size := by omega
    go_enter Tryd.func8, Tryd.ntmps8
    go_wp2_with fail
    refine (rdS_any a _ HM.out).mono ?_; unfold resV; rintro e w1 ⟨rfl, b1⟩
    have HB1 := Lib.hid b1
    have HE1 := Lib.hid (HE.out.step b1)
    clear b1
    go_wp2_with fail
    refine (rdP_any a _ h20 HE1.out).mono ?_; unfold resV; rintro e w2 ⟨rfl, b2⟩
    have HB2 := Lib.hid (stepB HB1.out b2)
    clear b2
    generalize (numO a.data.toList).getD 0 = n
    generalize (numO a.data.toList).isSome = b
    go_wp2_with fail
    go_ret
    exact ⟨rfl, HB2.out⟩
  · have h20i : (1048576 : Int) < a.size := by omega
    go_enter Tryd.func8, Tryd.ntmps8
    go_wp2_with fail
    go_ret
    exact ⟨rfl, Below.refl _ _⟩

/-! ### the row of FnExactReadDecimal: the arguments are opened, the walk is met, each argument reads behind the call as before -/
namespace fnExactReadDecimal
open Go.ChangeShapes Go.WideShapes Go.ChangeAt Go.RowKit Go.Joins
open Go.ChangeMaps (open_string shut_string)
set_option linter.unusedVariables false
set_option maxRecDepth 100000 in
theorem lifted (os : Os) (started : os.Started) (H : Type) (enc : TypeId × Value → H) :
    ReturnsInHanded {} Tryd.checked os 8 .any (fun w args => (Rows.fnExactReadDecimalSpec.pre enc Tryd.prog Tryd.f8 [] false w args ∧ laidMetH Tryd.prog Rows.fnExactReadDecimalRow.laid w) ∧ sizedMet enc Tryd.prog Tryd.f8 (OpenSpec.ofChange Rows.fnExactReadDecimalSpec) false w args) (Rows.fnExactReadDecimalSpec.post enc Tryd.prog Tryd.f8 false true false false) := by
  refine returnsInHanded_of_change_and (C := Tryd.checked) (X := fun w _ => laidMetH Tryd.prog Rows.fnExactReadDecimalRow.laid w) (fun _ _ _ hh h => h.of_heap hh) own started (by kernel_rfl) Tryd.func8
    (ChangeSpec.witness_shaped (enc := enc) (C := Tryd.checked) (os := os) (X := fun w _ => laidMetH Tryd.prog Rows.fnExactReadDecimalRow.laid w) false (World.doorLaid Tryd.prog 72 os) #[.string ByteArray.empty] 8 rfl (World.shaped_of_RefB (by kernel_rfl) (by kernel_rfl)) (by kernel_rfl) (by kernel_rfl) (by kernel_rfl) (env5_door os _)) ?_
  intro W base args ds gs before hval0 hW _ _ hL _
  have hval : ∀ (j : Nat) t v, Tryd.f8.params[j]? = some t → args[j]? = some v → Value.okWide Tryd.prog W .any base t v := hval0
  have hW' := hW
  obtain ⟨p, q, hA0, hV, rfl, hfz, hnd⟩ := hW
  have hA : DataW.TrodAll enc Tryd.prog W 0 (fun _ => true) true Tryd.f8.params.toList args.toList ds p := hA0
  rw [Tryd.params8] at hA hval
  obtain ⟨v0, vs0, d0, ds0, p0, q0, hargs, rfl, rfl, h0, r0⟩ := trodAll_cons hA
  obtain ⟨rfl, rfl, rfl⟩ := trodAll_nil r0
  obtain rfl : args = #[v0] := by cases args; simp_all
  obtain ⟨rfl, rfl⟩ := trodVars_none hV
  clear hA0 hval0
  simp only [List.append_nil] at hW'
  have lt0 : ∀ x ∈ p0, x.block < W.heap.size := fun x hx => by simpa using hW'.lt x (by simp [hx])
  have k0 := h0
  obtain ⟨a0, rfl, rfl, rfl, w0⟩ := open_string Tryd.underlying9 (hval 0 9 v0 rfl rfl) h0
  refine (law_ReadDecimal a0 w0 W (env5 hL)).mono fun e W' ⟨he, hb⟩ => ?_
  subst he
  exact ⟨_, rfl, _, _, _, _, _, [], hW', (trodAll_cons_mk (shut_bool Tryd.underlying4 _) trodAll_mk0), (trodAll_cons_mk (Below.trod laidOut (by kernel_rfl) (of_decide_eq_true (by kernel_rfl)) k0 hb lt0) trodAll_mk0), rfl, hb.frame _, fun h => by cases h⟩

theorem proved : Rows.FnExactReadDecimalSaid :=
  OpenClaim.holds_of_wide 8 Tryd.f8 rfl rfl rfl rfl rfl rfl rfl ⟨rfl, rfl, rfl, rfl, rfl⟩ rfl rfl rfl rfl rfl (by kernel_rfl) Tryd.func8 (by kernel_rfl)
    (of_decide_eq_true (by kernel_rfl)) (by unfold Func.isWrapper; first | (rw [if_pos (by decide +kernel)]; kernel_rfl) | (rw [if_neg (by decide +kernel)]; exact ⟨rfl, rfl⟩))
    (fun os started H enc _ => lifted os started H enc)
theorem card : Rows.FnExactReadDecimalCardSaid :=
  Claim7.holds_tied_plain_at .later [] _ true Rows.fnExactReadDecimalCard.stood.harness Rows.fnExactReadDecimalCard.stood.looks
    proved (fun _ h => by cases h) (by kernel_rfl) (fun _ h => by cases h) fnExactReadDecimal_row_tie rfl ⟨rfl, rfl⟩ (by kernel_rfl) rfl
    (fun f fn hf hfn => by
      obtain rfl : f = 8 := Option.some.inj ((show Tryd.prog.funcNamed "loop.example/g01021/laws.FnExactReadDecimal" = some 8 by kernel_rfl).symm.trans hf) |>.symm
      obtain rfl : fn = Tryd.f8 := (Option.some.inj (Tryd.func8.symm.trans hfn)).symm
      exact ⟨by kernel_rfl, fun j t ht => by
        rw [Tryd.params8] at ht
        have hm : t ∈ [9] := by simpa using Array.mem_of_getElem? ht
        have hall : ([9].all fun u => !Tryd.prog.wantsStandIn u) = true := by kernel_rfl
        exact (show Tryd.prog.wantsStandIn t = false by simpa using List.all_eq_true.1 hall t hm)⟩)
    (by kernel_rfl)
#print axioms card
end fnExactReadDecimal
end Go.Proofs.YtfgfoggnhjchiaaDoor
