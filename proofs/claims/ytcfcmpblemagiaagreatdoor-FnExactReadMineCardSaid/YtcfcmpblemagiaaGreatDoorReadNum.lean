/-
  The contracts of the reference's l01Number and the program's ReadDecimal.
-/
import Derived.Test.YtcfcmpblemagiaaGreatDoorNumb
import Derived.Test.YtcfcmpblemagiaaGreatDoorDecimal
import Derived.Test.YtcfcmpblemagiaaGreatDoorShelfR
import Derived.Shelf.Strconv.ErrVarParseInt
namespace Go.Proofs.YtcfcmpblemagiaaGreatDoor
open Go.RowKit
set_option linter.unusedVariables false

def resV (o : Option Int) : Value := .tuple #[.int .i64 (o.getD 0), .bool o.isSome]
theorem res_none {o : Option Int} (h : o = none) : resV o = .tuple #[.int .i64 0, .bool false] := by rw [h]; rfl
theorem res_some {o : Option Int} {v : Int} (h : o = some v) : resV o = .tuple #[.int .i64 v, .bool true] := by rw [h]; rfl
theorem at_is (s : ByteArray) (k : Nat) (h : k < s.size) : s.data.toList[k]'(by simpa using h) = s[k] := rfl
theorem head_opt (s : ByteArray) (h : 0 < s.size) : s.data.toList.head? = some s[0] := by
  have h' : 0 < s.data.toList.length := by simpa using h
  rw [List.head?_eq_getElem?, List.getElem?_eq_getElem h']
  rfl
theorem u8_45 (c : UInt8) : (c.toNat : Int) = 45 ↔ c = 45 := by
  constructor
  · intro h; apply UInt8.toNat.inj; have : c.toNat = 45 := by omega
    rw [this]; rfl
  · rintro rfl; rfl
theorem u8_48 (c : UInt8) : (c.toNat : Int) = 48 ↔ c = 48 := by
  constructor
  · intro h; apply UInt8.toNat.inj; have : c.toNat = 48 := by omega
    rw [this]; rfl
  · rintro rfl; rfl
/-- the magnitude begins at a -/
structure Mag (s : ByteArray) (a : Nat) (m : List UInt8) : Prop where
  len : m.length = s.size - a
  at_ : ∀ k, (h : k < m.length) → (h2 : a + k < s.size) → m[k] = s[a + k]
theorem mag0 (s : ByteArray) : Mag s 0 s.data.toList := ⟨by simp, fun k h h2 => by rw [at_is s k (by omega)]; congr 1; omega⟩
theorem mag1 (s : ByteArray) : Mag s 1 (s.data.toList.drop 1) := ⟨by simp, fun k h h2 => by rw [List.getElem_drop, at_is s (1 + k) h2]⟩
theorem Mag.take {s : ByteArray} {a : Nat} {m : List UInt8} (hm : Mag s a m) (k : Nat) (h : a + k < s.size) : m.take (k + 1) = m.take k ++ [s[a + k]] := by
  have hl : k < m.length := by rw [hm.len]; omega
  rw [List.take_succ_eq_append_getElem hl, hm.at_ k hl h]
theorem Mag.no {s : ByteArray} {a : Nat} {m : List UInt8} (hm : Mag s a m) (k : Nat) (h : a + k < s.size) (hd : digitB s[a + k] = false) : m.all digitB = false := by
  have hl : k < m.length := by rw [hm.len]; omega
  rw [List.all_eq_false]
  exact ⟨m[k], List.getElem_mem hl, by rw [hm.at_ k hl h, hd]; simp⟩
theorem Mag.headD {s : ByteArray} {a : Nat} {m : List UInt8} (hm : Mag s a m) (h : a < s.size) : m.headD 0 = s[a] := by
  have hl : 0 < m.length := by rw [hm.len]; omega
  have := hm.at_ 0 hl (by omega)
  cases m with
  | nil => simp at hl
  | cons c r => exact this
theorem dv_take_lt (m : List UInt8) (k : Nat) (h : (m.take k).all digitB = true) (hk : k ≤ 18) : dv (m.take k) < 1000000000000000000 := by
  have h1 := dv_lt _ h
  exact Nat.lt_of_lt_of_le h1 (Nat.pow_le_pow_right (by omega) (by rw [List.length_take]; omega : (m.take k).length ≤ 18))

set_option maxHeartbeats 2000000 in
set_option maxRecDepth 100000 in
theorem l01Number_any (s : ByteArray) (w : World) (hs : s.size ≤ maxLen) :
    Calls Tryz.prog 18 #[.string s] w fun e w' => e = .returned (resV (numO s.data.toList)) ∧ Below w.heap.size w w' := by
  unfold maxLen at hs
  obtain ⟨o, ho⟩ : ∃ o, o = numO s.data.toList := ⟨_, rfl⟩
  rw [← ho]
  by_cases h0 : 0 < s.size
  · have hh := head_opt s h0
    by_cases hc : s[0] = 45
    · have hneg : negO s.data.toList = true := by unfold negO; rw [hh, hc]; rfl
      have hmag : magO s.data.toList = s.data.toList.drop 1 := by unfold magO; rw [hneg]; rfl
      have hm := mag1 s
      rw [← hmag] at hm
      have hci : ((s[0].toNat : Int) == 45) = true := by rw [(u8_45 _).2 hc]; rfl
      have HC := Lib.hid hc
      obtain ⟨m, hmm⟩ : ∃ m, m = magO s.data.toList := ⟨_, rfl⟩
      rw [← hmm] at hm
      have HM := Lib.hid hm
      have hnum : numO s.data.toList = if badO s.data.toList then none else if m.all digitB then some (-(dv m : Int)) else none := by
        unfold numO; rw [← hmm, hneg]; rfl
      have hbad : badO s.data.toList = (decide (m = []) || (decide (18 < m.length) || (decide (m.headD 0 = 48) && decide (1 < s.size)))) := by
        unfold badO; rw [← hmm, len_is]
      have HNUM := Lib.hid hnum
      have HBAD := Lib.hid hbad
      clear hmag hm hmm hnum hbad hneg hh hc
      by_cases hsz : 1 < s.size
      · have hsi : (1 : Int) < s.size := by omega
        have hne : ((s.size : Int) == 1) = false := beq_eq_false_iff_ne.2 (by omega)
        have hml : m.length = s.size - 1 := HM.out.len
        have hmn : ¬ m = [] := by intro h; rw [h] at hml; simp at hml; omega
        by_cases h18 : 18 < s.size - 1
        · have h18i : (18 : Int) < (s.size : Int) - 1 := by omega
          have HZ := Lib.hid (res_none (show o = none by
            rw [ho, HNUM.out, HBAD.out, decide_eq_true (by omega : 18 < m.length), Bool.true_or, Bool.or_true, if_pos rfl]))
          clear ho
          go_enter Tryz.func18, Tryz.ntmps18
          go_wp2_with fail
          go_ret2
          exact ⟨by rw [HZ.out]; rfl, Below.refl _ _⟩
        · have h18i : ¬ (18 : Int) < (s.size : Int) - 1 := by omega
          have hhd := HM.out.headD hsz
          by_cases h48 : s[1] = 48 ∧ 1 < s.size
          · have h48i : ((s[1].toNat : Int) == 48) = true := by rw [(u8_48 _).2 h48.1]; rfl
            have h1i : (1 : Int) < s.size := by omega
            have HZ := Lib.hid (res_none (show o = none by
              rw [ho, HNUM.out, HBAD.out, hhd, decide_eq_true h48.1, decide_eq_true h48.2, Bool.and_true, Bool.or_true, Bool.or_true, if_pos rfl]))
            clear ho hhd h48
            go_enter Tryz.func18, Tryz.ntmps18
            go_wp2_with fail
            go_ret2
            exact ⟨by rw [HZ.out]; rfl, Below.refl _ _⟩
          · have HOK := Lib.hid (show badO s.data.toList = false by
              rw [HBAD.out, hhd, decide_eq_false hmn, decide_eq_false (by omega), Bool.false_or, Bool.false_or]
              simp only [Bool.and_eq_false_iff, decide_eq_false_iff_not]
              by_cases h : s[1] = 48
              · exact .inr (fun h2 => h48 ⟨h, h2⟩)
              · exact .inl h)
            have hq : (((s[1].toNat : Int) == 48) = false) ∨ (((s[1].toNat : Int) == 48) = true ∧ ¬ (1 : Int) < s.size) := by
              by_cases h : s[1] = 48
              · right; exact ⟨by rw [(u8_48 _).2 h]; rfl, fun h2 => h48 ⟨h, by omega⟩⟩
              · left; exact beq_eq_false_iff_ne.2 (fun h' => h ((u8_48 _).1 h'))
            clear hhd h48
            rcases hq with hq | ⟨hq, hq2⟩
            · have HO := Lib.hid (show o = if m.all digitB then some (-(dv m : Int)) else none by rw [ho, HNUM.out, HOK.out, if_neg (by simp)])
              clear ho
              go_enter Tryz.func18, Tryz.ntmps18
              go_wp2_with fail
              go_loopw [5, 6] (fun n t wr => ∃ k : Nat, 1 + k ≤ s.size ∧ t = .int .i64 ((1 + k : Nat) : Int) ∧ n = .int .i64 (dv (m.take k) : Int) ∧ (m.take k).all digitB = true ∧ Below w.heap.size w wr) (fun _ t _ => s.size - (intOf t).toNat)
              case atStart => exact ⟨0, by omega, rfl, rfl, rfl, Below.refl _ _⟩
              case round =>
                obtain ⟨k, hk, rfl, rfl, hd, hb⟩ := hrel
                have HD := Lib.hid hd
                have HB := Lib.hid hb
                clear hd hb
                obtain ⟨p, hp⟩ : ∃ p, p = 1 + k := ⟨_, rfl⟩
                have HP := Lib.hid hp
                by_cases hlt : p < s.size
                · have htk := HM.out.take k (by omega)
                  have hno := HM.out.no k (by omega)
                  have hbd := dv_take_lt m k HD.out (by omega)
                  rw [← hp] at hk ⊢
                  simp only [← hp] at htk hno
                  have hpi : (p : Int) < s.size := by omega
                  have hp0 : (0 : Int) ≤ p := by omega
                  obtain ⟨c, hcc⟩ : ∃ c, c = s[p] := ⟨_, rfl⟩
                  have HCC := Lib.hid hcc
                  cases hg : digitB s[p] with
                  | true =>
                    have hdg := (digit_iff _).1 hg
                    have HT := Lib.hid (show (m.take (k + 1)).all digitB = true by rw [htk, List.all_append, HD.out]; simp [hg])
                    have HV := Lib.hid (show dv (m.take (k + 1)) = dv (m.take k) * 10 + (s[p].toNat - 48) by rw [htk, dv_snoc])
                    have hb2 := dv_take_lt m (k + 1) HT.out (by omega)
                    rw [HV.out] at hb2
                    have hw8 : IntKind.u8.wrap ((s[p].toNat : Int) - 48) = (s[p].toNat : Int) - 48 := by rw [IntKind.wrap_u8]; omega
                    generalize dv (m.take k) = d at hbd hb2 HV ⊢
                    have HG := Lib.hid hg
                    clear htk hno hp
                    go_wp2_with (go_at_call 30; refine (l01Digit_any _ _).mono ?_; rw [HG.out]; rintro e w' ⟨rfl, rfl⟩)
                    go_roundw
                    case rel => exact ⟨k + 1, by have := HP.out; omega, congrArg (Value.int .i64) (by have := HP.out; omega), congrArg (Value.int .i64) (by rw [HV.out]; omega), HT.out, HB.out⟩
                    case measure => simp [intOf]; omega
                  | false =>
                    have HZ := Lib.hid (res_none (show o = none by rw [HO.out, hno hg, if_neg (by simp)]))
                    have HG := Lib.hid hg
                    clear htk hno hp
                    go_wp2_with (go_at_call 30; refine (l01Digit_any _ _).mono ?_; rw [HG.out]; rintro e w' ⟨rfl, rfl⟩)
                    go_ret2
                    exact ⟨by rw [HZ.out]; rfl, HB.out⟩
                · have hall : m.take k = m := List.take_of_length_le (by rw [HM.out.len]; omega)
                  have hbd := dv_take_lt m k HD.out (by omega)
                  rw [← hp] at hk ⊢
                  have hpi : ¬ (p : Int) < s.size := by omega
                  have HZ := Lib.hid (res_some (show o = some (-(dv m : Int)) by have := HD.out; rw [hall] at this; rw [HO.out, this, if_pos rfl]))
                  rw [hall] at hbd ⊢
                  clear hall hp
                  go_wp2_with fail
                  go_ret2
                  exact ⟨by rw [HZ.out]; rfl, HB.out⟩
            · exact absurd hsi hq2
      · have HZ := Lib.hid (res_none (show o = none by
          have : m = [] := List.eq_nil_of_length_eq_zero (by rw [HM.out.len]; omega)
          rw [ho, HNUM.out, HBAD.out, decide_eq_true this, Bool.true_or, if_pos rfl]))
        have hz2 : ((s.size : Int) == 1) = true := beq_iff_eq.2 (by omega)
        clear ho
        go_enter Tryz.func18, Tryz.ntmps18
        go_wp2_with fail
        go_ret2
        exact ⟨by rw [HZ.out]; rfl, Below.refl _ _⟩
    · have hneg : negO s.data.toList = false := by unfold negO; rw [hh]; simp [hc]
      have hmag : magO s.data.toList = s.data.toList := by unfold magO; rw [hneg]; rfl
      have hm := mag0 s
      rw [← hmag] at hm
      have hci : ((s[0].toNat : Int) == 45) = false := beq_eq_false_iff_ne.2 (fun h => hc ((u8_45 _).1 h))
      have HC := Lib.hid hc
      obtain ⟨m, hmm⟩ : ∃ m, m = magO s.data.toList := ⟨_, rfl⟩
      rw [← hmm] at hm
      have HM := Lib.hid hm
      have hnum : numO s.data.toList = if badO s.data.toList then none else if m.all digitB then some (dv m : Int) else none := by
        unfold numO; rw [← hmm, hneg]; rfl
      have hbad : badO s.data.toList = (decide (m = []) || (decide (18 < m.length) || (decide (m.headD 0 = 48) && decide (1 < s.size)))) := by
        unfold badO; rw [← hmm, len_is]
      have HNUM := Lib.hid hnum
      have HBAD := Lib.hid hbad
      clear hmag hm hmm hnum hbad hneg hh hc
      by_cases hsz : 0 < s.size
      · have hsi : (0 : Int) < s.size := by omega
        have hne : ((s.size : Int) == 0) = false := beq_eq_false_iff_ne.2 (by omega)
        have hml : m.length = s.size - 0 := HM.out.len
        have hmn : ¬ m = [] := by intro h; rw [h] at hml; simp at hml; omega
        by_cases h18 : 18 < s.size - 0
        · have h18i : (18 : Int) < (s.size : Int) - 0 := by omega
          have HZ := Lib.hid (res_none (show o = none by
            rw [ho, HNUM.out, HBAD.out, decide_eq_true (by omega : 18 < m.length), Bool.true_or, Bool.or_true, if_pos rfl]))
          clear ho
          go_enter Tryz.func18, Tryz.ntmps18
          go_wp2_with fail
          go_ret2
          exact ⟨by rw [HZ.out]; rfl, Below.refl _ _⟩
        · have h18i : ¬ (18 : Int) < (s.size : Int) - 0 := by omega
          have hhd := HM.out.headD hsz
          by_cases h48 : s[0] = 48 ∧ 1 < s.size
          · have h48i : ((s[0].toNat : Int) == 48) = true := by rw [(u8_48 _).2 h48.1]; rfl
            have h1i : (1 : Int) < s.size := by omega
            have HZ := Lib.hid (res_none (show o = none by
              rw [ho, HNUM.out, HBAD.out, hhd, decide_eq_true h48.1, decide_eq_true h48.2, Bool.and_true, Bool.or_true, Bool.or_true, if_pos rfl]))
            clear ho hhd h48
            go_enter Tryz.func18, Tryz.ntmps18
            go_wp2_with fail
            go_ret2
            exact ⟨by rw [HZ.out]; rfl, Below.refl _ _⟩
          · have HOK := Lib.hid (show badO s.data.toList = false by
              rw [HBAD.out, hhd, decide_eq_false hmn, decide_eq_false (by omega), Bool.false_or, Bool.false_or]
              simp only [Bool.and_eq_false_iff, decide_eq_false_iff_not]
              by_cases h : s[0] = 48
              · exact .inr (fun h2 => h48 ⟨h, h2⟩)
              · exact .inl h)
            have hq : (((s[0].toNat : Int) == 48) = false) ∨ (((s[0].toNat : Int) == 48) = true ∧ ¬ (1 : Int) < s.size) := by
              by_cases h : s[0] = 48
              · right; exact ⟨by rw [(u8_48 _).2 h]; rfl, fun h2 => h48 ⟨h, by omega⟩⟩
              · left; exact beq_eq_false_iff_ne.2 (fun h' => h ((u8_48 _).1 h'))
            clear hhd h48
            rcases hq with hq | ⟨hq, hq2⟩
            · have HO := Lib.hid (show o = if m.all digitB then some (dv m : Int) else none by rw [ho, HNUM.out, HOK.out, if_neg (by simp)])
              clear ho
              go_enter Tryz.func18, Tryz.ntmps18
              go_wp2_with fail
              go_loopw [5, 6] (fun n t wr => ∃ k : Nat, 0 + k ≤ s.size ∧ t = .int .i64 ((0 + k : Nat) : Int) ∧ n = .int .i64 (dv (m.take k) : Int) ∧ (m.take k).all digitB = true ∧ Below w.heap.size w wr) (fun _ t _ => s.size - (intOf t).toNat)
              case atStart => exact ⟨0, by omega, rfl, rfl, rfl, Below.refl _ _⟩
              case round =>
                obtain ⟨k, hk, rfl, rfl, hd, hb⟩ := hrel
                have HD := Lib.hid hd
                have HB := Lib.hid hb
                clear hd hb
                obtain ⟨p, hp⟩ : ∃ p, p = 0 + k := ⟨_, rfl⟩
                have HP := Lib.hid hp
                by_cases hlt : p < s.size
                · have htk := HM.out.take k (by omega)
                  have hno := HM.out.no k (by omega)
                  have hbd := dv_take_lt m k HD.out (by omega)
                  rw [← hp] at hk ⊢
                  simp only [← hp] at htk hno
                  have hpi : (p : Int) < s.size := by omega
                  have hp0 : (0 : Int) ≤ p := by omega
                  obtain ⟨c, hcc⟩ : ∃ c, c = s[p] := ⟨_, rfl⟩
                  have HCC := Lib.hid hcc
                  cases hg : digitB s[p] with
                  | true =>
                    have hdg := (digit_iff _).1 hg
                    have HT := Lib.hid (show (m.take (k + 1)).all digitB = true by rw [htk, List.all_append, HD.out]; simp [hg])
                    have HV := Lib.hid (show dv (m.take (k + 1)) = dv (m.take k) * 10 + (s[p].toNat - 48) by rw [htk, dv_snoc])
                    have hb2 := dv_take_lt m (k + 1) HT.out (by omega)
                    rw [HV.out] at hb2
                    have hw8 : IntKind.u8.wrap ((s[p].toNat : Int) - 48) = (s[p].toNat : Int) - 48 := by rw [IntKind.wrap_u8]; omega
                    generalize dv (m.take k) = d at hbd hb2 HV ⊢
                    have HG := Lib.hid hg
                    clear htk hno hp
                    go_wp2_with (go_at_call 30; refine (l01Digit_any _ _).mono ?_; rw [HG.out]; rintro e w' ⟨rfl, rfl⟩)
                    go_roundw
                    case rel => exact ⟨k + 1, by have := HP.out; omega, congrArg (Value.int .i64) (by have := HP.out; omega), congrArg (Value.int .i64) (by rw [HV.out]; omega), HT.out, HB.out⟩
                    case measure => simp [intOf]; omega
                  | false =>
                    have HZ := Lib.hid (res_none (show o = none by rw [HO.out, hno hg, if_neg (by simp)]))
                    have HG := Lib.hid hg
                    clear htk hno hp
                    go_wp2_with (go_at_call 30; refine (l01Digit_any _ _).mono ?_; rw [HG.out]; rintro e w' ⟨rfl, rfl⟩)
                    go_ret2
                    exact ⟨by rw [HZ.out]; rfl, HB.out⟩
                · have hall : m.take k = m := List.take_of_length_le (by rw [HM.out.len]; omega)
                  have hbd := dv_take_lt m k HD.out (by omega)
                  rw [← hp] at hk ⊢
                  have hpi : ¬ (p : Int) < s.size := by omega
                  have HZ := Lib.hid (res_some (show o = some (dv m : Int) by have := HD.out; rw [hall] at this; rw [HO.out, this, if_pos rfl]))
                  rw [hall] at hbd ⊢
                  clear hall hp
                  go_wp2_with fail
                  go_ret2
                  exact ⟨by rw [HZ.out]; rfl, HB.out⟩
            · have HO := Lib.hid (show o = if m.all digitB then some (dv m : Int) else none by rw [ho, HNUM.out, HOK.out, if_neg (by simp)])
              clear ho
              go_enter Tryz.func18, Tryz.ntmps18
              go_wp2_with fail
              go_loopw [5, 6] (fun n t wr => ∃ k : Nat, 0 + k ≤ s.size ∧ t = .int .i64 ((0 + k : Nat) : Int) ∧ n = .int .i64 (dv (m.take k) : Int) ∧ (m.take k).all digitB = true ∧ Below w.heap.size w wr) (fun _ t _ => s.size - (intOf t).toNat)
              case atStart => exact ⟨0, by omega, rfl, rfl, rfl, Below.refl _ _⟩
              case round =>
                obtain ⟨k, hk, rfl, rfl, hd, hb⟩ := hrel
                have HD := Lib.hid hd
                have HB := Lib.hid hb
                clear hd hb
                obtain ⟨p, hp⟩ : ∃ p, p = 0 + k := ⟨_, rfl⟩
                have HP := Lib.hid hp
                by_cases hlt : p < s.size
                · have htk := HM.out.take k (by omega)
                  have hno := HM.out.no k (by omega)
                  have hbd := dv_take_lt m k HD.out (by omega)
                  rw [← hp] at hk ⊢
                  simp only [← hp] at htk hno
                  have hpi : (p : Int) < s.size := by omega
                  have hp0 : (0 : Int) ≤ p := by omega
                  obtain ⟨c, hcc⟩ : ∃ c, c = s[p] := ⟨_, rfl⟩
                  have HCC := Lib.hid hcc
                  cases hg : digitB s[p] with
                  | true =>
                    have hdg := (digit_iff _).1 hg
                    have HT := Lib.hid (show (m.take (k + 1)).all digitB = true by rw [htk, List.all_append, HD.out]; simp [hg])
                    have HV := Lib.hid (show dv (m.take (k + 1)) = dv (m.take k) * 10 + (s[p].toNat - 48) by rw [htk, dv_snoc])
                    have hb2 := dv_take_lt m (k + 1) HT.out (by omega)
                    rw [HV.out] at hb2
                    have hw8 : IntKind.u8.wrap ((s[p].toNat : Int) - 48) = (s[p].toNat : Int) - 48 := by rw [IntKind.wrap_u8]; omega
                    generalize dv (m.take k) = d at hbd hb2 HV ⊢
                    have HG := Lib.hid hg
                    clear htk hno hp
                    go_wp2_with (go_at_call 30; refine (l01Digit_any _ _).mono ?_; rw [HG.out]; rintro e w' ⟨rfl, rfl⟩)
                    go_roundw
                    case rel => exact ⟨k + 1, by have := HP.out; omega, congrArg (Value.int .i64) (by have := HP.out; omega), congrArg (Value.int .i64) (by rw [HV.out]; omega), HT.out, HB.out⟩
                    case measure => simp [intOf]; omega
                  | false =>
                    have HZ := Lib.hid (res_none (show o = none by rw [HO.out, hno hg, if_neg (by simp)]))
                    have HG := Lib.hid hg
                    clear htk hno hp
                    go_wp2_with (go_at_call 30; refine (l01Digit_any _ _).mono ?_; rw [HG.out]; rintro e w' ⟨rfl, rfl⟩)
                    go_ret2
                    exact ⟨by rw [HZ.out]; rfl, HB.out⟩
                · have hall : m.take k = m := List.take_of_length_le (by rw [HM.out.len]; omega)
                  have hbd := dv_take_lt m k HD.out (by omega)
                  rw [← hp] at hk ⊢
                  have hpi : ¬ (p : Int) < s.size := by omega
                  have HZ := Lib.hid (res_some (show o = some (dv m : Int) by have := HD.out; rw [hall] at this; rw [HO.out, this, if_pos rfl]))
                  rw [hall] at hbd ⊢
                  clear hall hp
                  go_wp2_with fail
                  go_ret2
                  exact ⟨by rw [HZ.out]; rfl, HB.out⟩
      · have HZ := Lib.hid (res_none (show o = none by
          have : m = [] := List.eq_nil_of_length_eq_zero (by rw [HM.out.len]; omega)
          rw [ho, HNUM.out, HBAD.out, decide_eq_true this, Bool.true_or, if_pos rfl]))
        have hz2 : ((s.size : Int) == 0) = true := beq_iff_eq.2 (by omega)
        clear ho
        go_enter Tryz.func18, Tryz.ntmps18
        go_wp2_with fail
        go_ret2
        exact ⟨by rw [HZ.out]; rfl, Below.refl _ _⟩
  · have HZ := Lib.hid (res_none (show o = none by
      have : s.data.toList = [] := List.eq_nil_of_length_eq_zero (by rw [len_is]; omega)
      rw [ho, this]; rfl))
    have hz : ¬ (0 : Int) < s.size := by omega
    have hz2 : ((s.size : Int) == 0) = true := beq_iff_eq.2 (by omega)
    clear ho
    go_enter Tryz.func18, Tryz.ntmps18
    go_wp2_with fail
    go_ret2
    exact ⟨by rw [HZ.out]; rfl, Below.refl _ _⟩
end Go.Proofs.YtcfcmpblemagiaaGreatDoor
