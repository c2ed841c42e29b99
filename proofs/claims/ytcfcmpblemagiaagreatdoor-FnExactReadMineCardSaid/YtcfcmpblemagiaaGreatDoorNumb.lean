/-
  Plain law: the numbers that the reference reads are those that the program reads (the library's ParseInt, at most 18 digits, written back alike).
-/
import Derived.Test.YtcfcmpblemagiaaGreatDoorName
import Derived.Lib.ItoaNum
import Derived.Lib.ParseIntB
import Derived.Lib.Strings
namespace Go.Proofs.YtcfcmpblemagiaaGreatDoor
set_option linter.unusedVariables false

theorem digit_iff (c : UInt8) : digitB c = true ↔ 48 ≤ c.toNat ∧ c.toNat ≤ 57 := by
  unfold digitB; simp only [Bool.and_eq_true, decide_eq_true_eq]; omega
def dvF : Nat → List UInt8 → Nat
  | acc, [] => acc
  | acc, c :: r => dvF (acc * 10 + (c.toNat - 48)) r
def dv (l : List UInt8) : Nat := dvF 0 l
theorem dvF_snoc (acc : Nat) (l : List UInt8) (c : UInt8) : dvF acc (l ++ [c]) = dvF acc l * 10 + (c.toNat - 48) := by
  induction l generalizing acc with
  | nil => rfl
  | cons a t ih => exact ih _
theorem dvF_ge (acc : Nat) (l : List UInt8) : acc ≤ dvF acc l := by
  induction l generalizing acc with
  | nil => exact Nat.le_refl _
  | cons a t ih => have := ih (acc * 10 + (a.toNat - 48)); show acc ≤ dvF (acc * 10 + (a.toNat - 48)) t; omega
theorem dv_snoc (l : List UInt8) (c : UInt8) : dv (l ++ [c]) = dv l * 10 + (c.toNat - 48) := dvF_snoc 0 l c
theorem dv_lt (l : List UInt8) (h : l.all digitB = true) : dv l < 10 ^ l.length := by
  have key : ∀ n, ∀ l : List UInt8, l.length = n → l.all digitB = true → dv l < 10 ^ n := by
    intro n
    induction n with
    | zero => intro l hl _; have := List.eq_nil_of_length_eq_zero hl; subst this; decide
    | succ n ih =>
      intro l hl ha
      rcases List.eq_nil_or_concat l with rfl | ⟨L, b, rfl⟩
      · simp at hl
      · rw [List.concat_eq_append] at hl ha ⊢
        rw [List.all_append] at ha
        simp only [Bool.and_eq_true] at ha
        have hb := (digit_iff b).1 (by simpa using ha.2)
        have := ih L (by simpa using hl) ha.1
        rw [dv_snoc, Nat.pow_succ]
        omega
  exact key _ l rfl h
theorem ofNat_dig48 (d : Nat) (h : d < 10) : (UInt8.ofNat (48 + d)).toNat = 48 + d := by
  rw [UInt8.toNat_ofNat']; omega
theorem toNat_back (c : UInt8) : UInt8.ofNat c.toNat = c := by
  apply UInt8.toNat.inj
  rw [UInt8.toNat_ofNat']
  exact Nat.mod_eq_of_lt c.toNat_lt
theorem dec_of (ds : List UInt8) (hne : ds ≠ []) (ha : ds.all digitB = true) (hz : ds.headD 0 ≠ 48 ∨ ds.length = 1) : Lib.decDigits (dv ds) = ds := by
  have key : ∀ n, ∀ ds : List UInt8, ds.length = n → ds ≠ [] → ds.all digitB = true → (ds.headD 0 ≠ 48 ∨ ds.length = 1) → Lib.decDigits (dv ds) = ds := by
    intro n
    induction n with
    | zero => intro l hl h; exact absurd (List.eq_nil_of_length_eq_zero hl) h
    | succ n ih =>
      intro l hl _ ha hz
      rcases List.eq_nil_or_concat l with rfl | ⟨L, b, rfl⟩
      · simp at hl
      · rw [List.concat_eq_append] at hl ha hz ⊢
        rw [List.all_append] at ha
        simp only [Bool.and_eq_true] at ha
        have hb := (digit_iff b).1 (by simpa using ha.2)
        rw [dv_snoc]
        cases L with
        | nil =>
          have e : dv [] * 10 + (b.toNat - 48) = b.toNat - 48 := by show 0 * 10 + _ = _; omega
          rw [e, Lib.decDigits, dif_pos (by omega), show 48 + (b.toNat - 48) = b.toNat by omega, toNat_back]
          rfl
        | cons a t =>
          have hh : (a :: t).headD 0 ≠ 48 := by
            rcases hz with h | h
            · exact h
            · simp at h
          have ih' := ih (a :: t) (by simpa using hl) (by simp) ha.1 (.inl hh)
          have hp : 0 < dv (a :: t) := by
            have hda := (digit_iff a).1 (by have := ha.1; simp at this; exact this.1)
            have hge := dvF_ge (0 * 10 + (a.toNat - 48)) t
            have hne48 : a.toNat ≠ 48 := fun h => hh (by
              show a = 48
              apply UInt8.toNat.inj; rw [h]; rfl)
            show 0 < dvF (0 * 10 + (a.toNat - 48)) t
            omega
          rw [Lib.decDigits, dif_neg (by omega), show (dv (a :: t) * 10 + (b.toNat - 48)) / 10 = dv (a :: t) by omega, show (dv (a :: t) * 10 + (b.toNat - 48)) % 10 = b.toNat - 48 by omega, ih',
            show 48 + (b.toNat - 48) = b.toNat by omega, toNat_back]
  exact key _ ds rfl hne ha hz
theorem dec_facts (u : Nat) : Lib.decDigits u ≠ [] ∧ (Lib.decDigits u).all digitB = true ∧ ((Lib.decDigits u).headD 0 = 48 → u = 0) ∧ dv (Lib.decDigits u) = u := by
  induction u using Nat.strongRecOn with
  | _ u ih =>
    by_cases h : u < 10
    · rw [Lib.decDigits, dif_pos h]
      have e := ofNat_dig48 u h
      refine ⟨by simp, ?_, fun hh => ?_, ?_⟩
      · simp only [List.all_cons, List.all_nil, Bool.and_true]
        exact (digit_iff _).2 (by omega)
      · have := congrArg UInt8.toNat (show UInt8.ofNat (48 + u) = 48 from hh)
        rw [e] at this
        have h48 : (48 : UInt8).toNat = 48 := rfl
        omega
      · show 0 * 10 + ((UInt8.ofNat (48 + u)).toNat - 48) = u
        omega
    · obtain ⟨h1, h2, h3, h4⟩ := ih (u / 10) (by omega)
      rw [Lib.decDigits, dif_neg h]
      have e := ofNat_dig48 (u % 10) (by omega)
      refine ⟨by simp, ?_, fun hh => ?_, ?_⟩
      · rw [List.all_append, h2]
        simp only [List.all_cons, List.all_nil, Bool.and_true, Bool.true_and]
        exact (digit_iff _).2 (by omega)
      · cases hd : Lib.decDigits (u / 10) with
        | nil => exact absurd hd h1
        | cons a t =>
          rw [hd] at hh h3
          have := h3 hh
          omega
      · rw [dv_snoc, h4]
        omega
theorem dec_zero' : Lib.decDigits 0 = [48] := by rw [Lib.decDigits, dif_pos (by decide)]; rfl

theorem parse_ok (M acc : Nat) (l : List UInt8) (v : Nat) (h : Lib.parseUintM M acc l = .ok v) : l.all digitB = true ∧ v = dvF acc l := by
  induction l generalizing acc with
  | nil => unfold Lib.parseUintM at h; injection h with h; exact ⟨rfl, h.symm⟩
  | cons c r ih =>
    unfold Lib.parseUintM at h
    split at h
    · rename_i hc
      split at h
      · cases h
      · split at h
        · cases h
        · obtain ⟨h1, h2⟩ := ih _ h
          refine ⟨?_, h2⟩
          simp only [List.all_cons, Bool.and_eq_true]
          exact ⟨(digit_iff c).2 hc, h1⟩
    · cases h
theorem parse_all (acc : Nat) (l : List UInt8) (ha : l.all digitB = true) (hb : dvF acc l < 1000000000000000000) : Lib.parseUintM (2 ^ 64 - 1) acc l = .ok (dvF acc l) := by
  induction l generalizing acc with
  | nil => rfl
  | cons c r ih =>
    simp only [List.all_cons, Bool.and_eq_true] at ha
    have hc := (digit_iff c).1 ha.1
    have h1 := dvF_ge (acc * 10 + (c.toNat - 48)) r
    have hb' : dvF (acc * 10 + (c.toNat - 48)) r < 1000000000000000000 := hb
    unfold Lib.parseUintM
    rw [if_pos hc, if_neg (by omega), if_neg (by omega)]
    exact ih _ ha.2 hb'

def negO (l : List UInt8) : Bool := decide (l.head? = some 45)
def magO (l : List UInt8) : List UInt8 := if negO l then l.drop 1 else l
def badO (l : List UInt8) : Bool := decide (magO l = []) || (decide (18 < (magO l).length) || (decide ((magO l).headD 0 = 48) && decide (1 < l.length)))
/-- what the reference reads -/
def numO (l : List UInt8) : Option Int := if badO l then none else if (magO l).all digitB then some (if negO l then -(dv (magO l) : Int) else (dv (magO l) : Int)) else none
/-- what the program reads -/
def readO (l : List UInt8) : Option Int :=
  match Lib.parseIntB 64 l with
  | .ok v => if decide (18 < (Lib.trimPrefix l [45]).length) || decide (Lib.itoa v ≠ l) then none else some v
  | _ => none
theorem trim_is (l : List UInt8) : Lib.trimPrefix l [45] = magO l := by
  unfold Lib.trimPrefix magO negO Lib.hasPrefix
  cases l with
  | nil => rfl
  | cons c r =>
    by_cases h : c = 45
    · subst h; simp [List.isPrefixOf]
    · have h' : ¬ (45 : UInt8) = c := fun e => h e.symm
      simp [List.isPrefixOf, h, h']
theorem num_neg (r : List UInt8) : readO (45 :: r) = numO (45 :: r) := by
  have hm : magO (45 :: r) = r := rfl
  have hn : negO (45 :: r) = true := rfl
  unfold readO numO badO
  rw [trim_is, hm, hn]
  have e0 : (if (45 : UInt8).toNat = 43 ∨ (45 : UInt8).toNat = 45 then r else 45 :: r) = r := by rw [if_pos (.inr rfl)]
  by_cases hr : r = []
  · subst hr
    rfl
  · have hp : Lib.parseUintB 64 r = Lib.parseUintM (2 ^ 64 - 1) 0 r := by unfold Lib.parseUintB; rw [if_neg hr]
    rw [decide_eq_false hr, Bool.false_or]
    by_cases hl : 18 < r.length
    · rw [decide_eq_true hl, Bool.true_or, if_pos rfl]
      split
      · rfl
      · rfl
    · rw [decide_eq_false hl]
      simp only [Bool.false_or]
      have h1 : 1 < (45 :: r : List UInt8).length := by
        cases r with
        | nil => exact absurd rfl hr
        | cons a t => simp
      rw [decide_eq_true h1, Bool.and_true]
      unfold Lib.parseIntB
      dsimp only
      rw [e0, hp]
      cases hq : Lib.parseUintM (2 ^ 64 - 1) 0 r with
      | ok u =>
        obtain ⟨ha, hu⟩ := parse_ok _ _ _ _ hq
        have hu' : u = dv r := hu
        have hlt := dv_lt r ha
        have hb : dv r < 1000000000000000000 := Nat.lt_of_lt_of_le hlt (Nat.pow_le_pow_right (by omega) (by omega : r.length ≤ 18))
        dsimp only
        rw [if_neg (by intro h; exact h.1 rfl), if_neg (by intro h; have := h.2; omega)]
        dsimp only
        rw [show (if UInt8.toNat 45 = 45 then -(u : Int) else (u : Int)) = -(u : Int) from if_pos rfl, ha, hu']
        simp only [if_true]
        by_cases h48 : r.headD 0 = 48
        · rw [decide_eq_true h48, if_pos rfl]
          have hne : ¬ Lib.itoa (-(dv r : Int)) = 45 :: r := by
            intro he
            unfold Lib.itoa at he
            by_cases hz : dv r = 0
            · rw [if_neg (by omega), hz] at he
              have : Lib.decDigits 0 = 45 :: r := he
              rw [dec_zero'] at this
              cases this
            · rw [if_pos (by omega), Int.natAbs_neg, Int.natAbs_natCast] at he
              injection he with _ he
              have := (dec_facts (dv r)).2.2.1 (by rw [he]; exact h48)
              exact hz this
          rw [decide_eq_true hne, if_pos rfl]
        · rw [decide_eq_false h48]
          have hd := dec_of r hr ha (.inl h48)
          have hpos : 0 < dv r := by
            apply Nat.pos_of_ne_zero; intro hz
            rw [hz, dec_zero'] at hd
            exact h48 (by rw [← hd]; rfl)
          have he : Lib.itoa (-(dv r : Int)) = 45 :: r := by
            unfold Lib.itoa
            rw [if_pos (by omega), Int.natAbs_neg, Int.natAbs_natCast, hd]
          rw [decide_eq_false (by simpa using he)]
          first | done | rfl
      | _ =>
        dsimp only
        by_cases ha : r.all digitB = true
        · have hlt := dv_lt r ha
          have hb : dv r < 1000000000000000000 := Nat.lt_of_lt_of_le hlt (Nat.pow_le_pow_right (by omega) (by omega : r.length ≤ 18))
          rw [parse_all 0 r ha hb] at hq
          cases hq
        · rw [if_neg ha]
          split <;> rfl
theorem num_plain (c : UInt8) (r : List UInt8) (hc : c ≠ 45) : readO (c :: r) = numO (c :: r) := by
  have hn : negO (c :: r) = false := by unfold negO; simp [hc]
  have hm : magO (c :: r) = c :: r := by unfold magO; rw [hn]; rfl
  have hc45 : ¬ c.toNat = 45 := fun h => hc (by apply UInt8.toNat.inj; rw [h]; rfl)
  unfold readO numO badO
  rw [trim_is, hm, hn]
  have hr : ¬ (c :: r) = [] := by simp
  rw [decide_eq_false hr, Bool.false_or]
  have hhd : (c :: r).headD 0 = c := rfl
  rw [hhd]
  by_cases hl : 18 < (c :: r).length
  · rw [decide_eq_true hl, Bool.true_or, if_pos rfl]
    split
    · rfl
    · rfl
  · rw [decide_eq_false hl]
    simp only [Bool.false_or, Bool.false_eq_true, if_false]
    unfold Lib.parseIntB
    dsimp only
    by_cases h43 : c.toNat = 43
    · -- a plus: the program reads it and does not write it so
      have hnd : (c :: r).all digitB = false := by
        simp only [List.all_cons, Bool.and_eq_false_iff]
        left
        cases h : digitB c with
        | true => have := (digit_iff c).1 h; omega
        | false => rfl
      rw [hnd]
      have hrhs : (if (decide (c = 48) && decide (1 < (c :: r).length)) = true then (none : Option Int) else if false = true then some ((dv (c :: r) : Int)) else none) = none := by split <;> rfl
      rw [hrhs]
      cases hq : Lib.parseUintB 64 (if c.toNat = 43 ∨ c.toNat = 45 then r else c :: r) with
      | ok u =>
        dsimp only
        by_cases hbig : 2 ^ (64 - 1) ≤ u
        · rw [if_pos ⟨hc45, hbig⟩]
        · rw [if_neg (by intro h; exact hbig h.2), if_neg (by intro h; exact hc45 h.1)]
          dsimp only
          rw [show (if c.toNat = 45 then -(u : Int) else (u : Int)) = (u : Int) from if_neg hc45]
          have hne : ¬ Lib.itoa (u : Int) = c :: r := by
            intro he
            unfold Lib.itoa at he
            rw [if_neg (by omega), Int.toNat_natCast] at he
            have := (dec_facts u).2.1
            rw [he, hnd] at this
            cases this
          rw [decide_eq_true hne, if_pos rfl]
      | _ => rfl
    · rw [if_neg (by intro h; rcases h with h | h; exact h43 h; exact hc45 h)]
      have hp : Lib.parseUintB 64 (c :: r) = Lib.parseUintM (2 ^ 64 - 1) 0 (c :: r) := by unfold Lib.parseUintB; rw [if_neg hr]
      rw [hp]
      cases hq : Lib.parseUintM (2 ^ 64 - 1) 0 (c :: r) with
      | ok u =>
        obtain ⟨ha, hu⟩ := parse_ok _ _ _ _ hq
        have hu' : u = dv (c :: r) := hu
        have hlt := dv_lt (c :: r) ha
        have hb : dv (c :: r) < 1000000000000000000 := Nat.lt_of_lt_of_le hlt (Nat.pow_le_pow_right (by omega) (by omega : (c :: r).length ≤ 18))
        dsimp only
        rw [if_neg (by intro h; have := h.2; omega), if_neg (by intro h; exact hc45 h.1)]
        dsimp only
        rw [show (if c.toNat = 45 then -(u : Int) else (u : Int)) = (u : Int) from if_neg hc45, ha, hu']
        simp only [if_true]
        have hit : Lib.itoa (dv (c :: r) : Int) = Lib.decDigits (dv (c :: r)) := by
          unfold Lib.itoa
          rw [if_neg (by omega), Int.toNat_natCast]
        rw [hit]
        by_cases h48 : c = 48 ∧ 1 < (c :: r).length
        · rw [decide_eq_true h48.1, decide_eq_true h48.2, Bool.and_true, if_pos rfl]
          have hne : ¬ Lib.decDigits (dv (c :: r)) = c :: r := by
            intro he
            have := (dec_facts (dv (c :: r))).2.2.1 (by rw [he]; exact h48.1)
            rw [this, dec_zero'] at he
            have h1 := congrArg List.length he
            have h2 := h48.2
            rw [← h1] at h2
            exact absurd h2 (by decide)
          rw [decide_eq_true hne, if_pos rfl]
        · have hd := dec_of (c :: r) hr ha (by
            by_cases h : c = 48
            · right
              have : ¬ 1 < (c :: r).length := fun h2 => h48 ⟨h, h2⟩
              simp at this ⊢
              exact this
            · left; exact h)
          rw [hd, decide_eq_false (by simp), if_neg (by simp), if_neg (by
            intro h
            simp only [Bool.and_eq_true, decide_eq_true_eq] at h
            exact h48 h)]
      | _ =>
        dsimp only
        by_cases ha : (c :: r).all digitB = true
        · have hlt := dv_lt (c :: r) ha
          have hb : dv (c :: r) < 1000000000000000000 := Nat.lt_of_lt_of_le hlt (Nat.pow_le_pow_right (by omega) (by omega : (c :: r).length ≤ 18))
          rw [parse_all 0 (c :: r) ha hb] at hq
          cases hq
        · rw [if_neg ha]
          split <;> rfl
theorem read_num (l : List UInt8) : readO l = numO l := by
  cases l with
  | nil => rfl
  | cons c r =>
    by_cases h : c = 45
    · subst h; exact num_neg r
    · exact num_plain c r h
end Go.Proofs.YtcfcmpblemagiaaGreatDoor
