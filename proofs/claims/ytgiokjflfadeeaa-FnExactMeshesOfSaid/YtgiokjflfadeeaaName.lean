/-
  The contracts of the two name tests: both say of every text whether it is a name.
-/
import Derived.Test.YtgiokjflfadeeaaNum
namespace Go.Proofs.Ytgiokjflfadeeaa
open Go.RowKit
set_option linter.unusedVariables false

def smallB (c : UInt8) : Bool := decide (97 ≤ (c.toNat : Int)) && decide ((c.toNat : Int) ≤ 122)
def digitB (c : UInt8) : Bool := decide (48 ≤ (c.toNat : Int)) && decide ((c.toNat : Int) ≤ 57)
def okB (c : UInt8) : Bool := smallB c || digitB c
def okAll (l : List UInt8) : Bool := l.all okB
def nameB (l : List UInt8) : Bool := decide (1 ≤ l.length) && (decide (l.length ≤ 10) && (smallB (l.headD 0) && okAll l))

theorem okB_true {c : UInt8} (h : (97 ≤ (c.toNat : Int) ∧ (c.toNat : Int) ≤ 122) ∨ (48 ≤ (c.toNat : Int) ∧ (c.toNat : Int) ≤ 57)) : okB c = true := by
  unfold okB smallB digitB
  rcases h with ⟨a, b⟩ | ⟨a, b⟩ <;> simp [a, b]
theorem okB_false {c : UInt8} (h : (c.toNat : Int) < 48 ∨ (57 < (c.toNat : Int) ∧ (c.toNat : Int) < 97) ∨ 122 < (c.toNat : Int)) : okB c = false := by
  unfold okB smallB digitB
  simp only [Bool.or_eq_false_iff, Bool.and_eq_false_iff, decide_eq_false_iff_not]
  omega
theorem all_take (s : ByteArray) (k : Nat) (h : k < s.size) : okAll (s.data.toList.take (k + 1)) = (okAll (s.data.toList.take k) && okB s[k]) := by
  have e : s.data.toList.take (k + 1) = s.data.toList.take k ++ [s[k]] := by
    rw [List.take_succ_eq_append_getElem (by simpa using h)]; rfl
  unfold okAll
  rw [e, List.all_append]
  simp
theorem mem_is (s : ByteArray) (k : Nat) (h : k < s.size) : s[k] ∈ s.data.toList := by
  have e : s[k] = s.data.toList[k]'(by simpa using h) := rfl
  rw [e]; exact List.getElem_mem _
theorem all_false (s : ByteArray) (k : Nat) (h : k < s.size) (hf : okB s[k] = false) : okAll s.data.toList = false := by
  unfold okAll
  rw [List.all_eq_false]
  exact ⟨s[k], mem_is s k h, by simp [hf]⟩
theorem all_size (s : ByteArray) : s.data.toList.take s.size = s.data.toList := List.take_of_length_le (by simp)
theorem small_true {c : UInt8} (h : 97 ≤ (c.toNat : Int)) (h' : (c.toNat : Int) ≤ 122) : smallB c = true := by simp [smallB, h, h']
theorem small_false {c : UInt8} (h : (c.toNat : Int) < 97 ∨ 122 < (c.toNat : Int)) : smallB c = false := by
  unfold smallB; simp only [Bool.and_eq_false_iff, decide_eq_false_iff_not]; omega
theorem head_is (s : ByteArray) (h : 0 < s.size) : s.data.toList.headD 0 = s[0] := by
  have h' : 0 < s.data.toList.length := by simpa using h
  cases hl : s.data.toList with
  | nil => rw [hl] at h'; simp at h'
  | cons a t =>
    have : s[0] = s.data.toList[0] := rfl
    simp [this, hl]
theorem len_is (s : ByteArray) : s.data.toList.length = s.size := by simp

theorem onlyNameBytes_any (s : ByteArray) (w : World) (hs : s.size ≤ maxLen) :
    Calls Try.prog 77 #[.string s] w fun e w' => e = .returned (.bool (okAll s.data.toList)) ∧ w = w' := by
  unfold maxLen at hs
  go_enter Try.func77, Try.ntmps77
  go_wp2
  go_loop [7] (fun i => ∃ k : Nat, k ≤ s.size ∧ i = .int .i64 k ∧ okAll (s.data.toList.take k) = true) (fun i => s.size - (intOf i).toNat)
  case atStart => exact ⟨0, Nat.zero_le _, rfl, rfl⟩
  case round =>
    obtain ⟨k, hk, rfl, ha⟩ := hrel
    have HA := Lib.hid ha
    clear ha
    by_cases hlt : k < s.size
    · have e := all_take s k hlt
      have hf := all_false s k hlt
      have E := Lib.hid e
      have HF := Lib.hid hf
      clear e hf
      rcases (by omega : ((s[k].toNat : Int) < 48 ∨ (57 < (s[k].toNat : Int) ∧ (s[k].toNat : Int) < 97) ∨ 122 < (s[k].toNat : Int)) ∨ ((97 ≤ (s[k].toNat : Int) ∧ (s[k].toNat : Int) ≤ 122) ∨ (48 ≤ (s[k].toNat : Int) ∧ (s[k].toNat : Int) ≤ 57))) with h | h
      · have HO := Lib.hid (okB_false h)
        rcases h with h | ⟨h, h'⟩ | h
        all_goals
          go_wp2
          go_ret
          exact ⟨ret_bool (HF.out HO.out).symm, rfl⟩
      · have HO := Lib.hid (okB_true h)
        rcases h with ⟨h, h'⟩ | ⟨h, h'⟩
        all_goals
          go_wp2
          go_round
          case rel => exact ⟨k + 1, by omega, by go_num, by rw [E.out, HA.out, HO.out]; rfl⟩
          case measure => simp [intOf]; omega
    · obtain rfl : k = s.size := by omega
      go_wp2
      go_ret
      exact ⟨ret_bool (by rw [← all_size, HA.out]), rfl⟩
theorem l01Small_any (c : UInt8) (w : World) :
    Calls Try.prog 75 #[.int .u8 c.toNat] w fun e w' => e = .returned (.bool (smallB c)) ∧ w = w' := by
  go_enter Try.func75, Try.ntmps75
  go_wp2
  · go_ret
    exact ⟨ret_bool (by simp [smallB, *]), rfl⟩
  · go_ret
    exact ⟨ret_bool (by simp [smallB]; omega), rfl⟩
theorem l01Digit_any (c : UInt8) (w : World) :
    Calls Try.prog 76 #[.int .u8 c.toNat] w fun e w' => e = .returned (.bool (digitB c)) ∧ w = w' := by
  go_enter Try.func76, Try.ntmps76
  go_wp2
  · go_ret
    exact ⟨ret_bool (by simp [digitB, *]), rfl⟩
  · go_ret
    exact ⟨ret_bool (by simp [digitB]; omega), rfl⟩

theorem isNameP_any (s : ByteArray) (w : World) (hs : s.size ≤ maxLen) :
    Calls Try.prog 67 #[.string s] w fun e w' => e = .returned (.bool (nameB s.data.toList)) ∧ w = w' := by
  have hl := len_is s
  by_cases h1 : 1 ≤ s.size
  · by_cases h2 : s.size ≤ 10
    · have hh := Lib.hid (head_is s h1)
      have HL := Lib.hid hl
      clear hl
      rcases (by omega : (s[0].toNat : Int) < 97 ∨ 122 < (s[0].toNat : Int) ∨ (97 ≤ (s[0].toNat : Int) ∧ (s[0].toNat : Int) ≤ 122)) with h | h | ⟨h, h'⟩
      · have HS := Lib.hid (small_false (.inl h))
        go_enter Try.func67, Try.ntmps67
        go_wp2_with (go_at_call 77; refine (onlyNameBytes_any _ _ hs).mono ?_; rintro e w' ⟨rfl, rfl⟩)
        go_ret
        exact ⟨ret_bool (by unfold nameB; rw [hh.out, HS.out]; simp), rfl⟩
      · have HS := Lib.hid (small_false (.inr h))
        go_enter Try.func67, Try.ntmps67
        go_wp2_with (go_at_call 77; refine (onlyNameBytes_any _ _ hs).mono ?_; rintro e w' ⟨rfl, rfl⟩)
        go_ret
        exact ⟨ret_bool (by unfold nameB; rw [hh.out, HS.out]; simp), rfl⟩
      · have HS := Lib.hid (small_true h h')
        go_enter Try.func67, Try.ntmps67
        go_wp2_with (go_at_call 77; refine (onlyNameBytes_any _ _ hs).mono ?_; rintro e w' ⟨rfl, rfl⟩)
        go_ret
        exact ⟨ret_bool (by unfold nameB; rw [hh.out, HS.out, HL.out]; simp [h1, h2]), rfl⟩
    · have HL := Lib.hid hl
      clear hl
      go_enter Try.func67, Try.ntmps67
      go_wp2_with (go_at_call 77; refine (onlyNameBytes_any _ _ hs).mono ?_; rintro e w' ⟨rfl, rfl⟩)
      go_ret
      exact ⟨ret_bool (by unfold nameB; rw [HL.out]; simp; omega), rfl⟩
  · have HL := Lib.hid hl
    clear hl
    go_enter Try.func67, Try.ntmps67
    go_wp2_with (go_at_call 77; refine (onlyNameBytes_any _ _ hs).mono ?_; rintro e w' ⟨rfl, rfl⟩)
    go_ret
    exact ⟨ret_bool (by unfold nameB; rw [HL.out]; simp; omega), rfl⟩

theorem l01Name_any (s : ByteArray) (w : World) (hs : s.size ≤ maxLen) :
    Calls Try.prog 66 #[.string s] w fun e w' => e = .returned (.bool (nameB s.data.toList)) ∧ w = w' := by
  unfold maxLen at hs
  have hl := len_is s
  by_cases h1 : 1 ≤ s.size
  · have hz : s.toList.isEmpty = false := by
      have : s.toList = s.data.toList := ByteArray.toList_eq s
      rw [this]; cases h : s.data.toList with
      | nil => rw [h] at hl; simp at hl; omega
      | cons a t => rfl
    by_cases h2 : s.size ≤ 10
    · have hh := Lib.hid (head_is s h1)
      have HL := Lib.hid hl
      clear hl
      by_cases h : smallB s[0] = true
      · have HS := Lib.hid h
        go_enter Try.func66, Try.ntmps66
        go_wp2_with (first | (go_at_call 75; refine (l01Small_any _ _).mono ?_; rintro e w' ⟨rfl, rfl⟩))
        go_loop [3] (fun i => ∃ k : Nat, k ≤ s.size ∧ i = .int .i64 k ∧ okAll (s.data.toList.take k) = true) (fun i => s.size - (intOf i).toNat)
        case atStart => exact ⟨0, Nat.zero_le _, rfl, rfl⟩
        case round =>
          obtain ⟨k, hk, rfl, ha⟩ := hrel
          have HA := Lib.hid ha
          clear ha
          by_cases hlt : k < s.size
          · have e := all_take s k hlt
            have hf := all_false s k hlt
            have E := Lib.hid e
            have HF := Lib.hid hf
            clear e hf
            by_cases g1 : smallB s[k] = true
            · have G := Lib.hid g1
              go_wp2_with (first | (go_at_call 75; refine (l01Small_any _ _).mono ?_; rintro e w' ⟨rfl, rfl⟩))
              go_round
              case rel => exact ⟨k + 1, by omega, by go_num, by rw [E.out, HA.out]; unfold okB; rw [G.out]; rfl⟩
              case measure => simp [intOf]; omega
            · have g1 : smallB s[k] = false := by simpa using g1
              have G := Lib.hid g1
              by_cases g2 : digitB s[k] = true
              · have G2 := Lib.hid g2
                go_wp2_with (first | (go_at_call 75; refine (l01Small_any _ _).mono ?_; rintro e w' ⟨rfl, rfl⟩) | (go_at_call 76; refine (l01Digit_any _ _).mono ?_; rintro e w' ⟨rfl, rfl⟩))
                go_round
                case rel => exact ⟨k + 1, by omega, by go_num, by rw [E.out, HA.out]; unfold okB; rw [G.out, G2.out]; rfl⟩
                case measure => simp [intOf]; omega
              · have g2 : digitB s[k] = false := by simpa using g2
                have G2 := Lib.hid g2
                go_wp2_with (first | (go_at_call 75; refine (l01Small_any _ _).mono ?_; rintro e w' ⟨rfl, rfl⟩) | (go_at_call 76; refine (l01Digit_any _ _).mono ?_; rintro e w' ⟨rfl, rfl⟩))
                go_ret
                exact ⟨ret_bool (by unfold nameB; rw [HF.out (by unfold okB; rw [G.out, G2.out]; rfl)]; simp), rfl⟩
          · obtain rfl : k = s.size := by omega
            go_wp2
            go_ret
            exact ⟨ret_bool (by unfold nameB; rw [hh.out, HS.out, HL.out, ← all_size, HA.out]; simp [h1, h2]), rfl⟩
      · have h : smallB s[0] = false := by simpa using h
        have HS := Lib.hid h
        go_enter Try.func66, Try.ntmps66
        go_wp2_with (first | (go_at_call 75; refine (l01Small_any _ _).mono ?_; rintro e w' ⟨rfl, rfl⟩))
        go_ret
        exact ⟨ret_bool (by unfold nameB; rw [hh.out, HS.out]; simp), rfl⟩
    · have HL := Lib.hid hl
      clear hl
      go_enter Try.func66, Try.ntmps66
      go_wp2
      go_ret
      exact ⟨ret_bool (by unfold nameB; rw [HL.out]; simp; omega), rfl⟩
  · have hz : s.toList.isEmpty = true := by
      have e : s.toList = s.data.toList := ByteArray.toList_eq s
      rw [e]; cases h : s.data.toList with
      | nil => rfl
      | cons a t => rw [h] at hl; simp at hl; omega
    have HL := Lib.hid hl
    clear hl
    go_enter Try.func66, Try.ntmps66
    go_wp2
    go_ret
    exact ⟨ret_bool (by unfold nameB; rw [HL.out]; simp; omega), rfl⟩
theorem l01Name_is (s : ByteArray) (w : World) (hs : s.size ≤ maxLen) (b : Bool) (h : nameB s.data.toList = b) :
    Calls Try.prog 66 #[.string s] w fun e w' => e = .returned (.bool b) ∧ w = w' := by subst h; exact l01Name_any s w hs
end Go.Proofs.Ytgiokjflfadeeaa
