/-
  The contracts of the two check values: both compute the same number, byte by byte, bit by bit.
-/
import Derived.Test.YtkhfofnggfejmaaNum
namespace Go.Proofs.Ytkhfofnggfejmaa
open Go.RowKit
set_option linter.unusedVariables false

def bitS (z : Int) : Int := if 65535 < wrap64 (z * 2) then bits BinOp.xor .i64 (bits BinOp.and .i64 (wrap64 (z * 2)) 65535) 4129 else wrap64 (z * 2)
def bitsN : Nat → Int → Int
  | 0, z => z
  | k + 1, z => bitS (bitsN k z)
def mixS (z : Int) (b : UInt8) : Int := bits BinOp.xor .i64 z (wrap64 (wrap64 (b.toNat : Int) * 256))
def byteS (z : Int) (b : UInt8) : Int := bitsN 8 (mixS z b)
def crcL (l : List UInt8) (n : Int) : Int := l.foldl byteS n
theorem bitS_big {z : Int} (h : 65535 < wrap64 (z * 2)) : bitS z = bits BinOp.xor .i64 (bits BinOp.and .i64 (wrap64 (z * 2)) 65535) 4129 := by unfold bitS; rw [if_pos h]
theorem bitS_small {z : Int} (h : wrap64 (z * 2) ≤ 65535) : bitS z = wrap64 (z * 2) := by unfold bitS; rw [if_neg (by omega)]
theorem crc_take (s : ByteArray) (k : Nat) (h : k < s.size) (n : Int) : crcL (s.data.toList.take (k + 1)) n = byteS (crcL (s.data.toList.take k) n) s[k] := by
  have e : s.data.toList.take (k + 1) = s.data.toList.take k ++ [s[k]] := by
    rw [List.take_succ_eq_append_getElem (by simpa using h)]; rfl
  unfold crcL
  rw [e, List.foldl_append]
  rfl
theorem all_size' (s : ByteArray) : s.data.toList.take s.size = s.data.toList := List.take_of_length_le (by simp)

theorem crcP_any (s : ByteArray) (n : Int) (w : World) (hs : s.size ≤ maxLen) (g : inB n 0 65535 = true) :
    Calls Try.prog 23 #[.string s, .int .i64 n] w fun e w' => e = .returned (.int .i64 (crcL s.data.toList n)) ∧ w = w' := by
  unfold maxLen at hs
  go_enter Try.func23, Try.ntmps23
  go_wp2_with (first | (go_at_call 38; refine (l00In_any _ _ _ _).mono ?_; rintro e w' ⟨rfl, rfl⟩) | (go_at_call 39; refine (within_any _ _ _ _).mono ?_; rintro e w' ⟨rfl, rfl⟩) | (go_at_call 50; refine (l01Div_any _ _ _ (by omega) (by omega) (by omega) (by omega) (by omega)).mono ?_; rintro e w' ⟨rfl, rfl⟩) | (go_at_call 51; refine (divRound_any _ _ _ (by omega) (by omega) (by omega) (by omega) (by omega)).mono ?_; rintro e w' ⟨rfl, nq, rfl⟩) | go_in)
  go_loop [5, 13] (fun c i => ∃ (k : Nat) (z : Int), k ≤ s.size ∧ i = .int .i64 k ∧ c = .int .i64 z ∧ z = crcL (s.data.toList.take k) n) (fun _ i => s.size - (intOf i).toNat)
  case atStart => exact ⟨0, n, Nat.zero_le _, rfl, rfl, rfl⟩
  case round =>
    obtain ⟨k, z, hk, rfl, rfl, hz⟩ := hrel
    have HZ := Lib.hid hz
    clear hz
    by_cases hlt : k < s.size
    · have e := crc_take s k hlt n
      have E := Lib.hid e
      clear e
      go_wp2_with (first | (go_at_call 38; refine (l00In_any _ _ _ _).mono ?_; rintro e w' ⟨rfl, rfl⟩) | (go_at_call 39; refine (within_any _ _ _ _).mono ?_; rintro e w' ⟨rfl, rfl⟩) | (go_at_call 50; refine (l01Div_any _ _ _ (by omega) (by omega) (by omega) (by omega) (by omega)).mono ?_; rintro e w' ⟨rfl, rfl⟩) | (go_at_call 51; refine (divRound_any _ _ _ (by omega) (by omega) (by omega) (by omega) (by omega)).mono ?_; rintro e w' ⟨rfl, nq, rfl⟩) | go_in)
      go_loop [5, 23] (fun c i => ∃ (j : Nat) (y : Int), j ≤ 8 ∧ i = .int .i64 j ∧ c = .int .i64 y ∧ y = bitsN j (mixS z s[k])) (fun _ i => (8 - intOf i).toNat)
      case atStart => exact ⟨0, _, by omega, rfl, rfl, rfl⟩
      case round =>
        obtain ⟨j, y, hj8, rfl, rfl, hy⟩ := hrel
        have HY := Lib.hid hy
        clear hy
        by_cases hj : j < 8
        · by_cases hb : 65535 < wrap64 (y * 2)
          · have HB := Lib.hid (bitS_big hb)
            go_wp2_with (first | (go_at_call 38; refine (l00In_any _ _ _ _).mono ?_; rintro e w' ⟨rfl, rfl⟩) | (go_at_call 39; refine (within_any _ _ _ _).mono ?_; rintro e w' ⟨rfl, rfl⟩) | (go_at_call 50; refine (l01Div_any _ _ _ (by omega) (by omega) (by omega) (by omega) (by omega)).mono ?_; rintro e w' ⟨rfl, rfl⟩) | (go_at_call 51; refine (divRound_any _ _ _ (by omega) (by omega) (by omega) (by omega) (by omega)).mono ?_; rintro e w' ⟨rfl, nq, rfl⟩) | go_in)
            go_round
            case rel => exact ⟨j + 1, _, by omega, by go_num, rfl, by rw [← HB.out, HY.out]; rfl⟩
            case measure => simp [intOf]; omega
          · have hb' : wrap64 (y * 2) ≤ 65535 := by omega
            have HB := Lib.hid (bitS_small hb')
            clear hb
            go_wp2_with (first | (go_at_call 38; refine (l00In_any _ _ _ _).mono ?_; rintro e w' ⟨rfl, rfl⟩) | (go_at_call 39; refine (within_any _ _ _ _).mono ?_; rintro e w' ⟨rfl, rfl⟩) | (go_at_call 50; refine (l01Div_any _ _ _ (by omega) (by omega) (by omega) (by omega) (by omega)).mono ?_; rintro e w' ⟨rfl, rfl⟩) | (go_at_call 51; refine (divRound_any _ _ _ (by omega) (by omega) (by omega) (by omega) (by omega)).mono ?_; rintro e w' ⟨rfl, nq, rfl⟩) | go_in)
            go_round
            case rel => exact ⟨j + 1, _, by omega, by go_num, rfl, by rw [← HB.out, HY.out]; rfl⟩
            case measure => simp [intOf]; omega
        · obtain rfl : j = 8 := by omega
          go_wp2_with (first | (go_at_call 38; refine (l00In_any _ _ _ _).mono ?_; rintro e w' ⟨rfl, rfl⟩) | (go_at_call 39; refine (within_any _ _ _ _).mono ?_; rintro e w' ⟨rfl, rfl⟩) | (go_at_call 50; refine (l01Div_any _ _ _ (by omega) (by omega) (by omega) (by omega) (by omega)).mono ?_; rintro e w' ⟨rfl, rfl⟩) | (go_at_call 51; refine (divRound_any _ _ _ (by omega) (by omega) (by omega) (by omega) (by omega)).mono ?_; rintro e w' ⟨rfl, nq, rfl⟩) | go_in)
          go_round
          case rel => exact ⟨k + 1, _, by omega, by go_num, rfl, by rw [HY.out, E.out, ← HZ.out]; rfl⟩
          case measure => simp [intOf]; omega
    · obtain rfl : k = s.size := by omega
      go_wp2_with (first | (go_at_call 38; refine (l00In_any _ _ _ _).mono ?_; rintro e w' ⟨rfl, rfl⟩) | (go_at_call 39; refine (within_any _ _ _ _).mono ?_; rintro e w' ⟨rfl, rfl⟩) | (go_at_call 50; refine (l01Div_any _ _ _ (by omega) (by omega) (by omega) (by omega) (by omega)).mono ?_; rintro e w' ⟨rfl, rfl⟩) | (go_at_call 51; refine (divRound_any _ _ _ (by omega) (by omega) (by omega) (by omega) (by omega)).mono ?_; rintro e w' ⟨rfl, nq, rfl⟩) | go_in)
      go_ret
      exact ⟨ret_int (by rw [HZ.out, all_size']), rfl⟩

theorem l01Crc_any (s : ByteArray) (n : Int) (w : World) (hs : s.size ≤ maxLen) :
    Calls Try.prog 46 #[.string s, .int .i64 n] w fun e w' => e = .returned (.int .i64 (crcL s.data.toList n)) ∧ w = w' := by
  unfold maxLen at hs
  go_enter Try.func46, Try.ntmps46
  go_wp2
  go_loop [1, 5] (fun c i => ∃ (k : Nat) (z : Int), k ≤ s.size ∧ i = .int .i64 k ∧ c = .int .i64 z ∧ z = crcL (s.data.toList.take k) n) (fun _ i => s.size - (intOf i).toNat)
  case atStart => exact ⟨0, n, Nat.zero_le _, rfl, rfl, rfl⟩
  case round =>
    obtain ⟨k, z, hk, rfl, rfl, hz⟩ := hrel
    have HZ := Lib.hid hz
    clear hz
    by_cases hlt : k < s.size
    · have e := crc_take s k hlt n
      have E := Lib.hid e
      clear e
      go_wp2_with (first | (go_at_call 38; refine (l00In_any _ _ _ _).mono ?_; rintro e w' ⟨rfl, rfl⟩) | (go_at_call 39; refine (within_any _ _ _ _).mono ?_; rintro e w' ⟨rfl, rfl⟩) | (go_at_call 50; refine (l01Div_any _ _ _ (by omega) (by omega) (by omega) (by omega) (by omega)).mono ?_; rintro e w' ⟨rfl, rfl⟩) | (go_at_call 51; refine (divRound_any _ _ _ (by omega) (by omega) (by omega) (by omega) (by omega)).mono ?_; rintro e w' ⟨rfl, nq, rfl⟩) | go_in)
      go_loop [1, 6] (fun c i => ∃ (j : Nat) (y : Int), j ≤ 8 ∧ i = .int .i64 j ∧ c = .int .i64 y ∧ y = bitsN j (mixS z s[k])) (fun _ i => (8 - intOf i).toNat)
      case atStart => exact ⟨0, _, by omega, rfl, rfl, rfl⟩
      case round =>
        obtain ⟨j, y, hj8, rfl, rfl, hy⟩ := hrel
        have HY := Lib.hid hy
        clear hy
        by_cases hj : j < 8
        · by_cases hb : 65535 < wrap64 (y * 2)
          · have HB := Lib.hid (bitS_big hb)
            go_wp2_with (first | (go_at_call 38; refine (l00In_any _ _ _ _).mono ?_; rintro e w' ⟨rfl, rfl⟩) | (go_at_call 39; refine (within_any _ _ _ _).mono ?_; rintro e w' ⟨rfl, rfl⟩) | (go_at_call 50; refine (l01Div_any _ _ _ (by omega) (by omega) (by omega) (by omega) (by omega)).mono ?_; rintro e w' ⟨rfl, rfl⟩) | (go_at_call 51; refine (divRound_any _ _ _ (by omega) (by omega) (by omega) (by omega) (by omega)).mono ?_; rintro e w' ⟨rfl, nq, rfl⟩) | go_in)
            go_round
            case rel => exact ⟨j + 1, _, by omega, by go_num, rfl, by rw [← HB.out, HY.out]; rfl⟩
            case measure => simp [intOf]; omega
          · have hb' : wrap64 (y * 2) ≤ 65535 := by omega
            have HB := Lib.hid (bitS_small hb')
            clear hb
            go_wp2_with (first | (go_at_call 38; refine (l00In_any _ _ _ _).mono ?_; rintro e w' ⟨rfl, rfl⟩) | (go_at_call 39; refine (within_any _ _ _ _).mono ?_; rintro e w' ⟨rfl, rfl⟩) | (go_at_call 50; refine (l01Div_any _ _ _ (by omega) (by omega) (by omega) (by omega) (by omega)).mono ?_; rintro e w' ⟨rfl, rfl⟩) | (go_at_call 51; refine (divRound_any _ _ _ (by omega) (by omega) (by omega) (by omega) (by omega)).mono ?_; rintro e w' ⟨rfl, nq, rfl⟩) | go_in)
            go_round
            case rel => exact ⟨j + 1, _, by omega, by go_num, rfl, by rw [← HB.out, HY.out]; rfl⟩
            case measure => simp [intOf]; omega
        · obtain rfl : j = 8 := by omega
          go_wp2_with (first | (go_at_call 38; refine (l00In_any _ _ _ _).mono ?_; rintro e w' ⟨rfl, rfl⟩) | (go_at_call 39; refine (within_any _ _ _ _).mono ?_; rintro e w' ⟨rfl, rfl⟩) | (go_at_call 50; refine (l01Div_any _ _ _ (by omega) (by omega) (by omega) (by omega) (by omega)).mono ?_; rintro e w' ⟨rfl, rfl⟩) | (go_at_call 51; refine (divRound_any _ _ _ (by omega) (by omega) (by omega) (by omega) (by omega)).mono ?_; rintro e w' ⟨rfl, nq, rfl⟩) | go_in)
          go_round
          case rel => exact ⟨k + 1, _, by omega, by go_num, rfl, by rw [HY.out, E.out, ← HZ.out]; rfl⟩
          case measure => simp [intOf]; omega
    · obtain rfl : k = s.size := by omega
      go_wp2_with (first | (go_at_call 38; refine (l00In_any _ _ _ _).mono ?_; rintro e w' ⟨rfl, rfl⟩) | (go_at_call 39; refine (within_any _ _ _ _).mono ?_; rintro e w' ⟨rfl, rfl⟩) | (go_at_call 50; refine (l01Div_any _ _ _ (by omega) (by omega) (by omega) (by omega) (by omega)).mono ?_; rintro e w' ⟨rfl, rfl⟩) | (go_at_call 51; refine (divRound_any _ _ _ (by omega) (by omega) (by omega) (by omega) (by omega)).mono ?_; rintro e w' ⟨rfl, nq, rfl⟩) | go_in)
      go_ret
      exact ⟨ret_int (by rw [HZ.out, all_size']), rfl⟩
end Go.Proofs.Ytkhfofnggfejmaa
