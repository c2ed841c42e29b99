/-
  The laws' markText, exactly: which text it gives.
-/
import Derived.Laws.BytesArg
import Derived.Test.YtgiokjflfadeeaaNum
import Derived.RowKit3
import Derived.ProofKit
import Derived.OpenShut
import Derived.Lib.SmallJoins
namespace Go.Proofs.Ytgiokjflfadeeaa
open Go.RowKit
set_option linter.unusedVariables false

def digs (t : Nat) (o : ByteArray) : ByteArray := if h : t = 0 then o else digs (t / 10) (strOfNums [48 + (t : Int) % 10] ++ o)
termination_by t
decreasing_by omega
theorem digs_zero (o : ByteArray) : digs 0 o = o := by rw [digs]; simp
theorem digs_pos (t : Nat) (o : ByteArray) (h : 0 < t) : digs t o = digs (t / 10) (strOfNums [48 + (t : Int) % 10] ++ o) := by
  rw [digs]; rw [dif_neg (by omega)]
/-- what markText gives at k -/
def markT (k : Nat) : ByteArray := (⟨#[109]⟩ : ByteArray) ++ digs k ⟨#[]⟩
theorem markText_is (k : Nat) (w : World) (h0 : 0 < k) (hk : k ≤ 1099511627776) :
    Calls Try.prog 59 #[.int .i64 (k : Int)] w fun e w' => e = .returned (.string (markT k)) ∧ Below w.heap.size w w' := by
  have hki : (0 : Int) < k := by omega
  go_enter Try.func59, Try.ntmps59
  go_wp2_with fail
  go_loopw [0, 3] (fun t o wr => ∃ (m : Nat) (s : ByteArray), t = .int .i64 (m : Int) ∧ o = .string s ∧ s.size + m ≤ k ∧ digs m s = digs k ⟨#[]⟩ ∧ Below w.heap.size w wr) (fun t _ _ => (intOf t).toNat)
  case atStart => exact ⟨k, ⟨#[]⟩, rfl, rfl, by show 0 + k ≤ k; omega, rfl, Below.refl _ _⟩
  case round =>
    obtain ⟨m, s, rfl, rfl, hs, hd, hb⟩ := hrel
    have HB := Lib.hid hb
    have HD := Lib.hid hd
    clear hb hd
    by_cases hm : 0 < m
    · have hmi : (0 : Int) < m := by omega
      have hw8 : IntKind.u8.wrap (48 + (m : Int) % 10) = 48 + (m : Int) % 10 := by rw [IntKind.wrap_u8]; omega
      have hmod := Int.emod_nonneg (m : Int) (show (10 : Int) ≠ 0 by omega)
      have hmod2 := Int.emod_lt_of_pos (m : Int) (show (0 : Int) < 10 by omega)
      obtain ⟨t, ht, hts⟩ : ∃ t : ByteArray, t = strOfNums [48 + (m : Int) % 10] ∧ t.size = 1 := ⟨_, rfl, rfl⟩
      have HD2 := Lib.hid (show digs (m / 10) (t ++ s) = digs k ⟨#[]⟩ by rw [ht, ← digs_pos m s hm]; exact HD.out)
      have hcv : (convert 95 9 (.slice (some ⟨wr.heap.size, 0, none⟩) 1 1)).run Try.prog (wr.alloc (.cells #[.int .u8 (48 + (m : Int) % 10)] 5)) = .ok (.string t) (wr.alloc (.cells #[.int .u8 (48 + (m : Int) % 10)] 5)) := by
        rw [ht]
        have hce : ∀ i, i < 1 → (wr.alloc (.cells #[.int .u8 (48 + (m : Int) % 10)] 5)).cell? ⟨wr.heap.size, 0 + i, none⟩ = some (.int .u8 ([48 + (m : Int) % 10].getD i 0)) := by
          intro i hi
          have hi0 : i = 0 := by omega
          subst hi0
          simp [go_sem]
        exact run_convert_bytes_arg (P := Try.prog) _ 95 5 Try.underlying95 Try.underlying5 wr.heap.size 0 1 1 [48 + (m : Int) % 10] rfl hce 9 Try.underlying9
      have hsz : t.size + s.size ≤ 9223372036854775807 := by omega
      have HT := Lib.hid hts
      clear ht hts
      go_wp2_with fail
      go_roundw
      case rel => exact ⟨m / 10, t ++ s, congrArg (Value.int .i64) (by omega), rfl, by rw [ByteArray.size_append, HT.out]; omega, HD2.out, HB.out.alloc HB.out.size _⟩
      case measure => simp [intOf]; omega
    · have hm0 : m = 0 := by omega
      have HM := Lib.hid hm0
      have hmi : (m : Int) ≤ 0 := by omega
      clear hm0
      go_wp2_with fail
      go_ret
      exact ⟨by have := HD.out; rw [HM.out, digs_zero] at this; rw [this]; rfl, HB.out⟩

theorem markTextI_is (k : Int) (w : World) (h0 : 0 < k) (hk : k ≤ 1099511627776) : Calls Try.prog 59 #[.int .i64 k] w fun e w' => e = .returned (.string (markT k.toNat)) ∧ Below w.heap.size w w' := by
  obtain ⟨m, rfl⟩ := Int.eq_ofNat_of_zero_le (show 0 ≤ k by omega)
  exact markText_is m w (by omega) (by omega)
end Go.Proofs.Ytgiokjflfadeeaa
