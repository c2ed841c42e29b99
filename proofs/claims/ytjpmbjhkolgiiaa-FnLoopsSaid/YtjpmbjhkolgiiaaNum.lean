/-
  The contracts of the small number functions of the program and of the reference: what each returns, in plain integers, for all arguments in the stated bounds.
-/
import Derived.Test.YtjpmbjhkolgiiaaRows
import Derived.Test.YtjpmbjhkolgiiaaPlain
import Derived.WalkKit
import Derived.WalkSpells
import Derived.WalkLawsBesides
import Derived.Outline
import Derived.Deep.QuietTactic
import Derived.BigQuiet
import Derived.Lib.Hide
namespace Go.Proofs.Ytjpmbjhkolgiiaa
open Go.RowKit
set_option linter.unusedVariables false

theorem own : ownKnob Try.prog.godebug = none := by kernel_rfl
theorem laidOut : laidOutB Try.prog = true := by kernel_rfl
theorem wf_bd {a : Int} (h : (Lit.int .i64 a).wf = true) : -9223372036854775808 ≤ a ∧ a ≤ 9223372036854775807 := by
  have h1 : IntKind.i64.min = -9223372036854775808 := rfl
  have h2 : IntKind.i64.max = 9223372036854775807 := rfl
  simp only [Lit.wf, Bool.and_eq_true, decide_eq_true_eq] at h
  omega
theorem below_drewN {B : Nat} {a w : World} (h : Below B a w) (n : Nat) : Below B a (w.drewN n) := ⟨h.os, h.tape, h.output, h.size, h.block⟩
theorem prod_bd (a b A B : Int) (h1 : -A ≤ a) (h2 : a ≤ A) (h3 : 0 ≤ b) (h4 : b ≤ B) : -(A * B) ≤ a * b ∧ a * b ≤ A * B := by
  have hA : 0 ≤ A := by omega
  have h5 : a * b ≤ A * b := Int.mul_le_mul_of_nonneg_right h2 h3
  have h6 : A * b ≤ A * B := Int.mul_le_mul_of_nonneg_left h4 hA
  have h7 : -A * b ≤ a * b := Int.mul_le_mul_of_nonneg_right h1 h3
  rw [Int.neg_mul] at h7
  omega

theorem ret_int {k : IntKind} {a b : Int} (h : a = b) : Ending.returned (.int k a) = .returned (.int k b) := by rw [h]
theorem ret_bool {a b : Bool} (h : a = b) : Ending.returned (.bool a) = .returned (.bool b) := by rw [h]

theorem quiet_left {P : Program} {f : FuncId} {args : Array Value} {w : World} {n : Nat} {v : Value}
    (h : Calls P f args (w.drewN n) fun e w' => e = .returned v ∧ w.drewN n = w') : Calls P f args (w.drewN n) fun e w'' => e = .returned v ∧ ∃ m, w'' = w.drewN m :=
  h.mono fun _ _ ⟨he, hm⟩ => ⟨he, n, hm.symm⟩
theorem quiet_add_left {P : Program} {f : FuncId} {args : Array Value} {w : World} {a n : Nat} {v : Value}
    (h : Calls P f args (w.drewN (a + n)) fun e w' => e = .returned v ∧ w.drewN (a + n) = w') :
    Calls P f args (w.drewN (a + n)) fun e w'' => e = .returned v ∧ ∃ m, w'' = w.drewN (a + m) :=
  h.mono fun _ _ ⟨he, hm⟩ => ⟨he, n, hm.symm⟩

theorem quiet_ex {P : Program} {f : FuncId} {args : Array Value} {w : World} {n : Nat} {v : Value}
    (h : Calls P f args (w.drewN n) fun e w' => e = .returned v ∧ ∃ m, w' = (w.drewN n).drewN m) : Calls P f args (w.drewN n) fun e w'' => e = .returned v ∧ ∃ m, w'' = w.drewN m :=
  h.mono fun _ _ ⟨he, m, hm⟩ => ⟨he, n + m, by rw [hm, World.drewN_drewN]⟩
theorem quiet_add_ex {P : Program} {f : FuncId} {args : Array Value} {w : World} {a n : Nat} {v : Value}
    (h : Calls P f args (w.drewN (a + n)) fun e w' => e = .returned v ∧ ∃ m, w' = (w.drewN (a + n)).drewN m) : Calls P f args (w.drewN (a + n)) fun e w'' => e = .returned v ∧ ∃ m, w'' = w.drewN (a + m) :=
  h.mono fun _ _ ⟨he, m, hm⟩ => ⟨he, n + m, by rw [hm, World.drewN_drewN, Nat.add_assoc]⟩

theorem within_any (n lo hi : Int) (w : World) :
    Calls Try.prog 73 #[.int .i64 n, .int .i64 lo, .int .i64 hi] w fun e w' => e = .returned (.bool (inB n lo hi)) ∧ w = w' := by
  go_enter Try.func73, Try.ntmps73
  go_wp2
  · go_ret
    exact ⟨by simp [inB, *], rfl⟩
  · go_ret
    exact ⟨by simp [inB]; omega, rfl⟩
theorem l00In_any (n lo hi : Int) (w : World) :
    Calls Try.prog 69 #[.int .i64 n, .int .i64 lo, .int .i64 hi] w fun e w' => e = .returned (.bool (inB n lo hi)) ∧ w = w' := by
  go_enter Try.func69, Try.ntmps69
  go_wp2
  · go_ret
    exact ⟨by simp [inB, *], rfl⟩
  · go_ret
    exact ⟨by simp [inB]; omega, rfl⟩

theorem within_is (n lo hi : Int) (w : World) (b : Bool) (h : inB n lo hi = b) :
    Calls Try.prog 73 #[.int .i64 n, .int .i64 lo, .int .i64 hi] w fun e w' => e = .returned (.bool b) ∧ w = w' := by subst h; exact within_any n lo hi w
theorem l00In_is (n lo hi : Int) (w : World) (b : Bool) (h : inB n lo hi = b) :
    Calls Try.prog 69 #[.int .i64 n, .int .i64 lo, .int .i64 hi] w fun e w' => e = .returned (.bool b) ∧ w = w' := by subst h; exact l00In_any n lo hi w

theorem abs_any (n : Int) (w : World) (h : -9223372036854775807 ≤ n) (h' : n ≤ 9223372036854775807) :
    Calls Try.prog 80 #[.int .i64 n] w fun e w' => e = .returned (.int .i64 (absI n)) ∧ w = w' := by
  go_enter Try.func80, Try.ntmps80
  go_wp2
  · go_ret
    exact ⟨ret_int (by unfold absI; rw [if_pos (by omega)]), rfl⟩
  · go_ret
    exact ⟨ret_int (by unfold absI; rw [if_neg (by omega)]), rfl⟩

theorem l01Div_any (a b : Int) (w : World) (ha : -2000000000000000000 ≤ a) (ha' : a ≤ 2000000000000000000) (hb : -1000000000000000000 ≤ b) (hb' : b ≤ 1000000000000000000) (h0 : b ≠ 0) :
    Calls Try.prog 76 #[.int .i64 a, .int .i64 b] w fun e w' => e = .returned (.int .i64 (dr a b)) ∧ w = w' := by
  have hd : ∀ x y : Int, 0 ≤ x → x ≤ 9000000000000000000 → 1 ≤ y → wrap64 (-(x / y)) = -(x / y) := fun x y h1 h2 h3 => IntWalk.wrap64_in _ (by have := quo_bd x y h1 h3; omega)
  have hd := Lib.hid hd
  go_enter Try.func76, Try.ntmps76
  go_wp2
  · go_ret
    exact ⟨ret_int (by rw [hd.out _ _ (by omega) (by omega) (by omega)]; unfold dr absI; simp only [if_pos ‹b < 0›]; rw [if_pos (by omega)]), rfl⟩
  · go_ret
    exact ⟨ret_int (by unfold dr absI; simp only [if_pos ‹b < 0›]; rw [if_neg (by omega)]), rfl⟩
  · go_ret
    have hn : ¬ b < 0 := by omega
    exact ⟨ret_int (by rw [hd.out _ _ (by omega) (by omega) (by omega)]; unfold dr absI; simp only [if_neg hn]; rw [if_pos (by omega)]), rfl⟩
  · go_ret
    have hn : ¬ b < 0 := by omega
    exact ⟨ret_int (by unfold dr absI; simp only [if_neg hn]; rw [if_neg (by omega)]), rfl⟩

theorem divRound_any (a b : Int) (w : World) (ha : -2000000000000000000 ≤ a) (ha' : a ≤ 2000000000000000000) (hb : -1000000000000000000 ≤ b) (hb' : b ≤ 1000000000000000000) (h0 : b ≠ 0) :
    Calls Try.prog 51 #[.int .i64 a, .int .i64 b] w fun e w' => e = .returned (.int .i64 (dr a b)) ∧ ∃ n, w' = w.drewN n := by
  have hq := tquo_bd a b h0
  have hr : absI (a.tmod b) < absI b := by obtain ⟨_, _, _, h, _⟩ := tquo a b h0; exact h
  have hA : absI a ≤ 2000000000000000000 := by unfold absI; split <;> omega
  have hB : absI b ≤ 1000000000000000000 := by unfold absI; split <;> omega
  have hB0 := absI_nonneg b
  have hR0 := absI_nonneg (a.tmod b)
  have hq1 : -2000000000000000000 ≤ a.tdiv b := by revert hq; unfold absI; split <;> split <;> omega
  have hq2 : a.tdiv b ≤ 2000000000000000000 := by revert hq; unfold absI; split <;> split <;> omega
  have hr1 : -1000000000000000000 ≤ a.tmod b := by revert hr; unfold absI; split <;> split <;> omega
  have hr2 : a.tmod b ≤ 1000000000000000000 := by revert hr; unfold absI; split <;> split <;> omega
  go_enter Try.func51, Try.ntmps51
  go_wp2_with fail
  go_quiet ((go_at_call 80; exact quiet_left (abs_any _ _ (by omega) (by omega))))
  go_wp2_with (go_at_call 80; refine (abs_any _ _ (by omega) (by omega)).mono ?_; rintro e w' ⟨rfl, rfl⟩)
  · go_ret
    exact ⟨ret_int (dr_up a b h0 (by assumption) (by simpa using ‹(decide (a < 0) == decide (b < 0)) = true›)).symm, _, rfl⟩
  · go_ret
    exact ⟨ret_int (dr_down a b h0 (by assumption) (by simpa using ‹(decide (a < 0) == decide (b < 0)) = false›)).symm, _, rfl⟩
  · go_ret
    exact ⟨ret_int (dr_near a b h0 (by assumption)).symm, _, rfl⟩
end Go.Proofs.Ytjpmbjhkolgiiaa
