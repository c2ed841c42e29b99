/-
  FnExactLoopError: for every list of drops the program's LoopError returns what the reference's returns, and leaves the list alone.
-/
import Derived.Test.YtjpmbjhkolgiiaaSums
import Derived.Test.YtjpmbjhkolgiiaaRowI
import Derived.Test.YtjpmbjhkolgiiaaNum
import Derived.RowKit3
import Derived.ProofKit
import Derived.OpenShut
import Derived.Lib.SmallJoins
namespace Go.Proofs.Ytjpmbjhkolgiiaa
open Go.RowKit
set_option linter.unusedVariables false

theorem loopErrP_yes (A : Option Addr) (c : Nat) (xs : List Int) (n : Nat) (w : World) (hn : xs.length = n) (hx : Ints w w.heap.size A xs) (hd : dropsB xs = true) :
    Calls Try.prog 22 #[.slice A n c] w fun e w' => e = .returned (.tuple #[.int .i64 (sumI xs), .int .i64 0]) ∧ Below w.heap.size w w' := by
  have hq := drops_wide hd
  have h64 : n ≤ 64 := by omega
  have HX := Lib.hid hx
  have HN := Lib.hid hn
  have HD := Lib.hid hd
  have HQ := Lib.hid hq.2
  clear hx hn hd hq
  go_enter Try.func22, Try.ntmps22
  go_wp2_with (first | (go_at_call 65; refine (loopOk_any _ _ xs _ _ HN.out (by omega) HX.out).mono ?_; rw [HD.out]; rintro e w2 ⟨rfl, hb2⟩) | (go_at_call 66; refine (sumOf_any _ _ xs _ _ HN.out h64 ((HX.out.below hb2).more hb2.size) HQ.out).mono ?_; rintro e w3 ⟨rfl, rfl⟩))
  go_ret2
  exact ⟨rfl, by ((repeat (first | with_reducible exact Below.refl _ _ | with_reducible apply below_drewN | with_reducible apply Below.drew | (with_reducible refine Below.alloc ?_ ?_ _) | (with_reducible refine Below.setCell ?_ ?_ _) | (with_reducible refine Below.trans ?_ (hb4.mono ?_)) | (with_reducible refine Below.trans ?_ (hb3.mono ?_)) | (with_reducible refine Below.trans ?_ (hb2.mono ?_)))); all_goals (first | (simp <;> omega) | (have h2s := hb2.size; (try simp at h2s); (try simp); omega) | (have h2s := hb2.size; have h3s := hb3.size; (try simp at h2s); (try simp at h3s); (try simp); omega) | (have h2s := hb2.size; have h3s := hb3.size; have h4s := hb4.size; (try simp at h2s); (try simp at h3s); (try simp at h4s); (try simp); omega)))⟩
theorem loopErrP_no (A : Option Addr) (c : Nat) (xs : List Int) (n : Nat) (w : World) (hn : xs.length = n) (h40 : n ≤ 1048576) (hx : Ints w w.heap.size A xs) (hd : dropsB xs = false) :
    Calls Try.prog 22 #[.slice A n c] w fun e w' => e = .returned (.tuple #[.int .i64 0, .int .i64 2]) ∧ Below w.heap.size w w' := by
  have HX := Lib.hid hx
  have HN := Lib.hid hn
  have HD := Lib.hid hd
  clear hx hn hd
  go_enter Try.func22, Try.ntmps22
  go_wp2_with (first | (go_at_call 65; refine (loopOk_any _ _ xs _ _ HN.out (by omega) HX.out).mono ?_; rw [HD.out]; rintro e w2 ⟨rfl, hb2⟩))
  go_ret2
  exact ⟨rfl, by ((repeat (first | with_reducible exact Below.refl _ _ | with_reducible apply below_drewN | with_reducible apply Below.drew | (with_reducible refine Below.alloc ?_ ?_ _) | (with_reducible refine Below.setCell ?_ ?_ _) | (with_reducible refine Below.trans ?_ (hb4.mono ?_)) | (with_reducible refine Below.trans ?_ (hb3.mono ?_)) | (with_reducible refine Below.trans ?_ (hb2.mono ?_)))); all_goals (first | (simp <;> omega) | (have h2s := hb2.size; (try simp at h2s); (try simp); omega) | (have h2s := hb2.size; have h3s := hb3.size; (try simp at h2s); (try simp at h3s); (try simp); omega) | (have h2s := hb2.size; have h3s := hb3.size; have h4s := hb4.size; (try simp at h2s); (try simp at h3s); (try simp at h4s); (try simp); omega)))⟩
theorem loopErrS_yes (A : Option Addr) (c : Nat) (xs : List Int) (n : Nat) (w : World) (hn : xs.length = n) (hx : Ints w w.heap.size A xs) (hd : dropsB xs = true) :
    Calls Try.prog 20 #[.slice A n c] w fun e w' => e = .returned (.tuple #[.int .i64 (sumI xs), .int .i64 0]) ∧ w = w' := by
  have hq := drops_wide hd
  have h64 : n ≤ 64 := by omega
  have HX := Lib.hid hx
  have HN := Lib.hid hn
  have HD := Lib.hid hd
  have HQ := Lib.hid hq.2
  clear hx hn hd hq
  go_enter Try.func20, Try.ntmps20
  go_wp2_with (first | (go_at_call 63; refine (l05Drops_any _ _ xs _ _ HN.out (by omega) HX.out).mono ?_; rw [HD.out]; rintro e w2 ⟨rfl, rfl⟩) | (go_at_call 64; refine (l05Sum_any _ _ xs _ _ HN.out h64 HX.out HQ.out).mono ?_; rintro e w3 ⟨rfl, rfl⟩))
  go_ret2
  exact ⟨rfl, rfl⟩
theorem loopErrS_no (A : Option Addr) (c : Nat) (xs : List Int) (n : Nat) (w : World) (hn : xs.length = n) (h40 : n ≤ 1048576) (hx : Ints w w.heap.size A xs) (hd : dropsB xs = false) :
    Calls Try.prog 20 #[.slice A n c] w fun e w' => e = .returned (.tuple #[.int .i64 0, .int .i64 2]) ∧ w = w' := by
  have HX := Lib.hid hx
  have HN := Lib.hid hn
  have HD := Lib.hid hd
  clear hx hn hd
  go_enter Try.func20, Try.ntmps20
  go_wp2_with (first | (go_at_call 63; refine (l05Drops_any _ _ xs _ _ HN.out (by omega) HX.out).mono ?_; rw [HD.out]; rintro e w2 ⟨rfl, rfl⟩))
  go_ret2
  exact ⟨rfl, rfl⟩

theorem law_LoopError (A : Option Addr) (n c : Nat) (xs : List Int) (hn : xs.length = n) (hm : n ≤ maxLen) (hw : ∀ z ∈ xs, -9223372036854775808 ≤ z ∧ z ≤ 9223372036854775807) (w : World) (hx : Ints w w.heap.size A xs) :
    Calls Try.prog 5 #[.slice A n c] w fun e w' => e = .returned (.bool true) ∧ Below w.heap.size w w' := by
  unfold maxLen at hm
  have HX := Lib.hid hx
  have HN := Lib.hid hn
  clear hx hn hw
  by_cases h20 : 1048576 < n
  · go_enter Try.func5, Try.ntmps5
    go_wp2_with fail
    go_ret
    exact ⟨rfl, by ((repeat (first | with_reducible exact Below.refl _ _ | with_reducible apply below_drewN | with_reducible apply Below.drew | (with_reducible refine Below.alloc ?_ ?_ _) | (with_reducible refine Below.setCell ?_ ?_ _) | (with_reducible refine Below.trans ?_ (hb4.mono ?_)) | (with_reducible refine Below.trans ?_ (hb3.mono ?_)) | (with_reducible refine Below.trans ?_ (hb2.mono ?_)))); all_goals (first | (simp <;> omega) | (have h2s := hb2.size; (try simp at h2s); (try simp); omega) | (have h2s := hb2.size; have h3s := hb3.size; (try simp at h2s); (try simp at h3s); (try simp); omega) | (have h2s := hb2.size; have h3s := hb3.size; have h4s := hb4.size; (try simp at h2s); (try simp at h3s); (try simp at h4s); (try simp); omega)))⟩
  · have h20 : n ≤ 1048576 := by omega
    by_cases hd : dropsB xs = true
    · have HD := Lib.hid hd
      clear hd
      go_enter Try.func5, Try.ntmps5
      go_wp2_with fail
      refine (toI_any _ _ xs _ _ HN.out h20 HX.out).mono ?_; rintro e w1 ⟨g1, rfl, i1, b1, _, _⟩
      go_wp2_with fail
      refine (loopErrS_yes _ _ xs _ _ HN.out i1 HD.out).mono ?_; rintro e w2 ⟨rfl, rfl⟩
      go_wp2_with fail
      refine (toI_any _ _ xs _ _ HN.out h20 (HX.out.next b1)).mono ?_; rintro e w3 ⟨g3, rfl, i3, b3, _, _⟩
      go_wp2_with fail
      refine (loopErrP_yes _ _ xs _ _ HN.out i3 HD.out).mono ?_; rintro e w4 ⟨rfl, b4⟩
      go_wp2_with fail
      refine (toI_any _ _ xs _ _ HN.out h20 (((HX.out.next b1).next b3).next b4)).mono ?_; rintro e w5 ⟨g5, rfl, i5, b5, _, _⟩
      go_wp2_with fail
      refine (eqI_same _ _ _ _ xs _ _ HN.out (by omega) ((i3.next b4).next b5) i5).mono ?_; rintro e w6 ⟨rfl, b6⟩
      go_wp2_with fail
      go_ret
      exact ⟨rfl, stepB (stepB (stepB (stepB b1 b3) b4) b5) b6⟩
    · have HD := Lib.hid (by simpa using hd : dropsB xs = false)
      clear hd
      go_enter Try.func5, Try.ntmps5
      go_wp2_with fail
      refine (toI_any _ _ xs _ _ HN.out h20 HX.out).mono ?_; rintro e w1 ⟨g1, rfl, i1, b1, _, _⟩
      go_wp2_with fail
      refine (loopErrS_no _ _ xs _ _ HN.out h20 i1 HD.out).mono ?_; rintro e w2 ⟨rfl, rfl⟩
      go_wp2_with fail
      refine (toI_any _ _ xs _ _ HN.out h20 (HX.out.next b1)).mono ?_; rintro e w3 ⟨g3, rfl, i3, b3, _, _⟩
      go_wp2_with fail
      refine (loopErrP_no _ _ xs _ _ HN.out h20 i3 HD.out).mono ?_; rintro e w4 ⟨rfl, b4⟩
      go_wp2_with fail
      refine (toI_any _ _ xs _ _ HN.out h20 (((HX.out.next b1).next b3).next b4)).mono ?_; rintro e w5 ⟨g5, rfl, i5, b5, _, _⟩
      go_wp2_with fail
      refine (eqI_same _ _ _ _ xs _ _ HN.out (by omega) ((i3.next b4).next b5) i5).mono ?_; rintro e w6 ⟨rfl, b6⟩
      go_wp2_with fail
      go_ret
      exact ⟨rfl, stepB (stepB (stepB (stepB b1 b3) b4) b5) b6⟩

/-! ### the row of FnExactLoopError: the arguments are opened, the walk is met, each argument reads behind the call as before -/
namespace fnExactLoopError
open Go.ChangeShapes Go.WideShapes Go.ChangeAt Go.RowKit Go.Joins
open Go.ChangeMaps (open_string shut_string)
set_option linter.unusedVariables false
set_option maxRecDepth 100000 in
theorem lifted (os : Os) (started : os.Started) (H : Type) (enc : TypeId × Value → H) :
    ReturnsInHanded {} Try.checked os 5 .any (Rows.fnExactLoopErrorSpec.pre6 enc Try.prog Try.f5 Rows.fnExactLoopErrorRow.domain false) (Rows.fnExactLoopErrorSpec.post enc Try.prog Try.f5 false true false false) := by
  refine returnsInHanded_of_change (C := Try.checked) own started (by kernel_rfl) Try.func5
    (ChangeSpec.witness6 (enc := enc) (C := Try.checked) false ⟨#[], #[.slice none 0 0], []⟩ 8 (by kernel_rfl) (by kernel_rfl) (by kernel_rfl) (by kernel_rfl)) ?_
  intro W base args ds gs before hval0 hW hcnd _
  have hval : ∀ (j : Nat) t v, Try.f5.params[j]? = some t → args[j]? = some v → Value.okWide Try.prog W .any base t v := hval0
  have hW' := hW
  obtain ⟨p, q, hA0, hV, rfl, hfz, hnd⟩ := hW
  have hA : DataW.TrodAll enc Try.prog W 0 (fun _ => true) true Try.f5.params.toList args.toList ds p := hA0
  rw [Try.params5] at hA hval
  obtain ⟨v0, vs0, d0, ds0, p0, q0, hargs, rfl, rfl, h0, r0⟩ := trodAll_cons hA
  obtain ⟨rfl, rfl, rfl⟩ := trodAll_nil r0
  obtain rfl : args = #[v0] := by cases args; simp_all
  obtain ⟨rfl, rfl⟩ := trodVars_none hV
  clear hA0 hval0
  simp only [List.append_nil] at hW'
  have lt0 : ∀ x ∈ p0, x.block < W.heap.size := fun x hx => by simpa using hW'.lt x (by simp [hx])
  have k0 := h0
  obtain ⟨A0, len0, cap0, rfl⟩ := okWide_slice Try.underlying31 (hval 0 31 v0 rfl rfl)
  obtain ⟨xs0, hn0, hm0, hw0, hx0⟩ := view_ints Try.underlying31 Try.underlying2 (by kernel_rfl) h0
  refine (law_LoopError A0 len0 cap0 xs0 hn0 hm0 hw0 W hx0).mono fun e W' ⟨he, hb⟩ => ?_
  subst he
  exact ⟨_, rfl, _, _, _, _, _, [], hW', (trodAll_cons_mk (shut_bool Try.underlying4 _) trodAll_mk0), (trodAll_cons_mk (Below.trod laidOut (by kernel_rfl) (of_decide_eq_true (by kernel_rfl)) k0 hb lt0) trodAll_mk0), rfl, hb.frame _, fun h => by cases h⟩

theorem proved : Rows.FnExactLoopErrorSaid :=
  OpenClaim.holds_of_wide 5 Try.f5 rfl rfl rfl rfl rfl rfl rfl ⟨rfl, rfl, rfl, rfl, rfl⟩ rfl rfl rfl rfl rfl (by kernel_rfl) Try.func5 (by kernel_rfl)
    (of_decide_eq_true (by kernel_rfl)) (by unfold Func.isWrapper; first | (rw [if_pos (by decide +kernel)]; kernel_rfl) | (rw [if_neg (by decide +kernel)]; exact ⟨rfl, rfl⟩))
    (fun os started H enc _ => lifted os started H enc)
#print axioms proved
end fnExactLoopError
end Go.Proofs.Ytjpmbjhkolgiiaa
