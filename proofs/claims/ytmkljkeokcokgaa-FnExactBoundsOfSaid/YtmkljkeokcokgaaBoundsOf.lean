/-
  FnExactBoundsOf: for all arguments the program's BoundsOf says what the reference's says.
-/
import Derived.Test.YtmkljkeokcokgaaSurvey2
import Derived.Test.YtmkljkeokcokgaaToSurvey
import Derived.Test.YtmkljkeokcokgaaAgg
import Derived.Test.YtmkljkeokcokgaaNum
import Derived.RowKit3
import Derived.ProofKit
import Derived.OpenShut
import Derived.Lib.SmallJoins
namespace Go.Proofs.Ytmkljkeokcokgaa
open Go.RowKit
set_option linter.unusedVariables false

theorem specBT (a : ByteArray) (ha : a.size ≤ maxLen) (d de f fe : Int) (w : World) (hv : survB a d de f fe = true) :
    Calls Try.prog 27 #[.agg #[.string a, .int .i64 d, .int .i64 de, .int .i64 f, .int .i64 fe]] w fun e w' => e = .returned (.tuple #[.int .i64 (lowF d de f fe), .int .i64 (highF d de f fe), .int .i64 0]) ∧ ∃ (c : Array Value) (t : TypeId) (q : Nat), w' = (w.alloc (.cells c t)).drewN q := by
  have hs := Lib.hid hv
  go_enter Try.func27, Try.ntmps27
  go_wp2_with (first | (go_at_call 59; refine (bounds_any _ _ _ _ _ _ hs.out).mono ?_; rintro e w' ⟨rfl, o6, u6, q6, rfl⟩) | (go_at_call 58; refine (l05Bounds_any _ a d de f fe _ hs.out (by simp [go_sem]) (by simp [go_sem]) (by simp [go_sem]) (by simp [go_sem])).mono ?_; rintro e w' ⟨rfl, q7, rfl⟩) | (go_at_call 62; refine (asResistance_any _ _).mono ?_; rintro e w' ⟨rfl, rfl⟩) | (go_at_call 61; refine (l00Max_any _ _ _).mono ?_; rintro e w' ⟨rfl, rfl⟩) | (go_at_call 60; refine (l00Min_any _ _ _).mono ?_; rintro e w' ⟨rfl, rfl⟩) | (go_at_call 50; refine (l00In_any _ _ _ _).mono ?_; rintro e w' ⟨rfl, rfl⟩) | (go_at_call 52; refine (within_any _ _ _ _).mono ?_; rintro e w' ⟨rfl, rfl⟩) | (first | (go_at_call 25; refine (toSurvey_any _ _ _ _ _ _).mono ?_; rintro e w' ⟨rfl, o1, o2, o3, u1, u2, u3, rfl⟩) | (go_at_call 26; refine (validSurvey_any _ _ _ _ _ ha _).mono ?_; rintro e w' ⟨rfl, o4, u4, rfl⟩) | (go_at_call 56; refine (l05One_any _ a d de f fe ha _ (by simp [go_sem]) (by simp [go_sem]) (by simp [go_sem]) (by simp [go_sem]) (by simp [go_sem])).mono ?_; rintro e w' ⟨rfl, q5, rfl⟩) | go_in))
  go_ret3
  exact ⟨rfl, _, _, _, rfl⟩
theorem specBF (a : ByteArray) (ha : a.size ≤ maxLen) (d de f fe : Int) (w : World) (hv : survB a d de f fe = false) :
    Calls Try.prog 27 #[.agg #[.string a, .int .i64 d, .int .i64 de, .int .i64 f, .int .i64 fe]] w fun e w' => e = .returned (.tuple #[.int .i64 0, .int .i64 0, .int .i64 1]) ∧ ∃ (c : Array Value) (t : TypeId) (q : Nat), w' = (w.alloc (.cells c t)).drewN q := by
  have hs := Lib.hid hv
  go_enter Try.func27, Try.ntmps27
  go_wp2_with (first | (go_at_call 25; refine (toSurvey_any _ _ _ _ _ _).mono ?_; rintro e w' ⟨rfl, o1, o2, o3, u1, u2, u3, rfl⟩) | (go_at_call 26; refine (validSurvey_any _ _ _ _ _ ha _).mono ?_; rintro e w' ⟨rfl, o4, u4, rfl⟩) | (go_at_call 56; refine (l05One_any _ a d de f fe ha _ (by simp [go_sem]) (by simp [go_sem]) (by simp [go_sem]) (by simp [go_sem]) (by simp [go_sem])).mono ?_; rintro e w' ⟨rfl, q5, rfl⟩) | go_in)
  go_ret3
  exact ⟨rfl, _, _, _, rfl⟩
theorem implBT (a : ByteArray) (ha : a.size ≤ maxLen) (d de f fe : Int) (w : World) (hv : survB a d de f fe = true) :
    Calls Try.prog 28 #[.agg #[.string a, .int .i64 d, .int .i64 de, .int .i64 f, .int .i64 fe]] w fun e w' => e = .returned (.tuple #[.int .i64 (lowF d de f fe), .int .i64 (highF d de f fe), .int .i64 0]) ∧ Below w.heap.size w w' := by
  have hs := Lib.hid hv
  go_enter Try.func28, Try.ntmps28
  go_wp2_with (first | (go_at_call 59; refine (bounds_any _ _ _ _ _ _ hs.out).mono ?_; rintro e w' ⟨rfl, o6, u6, q6, rfl⟩) | (go_at_call 58; refine (l05Bounds_any _ a d de f fe _ hs.out (by simp [go_sem]) (by simp [go_sem]) (by simp [go_sem]) (by simp [go_sem])).mono ?_; rintro e w' ⟨rfl, q7, rfl⟩) | (go_at_call 62; refine (asResistance_any _ _).mono ?_; rintro e w' ⟨rfl, rfl⟩) | (go_at_call 61; refine (l00Max_any _ _ _).mono ?_; rintro e w' ⟨rfl, rfl⟩) | (go_at_call 60; refine (l00Min_any _ _ _).mono ?_; rintro e w' ⟨rfl, rfl⟩) | (go_at_call 50; refine (l00In_any _ _ _ _).mono ?_; rintro e w' ⟨rfl, rfl⟩) | (go_at_call 52; refine (within_any _ _ _ _).mono ?_; rintro e w' ⟨rfl, rfl⟩) | (first | (go_at_call 25; refine (toSurvey_any _ _ _ _ _ _).mono ?_; rintro e w' ⟨rfl, o1, o2, o3, u1, u2, u3, rfl⟩) | (go_at_call 26; refine (validSurvey_any _ _ _ _ _ ha _).mono ?_; rintro e w' ⟨rfl, o4, u4, rfl⟩) | (go_at_call 56; refine (l05One_any _ a d de f fe ha _ (by simp [go_sem]) (by simp [go_sem]) (by simp [go_sem]) (by simp [go_sem]) (by simp [go_sem])).mono ?_; rintro e w' ⟨rfl, q5, rfl⟩) | go_in))
  go_ret3
  exact ⟨rfl, by repeat (first | exact Below.refl _ _ | apply below_drewN | apply Below.drew | (refine Below.alloc ?_ (by simp <;> omega) _) | (refine Below.setCell ?_ (by simp <;> omega) _))⟩
theorem implBF (a : ByteArray) (ha : a.size ≤ maxLen) (d de f fe : Int) (w : World) (hv : survB a d de f fe = false) :
    Calls Try.prog 28 #[.agg #[.string a, .int .i64 d, .int .i64 de, .int .i64 f, .int .i64 fe]] w fun e w' => e = .returned (.tuple #[.int .i64 0, .int .i64 0, .int .i64 1]) ∧ Below w.heap.size w w' := by
  have hs := Lib.hid hv
  go_enter Try.func28, Try.ntmps28
  go_wp2_with (first | (go_at_call 25; refine (toSurvey_any _ _ _ _ _ _).mono ?_; rintro e w' ⟨rfl, o1, o2, o3, u1, u2, u3, rfl⟩) | (go_at_call 26; refine (validSurvey_any _ _ _ _ _ ha _).mono ?_; rintro e w' ⟨rfl, o4, u4, rfl⟩) | (go_at_call 56; refine (l05One_any _ a d de f fe ha _ (by simp [go_sem]) (by simp [go_sem]) (by simp [go_sem]) (by simp [go_sem]) (by simp [go_sem])).mono ?_; rintro e w' ⟨rfl, q5, rfl⟩) | go_in)
  go_ret3
  exact ⟨rfl, by repeat (first | exact Below.refl _ _ | apply below_drewN | apply Below.drew | (refine Below.alloc ?_ (by simp <;> omega) _) | (refine Below.setCell ?_ (by simp <;> omega) _))⟩

theorem law_BoundsOf (a : ByteArray) (ha : a.size ≤ maxLen) (d : Int) (_ : -9223372036854775808 ≤ d ∧ d ≤ 9223372036854775807) (de : Int) (_ : -9223372036854775808 ≤ de ∧ de ≤ 9223372036854775807) (f : Int) (_ : -9223372036854775808 ≤ f ∧ f ≤ 9223372036854775807) (fe : Int) (_ : -9223372036854775808 ≤ fe ∧ fe ≤ 9223372036854775807) (w : World) :
    Calls Try.prog 8 #[.agg #[.string a, .int .i64 d, .int .i64 de, .int .i64 f, .int .i64 fe]] w fun e w' => e = .returned (.bool true) ∧ Below w.heap.size w w' := by
  have ha' := ha
  unfold maxLen at ha'
  by_cases h : 1048576 < a.size
  · go_enter Try.func8, Try.ntmps8
    go_wp2
    go_ret
    exact ⟨rfl, by repeat (first | exact Below.refl _ _ | apply below_drewN | apply Below.drew | (refine Below.alloc ?_ (by simp <;> omega) _) | (refine Below.setCell ?_ (by simp <;> omega) _))⟩
  · by_cases hv : survB a d de f fe = true
    · have hs := Lib.hid hv
      go_enter Try.func8, Try.ntmps8
      go_wp2_with (first | (go_at_call 25; refine (toSurvey_any _ _ _ _ _ _).mono ?_; rintro e w' ⟨rfl, o1, o2, o3, u1, u2, u3, rfl⟩) | (go_at_call 27; refine (specBT _ ha _ _ _ _ _ hs.out).mono ?_; rintro e w1 ⟨rfl, o9, u9, q9, rfl⟩) | (go_at_call 28; refine (implBT _ ha _ _ _ _ _ hs.out).mono ?_; rintro e w2 ⟨rfl, hb2⟩) | go_in)
      go_ret
      exact ⟨rfl, Below.trans (by repeat (first | exact Below.refl _ _ | apply below_drewN | apply Below.drew | (refine Below.alloc ?_ (by simp <;> omega) _) | (refine Below.setCell ?_ (by simp <;> omega) _))) (hb2.mono (by simp <;> omega))⟩
    · simp only [Bool.not_eq_true] at hv
      have hs := Lib.hid hv
      go_enter Try.func8, Try.ntmps8
      go_wp2_with (first | (go_at_call 25; refine (toSurvey_any _ _ _ _ _ _).mono ?_; rintro e w' ⟨rfl, o1, o2, o3, u1, u2, u3, rfl⟩) | (go_at_call 27; refine (specBF _ ha _ _ _ _ _ hs.out).mono ?_; rintro e w1 ⟨rfl, o9, u9, q9, rfl⟩) | (go_at_call 28; refine (implBF _ ha _ _ _ _ _ hs.out).mono ?_; rintro e w2 ⟨rfl, hb2⟩) | go_in)
      go_ret
      exact ⟨rfl, Below.trans (by repeat (first | exact Below.refl _ _ | apply below_drewN | apply Below.drew | (refine Below.alloc ?_ (by simp <;> omega) _) | (refine Below.setCell ?_ (by simp <;> omega) _))) (hb2.mono (by simp <;> omega))⟩

/-! ### the row of FnExactBoundsOf: the arguments are opened, the walk is met, each argument reads behind the call as before -/
namespace fnExactBoundsOf
open Go.ChangeShapes Go.WideShapes Go.ChangeAt Go.RowKit Go.Joins
open Go.ChangeMaps (open_string shut_string)
set_option linter.unusedVariables false
set_option maxRecDepth 100000 in
theorem lifted (os : Os) (started : os.Started) (H : Type) (enc : TypeId × Value → H) :
    ReturnsInHanded {} Try.checked os 8 .any (Rows.fnExactBoundsOfSpec.pre6 enc Try.prog Try.f8 Rows.fnExactBoundsOfRow.domain false) (Rows.fnExactBoundsOfSpec.post enc Try.prog Try.f8 false true false false) := by
  refine returnsInHanded_of_change (C := Try.checked) own started (by kernel_rfl) Try.func8
    (ChangeSpec.witness6 (enc := enc) (C := Try.checked) false ⟨#[], #[.agg #[.string ByteArray.empty, .int .i64 0, .int .i64 0, .int .i64 0, .int .i64 0]], []⟩ 8 (by kernel_rfl) (by kernel_rfl) (by kernel_rfl) (by kernel_rfl)) ?_
  intro W base args ds gs before hval0 hW hcnd _
  have hval : ∀ (j : Nat) t v, Try.f8.params[j]? = some t → args[j]? = some v → Value.okWide Try.prog W .any base t v := hval0
  have hW' := hW
  obtain ⟨p, q, hA0, hV, rfl, hfz, hnd⟩ := hW
  have hA : DataW.TrodAll enc Try.prog W 0 (fun _ => true) true Try.f8.params.toList args.toList ds p := hA0
  rw [Try.params8] at hA hval
  obtain ⟨v0, vs0, d0, ds0, p0, q0, hargs, rfl, rfl, h0, r0⟩ := trodAll_cons hA
  obtain ⟨rfl, rfl, rfl⟩ := trodAll_nil r0
  obtain rfl : args = #[v0] := by cases args; simp_all
  obtain ⟨rfl, rfl⟩ := trodVars_none hV
  clear hA0 hval0
  simp only [List.append_nil] at hW'
  have lt0 : ∀ x ∈ p0, x.block < W.heap.size := fun x hx => by simpa using hW'.lt x (by simp [hx])
  have k0 := h0
  obtain ⟨c0_0, c0_1, c0_2, c0_3, c0_4, y0_0, y0_1, y0_2, y0_3, y0_4, m0, rfl, rfl, rfl, hy0_0, hy0_1, hy0_2, hy0_3, hy0_4⟩ := open_agg5 Try.underlying30 (by kernel_rfl) (by kernel_rfl) (hval 0 30 v0 rfl rfl) h0
  obtain ⟨a0_0, e0_0, z0_0, w0_0⟩ := DataW.trod_string Try.underlying9 hy0_0
  simp only [List.cons.injEq, and_true] at e0_0; subst e0_0
  obtain ⟨a0_1, e0_1, z0_1, w0_1⟩ := DataW.trod_int Try.underlying2 hy0_1
  simp only [List.cons.injEq, and_true] at e0_1; subst e0_1
  obtain ⟨a0_2, e0_2, z0_2, w0_2⟩ := DataW.trod_int Try.underlying2 hy0_2
  simp only [List.cons.injEq, and_true] at e0_2; subst e0_2
  obtain ⟨a0_3, e0_3, z0_3, w0_3⟩ := DataW.trod_int Try.underlying2 hy0_3
  simp only [List.cons.injEq, and_true] at e0_3; subst e0_3
  obtain ⟨a0_4, e0_4, z0_4, w0_4⟩ := DataW.trod_int Try.underlying2 hy0_4
  simp only [List.cons.injEq, and_true] at e0_4; subst e0_4
  refine (law_BoundsOf a0_0 w0_0 a0_1 (wf_bd w0_1) a0_2 (wf_bd w0_2) a0_3 (wf_bd w0_3) a0_4 (wf_bd w0_4) W).mono fun e W' ⟨he, hb⟩ => ?_
  subst he
  exact ⟨_, rfl, _, _, _, _, _, [], hW', (trodAll_cons_mk (shut_bool Try.underlying4 _) trodAll_mk0), (trodAll_cons_mk (Below.trod laidOut (by kernel_rfl) (of_decide_eq_true (by kernel_rfl)) k0 hb lt0) trodAll_mk0), rfl, hb.frame _, fun h => by cases h⟩

theorem proved : Rows.FnExactBoundsOfSaid :=
  OpenClaim.holds_of_wide 8 Try.f8 rfl rfl rfl rfl rfl rfl rfl ⟨rfl, rfl, rfl, rfl, rfl⟩ rfl rfl rfl rfl rfl (by kernel_rfl) Try.func8 (by kernel_rfl)
    (of_decide_eq_true (by kernel_rfl)) (by unfold Func.isWrapper; first | (rw [if_pos (by decide +kernel)]; kernel_rfl) | (rw [if_neg (by decide +kernel)]; exact ⟨rfl, rfl⟩))
    (fun os started H enc _ => lifted os started H enc)
#print axioms proved
end fnExactBoundsOf
end Go.Proofs.Ytmkljkeokcokgaa
