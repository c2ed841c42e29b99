/-
  FnExactMiddleOf: for all arguments the program's MiddleOf says what the reference's says.
-/
import Derived.Test.YtmkljkeokcokgaaSurvey2
import Derived.Test.YtmkljkeokcokgaaToSurvey
import Derived.Test.YtmkljkeokcokgaaAgg
import Derived.Test.YtmkljkeokcokgaaNum
import Derived.RowKit3
import Derived.ProofKit
import Derived.OpenShut
import Derived.Lib.SmallJoins
namespace Go.Proofs.Ytmkljkeokcokgaa
open Go.RowKit
set_option linter.unusedVariables false

theorem law_MiddleOf (a : ByteArray) (ha : a.size ≤ maxLen) (d : Int) (_ : -9223372036854775808 ≤ d ∧ d ≤ 9223372036854775807) (de : Int) (_ : -9223372036854775808 ≤ de ∧ de ≤ 9223372036854775807) (f : Int) (_ : -9223372036854775808 ≤ f ∧ f ≤ 9223372036854775807) (fe : Int) (_ : -9223372036854775808 ≤ fe ∧ fe ≤ 9223372036854775807) (w : World) :
    Calls Try.prog 10 #[.agg #[.string a, .int .i64 d, .int .i64 de, .int .i64 f, .int .i64 fe]] w fun e w' => e = .returned (.bool true) ∧ Below w.heap.size w w' := by
  have ha' := ha
  unfold maxLen at ha'
  by_cases h : 1048576 < a.size
  · go_enter Try.func10, Try.ntmps10
    go_wp2
    go_ret
    exact ⟨rfl, by repeat (first | exact Below.refl _ _ | apply below_drewN | apply Below.drew | (refine Below.alloc ?_ (by simp <;> omega) _) | (refine Below.setCell ?_ (by simp <;> omega) _))⟩
  · by_cases hv : survB a d de f fe = true
    · have hs := Lib.hid hv
      obtain ⟨⟨b1, b2⟩, ⟨b3, b4⟩, ⟨b5, b6⟩, b7, b8⟩ := surv_bd hv
      have s1 := sq_bd2 f 100000 (by omega) (by omega)
      go_enter Try.func10, Try.ntmps10
      go_wp2_with (first | (go_at_call 47; refine (l01Div_any _ _ _ (by omega) (by omega) (by omega) (by omega) (by omega)).mono ?_; rintro e w' ⟨rfl, rfl⟩) | (go_at_call 63; refine (divRound_any _ _ _ (by omega) (by omega) (by omega) (by omega) (by omega)).mono ?_; rintro e w' ⟨rfl, nq, rfl⟩) | (first | (go_at_call 59; refine (bounds_any _ _ _ _ _ _ hs.out).mono ?_; rintro e w' ⟨rfl, o6, u6, q6, rfl⟩) | (go_at_call 58; refine (l05Bounds_any _ a d de f fe _ hs.out (by simp [go_sem]) (by simp [go_sem]) (by simp [go_sem]) (by simp [go_sem])).mono ?_; rintro e w' ⟨rfl, q7, rfl⟩) | (go_at_call 62; refine (asResistance_any _ _).mono ?_; rintro e w' ⟨rfl, rfl⟩) | (go_at_call 61; refine (l00Max_any _ _ _).mono ?_; rintro e w' ⟨rfl, rfl⟩) | (go_at_call 60; refine (l00Min_any _ _ _).mono ?_; rintro e w' ⟨rfl, rfl⟩) | (go_at_call 50; refine (l00In_any _ _ _ _).mono ?_; rintro e w' ⟨rfl, rfl⟩) | (go_at_call 52; refine (within_any _ _ _ _).mono ?_; rintro e w' ⟨rfl, rfl⟩) | (first | (go_at_call 25; refine (toSurvey_any _ _ _ _ _ _).mono ?_; rintro e w' ⟨rfl, o1, o2, o3, u1, u2, u3, rfl⟩) | (go_at_call 26; refine (validSurvey_any _ _ _ _ _ ha _).mono ?_; rintro e w' ⟨rfl, o4, u4, rfl⟩) | (go_at_call 56; refine (l05One_any _ a d de f fe ha _ (by simp [go_sem]) (by simp [go_sem]) (by simp [go_sem]) (by simp [go_sem]) (by simp [go_sem])).mono ?_; rintro e w' ⟨rfl, q5, rfl⟩) | go_in)))
      all_goals go_ret
      all_goals exact ⟨rfl, by repeat (first | exact Below.refl _ _ | apply below_drewN | apply Below.drew | (refine Below.alloc ?_ (by simp <;> omega) _) | (refine Below.setCell ?_ (by simp <;> omega) _))⟩
    · simp only [Bool.not_eq_true] at hv
      go_enter Try.func10, Try.ntmps10
      go_wp2_with (first | (go_at_call 25; refine (toSurvey_any _ _ _ _ _ _).mono ?_; rintro e w' ⟨rfl, o1, o2, o3, u1, u2, u3, rfl⟩) | (go_at_call 26; refine (validSurvey_any _ _ _ _ _ ha _).mono ?_; rintro e w' ⟨rfl, o4, u4, rfl⟩) | (go_at_call 56; refine (l05One_any _ a d de f fe ha _ (by simp [go_sem]) (by simp [go_sem]) (by simp [go_sem]) (by simp [go_sem]) (by simp [go_sem])).mono ?_; rintro e w' ⟨rfl, q5, rfl⟩) | go_in)
      all_goals go_ret
      all_goals exact ⟨rfl, by repeat (first | exact Below.refl _ _ | apply below_drewN | apply Below.drew | (refine Below.alloc ?_ (by simp <;> omega) _) | (refine Below.setCell ?_ (by simp <;> omega) _))⟩

/-! ### the row of FnExactMiddleOf: the arguments are opened, the walk is met, each argument reads behind the call as before -/
namespace fnExactMiddleOf
open Go.ChangeShapes Go.WideShapes Go.ChangeAt Go.RowKit Go.Joins
open Go.ChangeMaps (open_string shut_string)
set_option linter.unusedVariables false
set_option maxRecDepth 100000 in
theorem lifted (os : Os) (started : os.Started) (H : Type) (enc : TypeId × Value → H) :
    ReturnsInHanded {} Try.checked os 10 .any (Rows.fnExactMiddleOfSpec.pre6 enc Try.prog Try.f10 Rows.fnExactMiddleOfRow.domain false) (Rows.fnExactMiddleOfSpec.post enc Try.prog Try.f10 false true false false) := by
  refine returnsInHanded_of_change (C := Try.checked) own started (by kernel_rfl) Try.func10
    (ChangeSpec.witness6 (enc := enc) (C := Try.checked) false ⟨#[], #[.agg #[.string ByteArray.empty, .int .i64 0, .int .i64 0, .int .i64 0, .int .i64 0]], []⟩ 8 (by kernel_rfl) (by kernel_rfl) (by kernel_rfl) (by kernel_rfl)) ?_
  intro W base args ds gs before hval0 hW hcnd _
  have hval : ∀ (j : Nat) t v, Try.f10.params[j]? = some t → args[j]? = some v → Value.okWide Try.prog W .any base t v := hval0
  have hW' := hW
  obtain ⟨p, q, hA0, hV, rfl, hfz, hnd⟩ := hW
  have hA : DataW.TrodAll enc Try.prog W 0 (fun _ => true) true Try.f10.params.toList args.toList ds p := hA0
  rw [Try.params10] at hA hval
  obtain ⟨v0, vs0, d0, ds0, p0, q0, hargs, rfl, rfl, h0, r0⟩ := trodAll_cons hA
  obtain ⟨rfl, rfl, rfl⟩ := trodAll_nil r0
  obtain rfl : args = #[v0] := by cases args; simp_all
  obtain ⟨rfl, rfl⟩ := trodVars_none hV
  clear hA0 hval0
  simp only [List.append_nil] at hW'
  have lt0 : ∀ x ∈ p0, x.block < W.heap.size := fun x hx => by simpa using hW'.lt x (by simp [hx])
  have k0 := h0
  obtain ⟨c0_0, c0_1, c0_2, c0_3, c0_4, y0_0, y0_1, y0_2, y0_3, y0_4, m0, rfl, rfl, rfl, hy0_0, hy0_1, hy0_2, hy0_3, hy0_4⟩ := open_agg5 Try.underlying30 (by kernel_rfl) (by kernel_rfl) (hval 0 30 v0 rfl rfl) h0
  obtain ⟨a0_0, e0_0, z0_0, w0_0⟩ := DataW.trod_string Try.underlying9 hy0_0
  simp only [List.cons.injEq, and_true] at e0_0; subst e0_0
  obtain ⟨a0_1, e0_1, z0_1, w0_1⟩ := DataW.trod_int Try.underlying2 hy0_1
  simp only [List.cons.injEq, and_true] at e0_1; subst e0_1
  obtain ⟨a0_2, e0_2, z0_2, w0_2⟩ := DataW.trod_int Try.underlying2 hy0_2
  simp only [List.cons.injEq, and_true] at e0_2; subst e0_2
  obtain ⟨a0_3, e0_3, z0_3, w0_3⟩ := DataW.trod_int Try.underlying2 hy0_3
  simp only [List.cons.injEq, and_true] at e0_3; subst e0_3
  obtain ⟨a0_4, e0_4, z0_4, w0_4⟩ := DataW.trod_int Try.underlying2 hy0_4
  simp only [List.cons.injEq, and_true] at e0_4; subst e0_4
  refine (law_MiddleOf a0_0 w0_0 a0_1 (wf_bd w0_1) a0_2 (wf_bd w0_2) a0_3 (wf_bd w0_3) a0_4 (wf_bd w0_4) W).mono fun e W' ⟨he, hb⟩ => ?_
  subst he
  exact ⟨_, rfl, _, _, _, _, _, [], hW', (trodAll_cons_mk (shut_bool Try.underlying4 _) trodAll_mk0), (trodAll_cons_mk (Below.trod laidOut (by kernel_rfl) (of_decide_eq_true (by kernel_rfl)) k0 hb lt0) trodAll_mk0), rfl, hb.frame _, fun h => by cases h⟩

theorem proved : Rows.FnExactMiddleOfSaid :=
  OpenClaim.holds_of_wide 10 Try.f10 rfl rfl rfl rfl rfl rfl rfl ⟨rfl, rfl, rfl, rfl, rfl⟩ rfl rfl rfl rfl rfl (by kernel_rfl) Try.func10 (by kernel_rfl)
    (of_decide_eq_true (by kernel_rfl)) (by unfold Func.isWrapper; first | (rw [if_pos (by decide +kernel)]; kernel_rfl) | (rw [if_neg (by decide +kernel)]; exact ⟨rfl, rfl⟩))
    (fun os started H enc _ => lifted os started H enc)
#print axioms proved
end fnExactMiddleOf
end Go.Proofs.Ytmkljkeokcokgaa
