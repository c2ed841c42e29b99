/-
  FnExactHumidityFor: for all arguments the program's HumidityFor returns what the reference's returns.
-/
import Derived.Test.YtmkljkeokcokgaaVap
import Derived.Test.YtmkljkeokcokgaaNum
import Derived.RowKit3
import Derived.ProofKit
import Derived.OpenShut
import Derived.Lib.SmallJoins
namespace Go.Proofs.Ytmkljkeokcokgaa
open Go.RowKit
set_option linter.unusedVariables false

theorem hum_bd (d e p : Int) (h1 : -100 ≤ d) (h2 : d ≤ 600) (h3 : -100 ≤ e) (h4 : e ≤ 600) (h5 : 50000 ≤ p) (h6 : p ≤ 150000) :
    (-100000000000 ≤ 665 * p * (d - e) ∧ 665 * p * (d - e) ≤ 100000000000) ∧ -20000 ≤ dr (665 * p * (d - e)) 10000000 ∧ dr (665 * p * (d - e)) 10000000 ≤ 20000 := by
  have hp := prod_bd (d - e) (665 * p) 700 99750000 (by omega) (by omega) (by omega) (by omega)
  rw [Int.mul_comm (d - e)] at hp
  have hp' : -100000000000 ≤ 665 * p * (d - e) ∧ 665 * p * (d - e) ≤ 100000000000 := by
    revert hp; generalize 665 * p * (d - e) = P; intro hp; omega
  have hd := of_absI (dr_le (665 * p * (d - e)) 10000000 10000 (by omega) (by omega) (absI_le hp'.1 hp'.2))
  exact ⟨hp', by omega, by omega⟩

theorem law_FnExactHumidityFor (d : Int) (_ : -9223372036854775808 ≤ d ∧ d ≤ 9223372036854775807) (e : Int) (_ : -9223372036854775808 ≤ e ∧ e ≤ 9223372036854775807) (p : Int) (_ : -9223372036854775808 ≤ p ∧ p ≤ 9223372036854775807) (w : World) :
    Calls Try.prog 14 #[.int .i64 d, .int .i64 e, .int .i64 p] w fun e w' => e = .returned (.bool true) ∧ Below w.heap.size w w' := by
  by_cases g0 : inB d (-100) 600 = true
  · have b0 := inB_true.1 g0
    by_cases g1 : inB e (-100) 600 = true
    · have b1 := inB_true.1 g1
      by_cases g2 : inB p 50000 150000 = true
      · have b2 := inB_true.1 g2
        have hh := hum_bd d e p (by omega) (by omega) (by omega) (by omega) (by omega) (by omega)
        have hs := sat_bd d (by omega) (by omega)
        have ht := sat_bd e (by omega) (by omega)
        go_enter Try.func14, Try.ntmps14
        go_wp2_with (first | (go_at_call 71; refine (satP_any _ _ (by omega) (by omega)).mono ?_; rintro e w' ⟨rfl, o1, u1, q1, rfl⟩) | (go_at_call 70; refine (satS_any _ _ (by omega) (by omega)).mono ?_; rintro e w' ⟨rfl, o2, u2, q2, rfl⟩) | (first | (go_at_call 50; refine (l00In_any _ _ _ _).mono ?_; rintro e w' ⟨rfl, rfl⟩) | (go_at_call 52; refine (within_any _ _ _ _).mono ?_; rintro e w' ⟨rfl, rfl⟩) | (go_at_call 47; refine (l01Div_any _ _ _ (by omega) (by omega) (by omega) (by omega) (by omega)).mono ?_; rintro e w' ⟨rfl, rfl⟩) | (go_at_call 63; refine (divRound_any _ _ _ (by omega) (by omega) (by omega) (by omega) (by omega)).mono ?_; rintro e w' ⟨rfl, nq, rfl⟩) | go_in))
        all_goals go_ret
        all_goals exact ⟨rfl, by repeat (first | exact Below.refl _ _ | apply below_drewN | apply Below.drew | (refine Below.alloc ?_ (by simp <;> omega) _) | (refine Below.setCell ?_ (by simp <;> omega) _))⟩
      · simp only [Bool.not_eq_true] at g2
        go_enter Try.func14, Try.ntmps14
        go_wp2_with (first | (go_at_call 71; refine (satP_any _ _ (by omega) (by omega)).mono ?_; rintro e w' ⟨rfl, o1, u1, q1, rfl⟩) | (go_at_call 70; refine (satS_any _ _ (by omega) (by omega)).mono ?_; rintro e w' ⟨rfl, o2, u2, q2, rfl⟩) | (first | (go_at_call 50; refine (l00In_any _ _ _ _).mono ?_; rintro e w' ⟨rfl, rfl⟩) | (go_at_call 52; refine (within_any _ _ _ _).mono ?_; rintro e w' ⟨rfl, rfl⟩) | (go_at_call 47; refine (l01Div_any _ _ _ (by omega) (by omega) (by omega) (by omega) (by omega)).mono ?_; rintro e w' ⟨rfl, rfl⟩) | (go_at_call 63; refine (divRound_any _ _ _ (by omega) (by omega) (by omega) (by omega) (by omega)).mono ?_; rintro e w' ⟨rfl, nq, rfl⟩) | go_in))
        all_goals go_ret
        all_goals exact ⟨rfl, by repeat (first | exact Below.refl _ _ | apply below_drewN | apply Below.drew | (refine Below.alloc ?_ (by simp <;> omega) _) | (refine Below.setCell ?_ (by simp <;> omega) _))⟩
    · simp only [Bool.not_eq_true] at g1
      go_enter Try.func14, Try.ntmps14
      go_wp2_with (first | (go_at_call 71; refine (satP_any _ _ (by omega) (by omega)).mono ?_; rintro e w' ⟨rfl, o1, u1, q1, rfl⟩) | (go_at_call 70; refine (satS_any _ _ (by omega) (by omega)).mono ?_; rintro e w' ⟨rfl, o2, u2, q2, rfl⟩) | (first | (go_at_call 50; refine (l00In_any _ _ _ _).mono ?_; rintro e w' ⟨rfl, rfl⟩) | (go_at_call 52; refine (within_any _ _ _ _).mono ?_; rintro e w' ⟨rfl, rfl⟩) | (go_at_call 47; refine (l01Div_any _ _ _ (by omega) (by omega) (by omega) (by omega) (by omega)).mono ?_; rintro e w' ⟨rfl, rfl⟩) | (go_at_call 63; refine (divRound_any _ _ _ (by omega) (by omega) (by omega) (by omega) (by omega)).mono ?_; rintro e w' ⟨rfl, nq, rfl⟩) | go_in))
      all_goals go_ret
      all_goals exact ⟨rfl, by repeat (first | exact Below.refl _ _ | apply below_drewN | apply Below.drew | (refine Below.alloc ?_ (by simp <;> omega) _) | (refine Below.setCell ?_ (by simp <;> omega) _))⟩
  · simp only [Bool.not_eq_true] at g0
    go_enter Try.func14, Try.ntmps14
    go_wp2_with (first | (go_at_call 71; refine (satP_any _ _ (by omega) (by omega)).mono ?_; rintro e w' ⟨rfl, o1, u1, q1, rfl⟩) | (go_at_call 70; refine (satS_any _ _ (by omega) (by omega)).mono ?_; rintro e w' ⟨rfl, o2, u2, q2, rfl⟩) | (first | (go_at_call 50; refine (l00In_any _ _ _ _).mono ?_; rintro e w' ⟨rfl, rfl⟩) | (go_at_call 52; refine (within_any _ _ _ _).mono ?_; rintro e w' ⟨rfl, rfl⟩) | (go_at_call 47; refine (l01Div_any _ _ _ (by omega) (by omega) (by omega) (by omega) (by omega)).mono ?_; rintro e w' ⟨rfl, rfl⟩) | (go_at_call 63; refine (divRound_any _ _ _ (by omega) (by omega) (by omega) (by omega) (by omega)).mono ?_; rintro e w' ⟨rfl, nq, rfl⟩) | go_in))
    all_goals go_ret
    all_goals exact ⟨rfl, by repeat (first | exact Below.refl _ _ | apply below_drewN | apply Below.drew | (refine Below.alloc ?_ (by simp <;> omega) _) | (refine Below.setCell ?_ (by simp <;> omega) _))⟩

/-! ### the row of FnExactHumidityFor: the arguments are opened, the walk is met, each argument reads behind the call as before -/
namespace fnExactHumidityFor
open Go.ChangeShapes Go.WideShapes Go.ChangeAt Go.RowKit Go.Joins
open Go.ChangeMaps (open_string shut_string)
set_option linter.unusedVariables false
set_option maxRecDepth 100000 in
theorem lifted (os : Os) (started : os.Started) (H : Type) (enc : TypeId × Value → H) :
    ReturnsInHanded {} Try.checked os 14 .any (Rows.fnExactHumidityForSpec.pre6 enc Try.prog Try.f14 Rows.fnExactHumidityForRow.domain false) (Rows.fnExactHumidityForSpec.post enc Try.prog Try.f14 false true false false) := by
  refine returnsInHanded_of_change (C := Try.checked) own started (by kernel_rfl) Try.func14
    (ChangeSpec.witness6 (enc := enc) (C := Try.checked) false ⟨#[], #[.int .i64 0, .int .i64 0, .int .i64 0], []⟩ 8 (by kernel_rfl) (by kernel_rfl) (by kernel_rfl) (by kernel_rfl)) ?_
  intro W base args ds gs before hval0 hW hcnd _
  have hval : ∀ (j : Nat) t v, Try.f14.params[j]? = some t → args[j]? = some v → Value.okWide Try.prog W .any base t v := hval0
  have hW' := hW
  obtain ⟨p, q, hA0, hV, rfl, hfz, hnd⟩ := hW
  have hA : DataW.TrodAll enc Try.prog W 0 (fun _ => true) true Try.f14.params.toList args.toList ds p := hA0
  rw [Try.params14] at hA hval
  obtain ⟨v0, vs0, d0, ds0, p0, q0, hargs, rfl, rfl, h0, r0⟩ := trodAll_cons hA
  obtain ⟨v1, vs1, d1, ds1, p1, q1, rfl, rfl, rfl, h1, r1⟩ := trodAll_cons r0
  obtain ⟨v2, vs2, d2, ds2, p2, q2, rfl, rfl, rfl, h2, r2⟩ := trodAll_cons r1
  obtain ⟨rfl, rfl, rfl⟩ := trodAll_nil r2
  obtain rfl : args = #[v0, v1, v2] := by cases args; simp_all
  obtain ⟨rfl, rfl⟩ := trodVars_none hV
  clear hA0 hval0
  simp only [List.append_nil] at hW'
  have lt0 : ∀ x ∈ p0, x.block < W.heap.size := fun x hx => by simpa using hW'.lt x (by simp [hx])
  have k0 := h0
  have lt1 : ∀ x ∈ p1, x.block < W.heap.size := fun x hx => by simpa using hW'.lt x (by simp [hx])
  have k1 := h1
  have lt2 : ∀ x ∈ p2, x.block < W.heap.size := fun x hx => by simpa using hW'.lt x (by simp [hx])
  have k2 := h2
  obtain ⟨a0, rfl, rfl, rfl, w0⟩ := open_int Try.underlying2 (hval 0 2 v0 rfl rfl) h0
  obtain ⟨a1, rfl, rfl, rfl, w1⟩ := open_int Try.underlying2 (hval 1 2 v1 rfl rfl) h1
  obtain ⟨a2, rfl, rfl, rfl, w2⟩ := open_int Try.underlying2 (hval 2 2 v2 rfl rfl) h2
  refine (law_FnExactHumidityFor a0 (wf_bd w0) a1 (wf_bd w1) a2 (wf_bd w2) W).mono fun e W' ⟨he, hb⟩ => ?_
  subst he
  exact ⟨_, rfl, _, _, _, _, _, [], hW', (trodAll_cons_mk (shut_bool Try.underlying4 _) trodAll_mk0), (trodAll_cons_mk (Below.trod laidOut (by kernel_rfl) (of_decide_eq_true (by kernel_rfl)) k0 hb lt0) (trodAll_cons_mk (Below.trod laidOut (by kernel_rfl) (of_decide_eq_true (by kernel_rfl)) k1 hb lt1) (trodAll_cons_mk (Below.trod laidOut (by kernel_rfl) (of_decide_eq_true (by kernel_rfl)) k2 hb lt2) trodAll_mk0))), rfl, hb.frame _, fun h => by cases h⟩

theorem proved : Rows.FnExactHumidityForSaid :=
  OpenClaim.holds_of_wide 14 Try.f14 rfl rfl rfl rfl rfl rfl rfl ⟨rfl, rfl, rfl, rfl, rfl⟩ rfl rfl rfl rfl rfl (by kernel_rfl) Try.func14 (by kernel_rfl)
    (of_decide_eq_true (by kernel_rfl)) (by unfold Func.isWrapper; first | (rw [if_pos (by decide +kernel)]; kernel_rfl) | (rw [if_neg (by decide +kernel)]; exact ⟨rfl, rfl⟩))
    (fun os started H enc _ => lifted os started H enc)
#print axioms proved
end fnExactHumidityFor
end Go.Proofs.Ytmkljkeokcokgaa
