/-
  FnExactMoistDensity: for every air the program's MoistDensity returns what the reference's returns.
-/
import Derived.Test.YtjpmbjhkolgiiaaAir
import Derived.Test.YtjpmbjhkolgiiaaVap
import Derived.Test.YtjpmbjhkolgiiaaDens
import Derived.Deep.RegionHeld3
import Derived.Test.YtjpmbjhkolgiiaaNum
import Derived.RowKit3
import Derived.ProofKit
import Derived.OpenShut
import Derived.Lib.SmallJoins
namespace Go.Proofs.Ytjpmbjhkolgiiaa
open Go.RowKit
set_option linter.unusedVariables false

theorem moist_bd (t h : Int) (h1 : -100 ≤ t) (h2 : t ≤ 600) (h3 : 0 ≤ h) (h4 : h ≤ 1000) : (0 ≤ vapF t h ∧ vapF t h ≤ 20001) ∧ 0 ≤ dr (378 * vapF t h) 1000 ∧ dr (378 * vapF t h) 1000 ≤ 8001 := by
  have hv := (vap_bd t h h1 h2 h3 h4).2
  have a := dr_nonneg (378 * vapF t h) 1000 (by omega) (by omega)
  have b := of_absI (dr_le (378 * vapF t h) 1000 8000 (by omega) (by omega) (absI_le (by omega) (by omega)))
  omega

def moistF (t p h : Int) : Int := densF t (p - dr (378 * vapF t h) 1000)
theorem moistP_any (t p h : Int) (w : World) (g0 : inB t (-100) 600 = true) (g1 : inB p 50000 150000 = true) (g2 : inB h 0 1000 = true) :
    Calls Try.prog 17 #[.agg #[.int .i64 t, .int .i64 p, .int .i64 h]] w fun e w' => e = .returned (.tuple #[.int .i64 (moistF t p h), .int .i64 0]) ∧ Below w.heap.size w w' := by
  have b0 := inB_true.1 g0
  have b1 := inB_true.1 g1
  have b2 := inB_true.1 g2
  have hm := moist_bd t h (by omega) (by omega) (by omega) (by omega)
  go_enter Try.func17, Try.ntmps17
  go_wp2_with (first | (go_at_call 16; refine (toAir_any _ _ _ _).mono ?_; rintro e w' ⟨rfl, o1, o2, o3, u1, u2, u3, rfl⟩) | (go_at_call 50; refine (densP_any _ _ _ (by omega) (by omega) (by omega) (by omega)).mono ?_; rintro e w' ⟨rfl, nd, rfl⟩) | (go_at_call 84; refine (densS_any _ _ _ (by omega) (by omega) (by omega) (by omega)).mono ?_; rintro e w' ⟨rfl, ne, rfl⟩) | (first | (go_at_call 52; refine (vapP_any _ _ _ (by omega) (by omega) (by omega) (by omega)).mono ?_; rintro e w' ⟨rfl, o3, u3, q3, rfl⟩) | (go_at_call 55; refine (vapS_any _ _ _ (by omega) (by omega) (by omega) (by omega)).mono ?_; rintro e w' ⟨rfl, o4, u4, q4, rfl⟩) | (first | (go_at_call 59; refine (satP_any _ _ (by omega) (by omega)).mono ?_; rintro e w' ⟨rfl, o1, u1, q1, rfl⟩) | (go_at_call 56; refine (satS_any _ _ (by omega) (by omega)).mono ?_; rintro e w' ⟨rfl, o2, u2, q2, rfl⟩) | (first | (go_at_call 69; refine (l00In_any _ _ _ _).mono ?_; rintro e w' ⟨rfl, rfl⟩) | (go_at_call 73; refine (within_any _ _ _ _).mono ?_; rintro e w' ⟨rfl, rfl⟩) | (go_at_call 76; refine (l01Div_any _ _ _ (by omega) (by omega) (by omega) (by omega) (by omega)).mono ?_; rintro e w' ⟨rfl, rfl⟩) | (go_at_call 51; refine (divRound_any _ _ _ (by omega) (by omega) (by omega) (by omega) (by omega)).mono ?_; rintro e w' ⟨rfl, nq, rfl⟩) | go_in))))
  have q1 : IntKind.i64.wrap (378 * vapF t h) = 378 * vapF t h := IntWalk.i64_in _ (by omega)
  have q2 : IntKind.i64.wrap (p - dr (378 * vapF t h) 1000) = p - dr (378 * vapF t h) 1000 := IntWalk.i64_in _ (by omega)
  go_region_held3 (fun w' => w'.cell? ⟨w.heap.size, 0, none⟩ = some (.int .i64 t) ∧ w'.cell? ⟨w.heap.size, 1, none⟩ = some (.int .i64 p) ∧ w'.cell? ⟨w.heap.size, 2, none⟩ = some (.int .i64 h)) (simp [go_sem, World.cell?_alloc_past])
    (first
      | (go_at_call 52; refine (vapP_any _ _ _ (by omega) (by omega) (by omega) (by omega)).mono ?_; rintro e w' ⟨rfl, o3, u3, q3, rfl⟩)
      | (go_at_call 51; refine (divRound_any _ _ _ (by omega) (by omega) (by omega) (by omega) (by omega)).mono ?_; rintro e w' ⟨rfl, nq, rfl⟩)
      | (go_at_call 50; refine (densP_any _ _ _ (by omega) (by omega) (by omega) (by omega)).mono ?_; rintro e w' ⟨rfl, nd, rfl⟩))
  go_wp2_with fail
  go_ret2
  exact ⟨rfl, by repeat (first | exact Below.refl _ _ | apply below_drewN | apply Below.drew | (refine Below.alloc ?_ (by simp <;> omega) _) | (refine Below.setCell ?_ (by simp <;> omega) _) | (refine Below.trans ?_ (hb2.mono (by simp <;> omega))) | (refine Below.trans ?_ (hb3.mono (by simp <;> omega))) | (refine Below.trans ?_ (hb4.mono (by simp <;> omega))))⟩

theorem moistS_any (t p h : Int) (b : Nat) (w : World) (hb : b < w.heap.size) (g0 : -100 ≤ t ∧ t ≤ 600) (g1 : 50000 ≤ p ∧ p ≤ 150000) (g2 : 0 ≤ h ∧ h ≤ 1000)
    (c0 : w.cell? ⟨b, 0, none⟩ = some (.int .i64 t)) (c1 : w.cell? ⟨b, 1, none⟩ = some (.int .i64 p)) (c2 : w.cell? ⟨b, 2, none⟩ = some (.int .i64 h)) :
    Calls Try.prog 48 #[.pointer (some ⟨b, 0, none⟩)] w fun e w' => e = .returned (.int .i64 (moistF t p h)) ∧ ∃ (c : Array Value) (t : TypeId) (q : Nat), w' = (w.alloc (.cells c t)).drewN q := by
  have hm := moist_bd t h (by omega) (by omega) (by omega) (by omega)
  have q1 : IntKind.i64.wrap (378 * vapF t h) = 378 * vapF t h := IntWalk.i64_in _ (by omega)
  have q2 : IntKind.i64.wrap (p - dr (378 * vapF t h) 1000) = p - dr (378 * vapF t h) 1000 := IntWalk.i64_in _ (by omega)
  go_enter Try.func48, Try.ntmps48
  go_wp2_with fail
  go_region_held3 (fun w' => w'.cell? ⟨b, 0, none⟩ = some (.int .i64 t) ∧ w'.cell? ⟨b, 1, none⟩ = some (.int .i64 p) ∧ w'.cell? ⟨b, 2, none⟩ = some (.int .i64 h)) (first | exact ⟨c0, c1, c2⟩ | (simp [go_sem, World.cell?_alloc_lt, hb, c0, c1, c2]))
    (first
      | (go_at_call 55; refine (vapS_any _ _ _ (by omega) (by omega) (by omega) (by omega)).mono ?_; rintro e w' ⟨rfl, o3, u3, q3, rfl⟩)
      | (go_at_call 76; refine (l01Div_any _ _ _ (by omega) (by omega) (by omega) (by omega) (by omega)).mono ?_; rintro e w' ⟨rfl, rfl⟩)
      | (go_at_call 84; refine (densS_any _ _ _ (by omega) (by omega) (by omega) (by omega)).mono ?_; rintro e w' ⟨rfl, nd, rfl⟩))
  go_wp2_with fail
  go_ret
  exact ⟨rfl, _, _, _, rfl⟩

theorem law_FnExactMoistDensity (t : Int) (_ : -9223372036854775808 ≤ t ∧ t ≤ 9223372036854775807) (p : Int) (_ : -9223372036854775808 ≤ p ∧ p ≤ 9223372036854775807) (h : Int) (_ : -9223372036854775808 ≤ h ∧ h ≤ 9223372036854775807) (w : World) :
    Calls Try.prog 3 #[.agg #[.int .i64 t, .int .i64 p, .int .i64 h]] w fun e w' => e = .returned (.bool true) ∧ Below w.heap.size w w' := by
  by_cases g0 : inB t (-100) 600 = true
  · have b0 := inB_true.1 g0
    by_cases g1 : inB p 50000 150000 = true
    · have b1 := inB_true.1 g1
      by_cases g2 : inB h 0 1000 = true
      · have b2 := inB_true.1 g2
        have hm := moist_bd t h (by omega) (by omega) (by omega) (by omega)
        go_enter Try.func3, Try.ntmps3
        go_wp2_with (first | (go_at_call 17; refine (moistP_any _ _ _ _ (by assumption) (by assumption) (by assumption)).mono ?_; rintro e w2 ⟨rfl, hb2⟩) | (go_at_call 48; refine (moistS_any t p h _ _ (by simp) (by omega) (by omega) (by omega) (by simp [go_sem]) (by simp [go_sem]) (by simp [go_sem])).mono ?_; rintro e w' ⟨rfl, o7, u7, q7, rfl⟩) | (first | (go_at_call 16; refine (toAir_any _ _ _ _).mono ?_; rintro e w' ⟨rfl, o1, o2, o3, u1, u2, u3, rfl⟩) | (go_at_call 50; refine (densP_any _ _ _ (by omega) (by omega) (by omega) (by omega)).mono ?_; rintro e w' ⟨rfl, nd, rfl⟩) | (go_at_call 84; refine (densS_any _ _ _ (by omega) (by omega) (by omega) (by omega)).mono ?_; rintro e w' ⟨rfl, ne, rfl⟩) | (first | (go_at_call 52; refine (vapP_any _ _ _ (by omega) (by omega) (by omega) (by omega)).mono ?_; rintro e w' ⟨rfl, o3, u3, q3, rfl⟩) | (go_at_call 55; refine (vapS_any _ _ _ (by omega) (by omega) (by omega) (by omega)).mono ?_; rintro e w' ⟨rfl, o4, u4, q4, rfl⟩) | (first | (go_at_call 59; refine (satP_any _ _ (by omega) (by omega)).mono ?_; rintro e w' ⟨rfl, o1, u1, q1, rfl⟩) | (go_at_call 56; refine (satS_any _ _ (by omega) (by omega)).mono ?_; rintro e w' ⟨rfl, o2, u2, q2, rfl⟩) | (first | (go_at_call 69; refine (l00In_any _ _ _ _).mono ?_; rintro e w' ⟨rfl, rfl⟩) | (go_at_call 73; refine (within_any _ _ _ _).mono ?_; rintro e w' ⟨rfl, rfl⟩) | (go_at_call 76; refine (l01Div_any _ _ _ (by omega) (by omega) (by omega) (by omega) (by omega)).mono ?_; rintro e w' ⟨rfl, rfl⟩) | (go_at_call 51; refine (divRound_any _ _ _ (by omega) (by omega) (by omega) (by omega) (by omega)).mono ?_; rintro e w' ⟨rfl, nq, rfl⟩) | go_in)))))
        all_goals go_ret
        all_goals exact ⟨rfl, by repeat (first | exact Below.refl _ _ | apply below_drewN | apply Below.drew | (refine Below.alloc ?_ (by simp <;> omega) _) | (refine Below.setCell ?_ (by simp <;> omega) _) | (refine Below.trans ?_ (hb2.mono (by simp <;> omega))) | (refine Below.trans ?_ (hb3.mono (by simp <;> omega))) | (refine Below.trans ?_ (hb4.mono (by simp <;> omega))))⟩
      · simp only [Bool.not_eq_true] at g2
        go_enter Try.func3, Try.ntmps3
        go_wp2_with (first | (go_at_call 17; refine (moistP_any _ _ _ _ (by assumption) (by assumption) (by assumption)).mono ?_; rintro e w2 ⟨rfl, hb2⟩) | (go_at_call 48; refine (moistS_any t p h _ _ (by simp) (by omega) (by omega) (by omega) (by simp [go_sem]) (by simp [go_sem]) (by simp [go_sem])).mono ?_; rintro e w' ⟨rfl, o7, u7, q7, rfl⟩) | (first | (go_at_call 16; refine (toAir_any _ _ _ _).mono ?_; rintro e w' ⟨rfl, o1, o2, o3, u1, u2, u3, rfl⟩) | (go_at_call 50; refine (densP_any _ _ _ (by omega) (by omega) (by omega) (by omega)).mono ?_; rintro e w' ⟨rfl, nd, rfl⟩) | (go_at_call 84; refine (densS_any _ _ _ (by omega) (by omega) (by omega) (by omega)).mono ?_; rintro e w' ⟨rfl, ne, rfl⟩) | (first | (go_at_call 52; refine (vapP_any _ _ _ (by omega) (by omega) (by omega) (by omega)).mono ?_; rintro e w' ⟨rfl, o3, u3, q3, rfl⟩) | (go_at_call 55; refine (vapS_any _ _ _ (by omega) (by omega) (by omega) (by omega)).mono ?_; rintro e w' ⟨rfl, o4, u4, q4, rfl⟩) | (first | (go_at_call 59; refine (satP_any _ _ (by omega) (by omega)).mono ?_; rintro e w' ⟨rfl, o1, u1, q1, rfl⟩) | (go_at_call 56; refine (satS_any _ _ (by omega) (by omega)).mono ?_; rintro e w' ⟨rfl, o2, u2, q2, rfl⟩) | (first | (go_at_call 69; refine (l00In_any _ _ _ _).mono ?_; rintro e w' ⟨rfl, rfl⟩) | (go_at_call 73; refine (within_any _ _ _ _).mono ?_; rintro e w' ⟨rfl, rfl⟩) | (go_at_call 76; refine (l01Div_any _ _ _ (by omega) (by omega) (by omega) (by omega) (by omega)).mono ?_; rintro e w' ⟨rfl, rfl⟩) | (go_at_call 51; refine (divRound_any _ _ _ (by omega) (by omega) (by omega) (by omega) (by omega)).mono ?_; rintro e w' ⟨rfl, nq, rfl⟩) | go_in)))))
        all_goals go_ret
        all_goals exact ⟨rfl, by repeat (first | exact Below.refl _ _ | apply below_drewN | apply Below.drew | (refine Below.alloc ?_ (by simp <;> omega) _) | (refine Below.setCell ?_ (by simp <;> omega) _) | (refine Below.trans ?_ (hb2.mono (by simp <;> omega))) | (refine Below.trans ?_ (hb3.mono (by simp <;> omega))) | (refine Below.trans ?_ (hb4.mono (by simp <;> omega))))⟩
    · simp only [Bool.not_eq_true] at g1
      go_enter Try.func3, Try.ntmps3
      go_wp2_with (first | (go_at_call 17; refine (moistP_any _ _ _ _ (by assumption) (by assumption) (by assumption)).mono ?_; rintro e w2 ⟨rfl, hb2⟩) | (go_at_call 48; refine (moistS_any t p h _ _ (by simp) (by omega) (by omega) (by omega) (by simp [go_sem]) (by simp [go_sem]) (by simp [go_sem])).mono ?_; rintro e w' ⟨rfl, o7, u7, q7, rfl⟩) | (first | (go_at_call 16; refine (toAir_any _ _ _ _).mono ?_; rintro e w' ⟨rfl, o1, o2, o3, u1, u2, u3, rfl⟩) | (go_at_call 50; refine (densP_any _ _ _ (by omega) (by omega) (by omega) (by omega)).mono ?_; rintro e w' ⟨rfl, nd, rfl⟩) | (go_at_call 84; refine (densS_any _ _ _ (by omega) (by omega) (by omega) (by omega)).mono ?_; rintro e w' ⟨rfl, ne, rfl⟩) | (first | (go_at_call 52; refine (vapP_any _ _ _ (by omega) (by omega) (by omega) (by omega)).mono ?_; rintro e w' ⟨rfl, o3, u3, q3, rfl⟩) | (go_at_call 55; refine (vapS_any _ _ _ (by omega) (by omega) (by omega) (by omega)).mono ?_; rintro e w' ⟨rfl, o4, u4, q4, rfl⟩) | (first | (go_at_call 59; refine (satP_any _ _ (by omega) (by omega)).mono ?_; rintro e w' ⟨rfl, o1, u1, q1, rfl⟩) | (go_at_call 56; refine (satS_any _ _ (by omega) (by omega)).mono ?_; rintro e w' ⟨rfl, o2, u2, q2, rfl⟩) | (first | (go_at_call 69; refine (l00In_any _ _ _ _).mono ?_; rintro e w' ⟨rfl, rfl⟩) | (go_at_call 73; refine (within_any _ _ _ _).mono ?_; rintro e w' ⟨rfl, rfl⟩) | (go_at_call 76; refine (l01Div_any _ _ _ (by omega) (by omega) (by omega) (by omega) (by omega)).mono ?_; rintro e w' ⟨rfl, rfl⟩) | (go_at_call 51; refine (divRound_any _ _ _ (by omega) (by omega) (by omega) (by omega) (by omega)).mono ?_; rintro e w' ⟨rfl, nq, rfl⟩) | go_in)))))
      all_goals go_ret
      all_goals exact ⟨rfl, by repeat (first | exact Below.refl _ _ | apply below_drewN | apply Below.drew | (refine Below.alloc ?_ (by simp <;> omega) _) | (refine Below.setCell ?_ (by simp <;> omega) _) | (refine Below.trans ?_ (hb2.mono (by simp <;> omega))) | (refine Below.trans ?_ (hb3.mono (by simp <;> omega))) | (refine Below.trans ?_ (hb4.mono (by simp <;> omega))))⟩
  · simp only [Bool.not_eq_true] at g0
    go_enter Try.func3, Try.ntmps3
    go_wp2_with (first | (go_at_call 17; refine (moistP_any _ _ _ _ (by assumption) (by assumption) (by assumption)).mono ?_; rintro e w2 ⟨rfl, hb2⟩) | (go_at_call 48; refine (moistS_any t p h _ _ (by simp) (by omega) (by omega) (by omega) (by simp [go_sem]) (by simp [go_sem]) (by simp [go_sem])).mono ?_; rintro e w' ⟨rfl, o7, u7, q7, rfl⟩) | (first | (go_at_call 16; refine (toAir_any _ _ _ _).mono ?_; rintro e w' ⟨rfl, o1, o2, o3, u1, u2, u3, rfl⟩) | (go_at_call 50; refine (densP_any _ _ _ (by omega) (by omega) (by omega) (by omega)).mono ?_; rintro e w' ⟨rfl, nd, rfl⟩) | (go_at_call 84; refine (densS_any _ _ _ (by omega) (by omega) (by omega) (by omega)).mono ?_; rintro e w' ⟨rfl, ne, rfl⟩) | (first | (go_at_call 52; refine (vapP_any _ _ _ (by omega) (by omega) (by omega) (by omega)).mono ?_; rintro e w' ⟨rfl, o3, u3, q3, rfl⟩) | (go_at_call 55; refine (vapS_any _ _ _ (by omega) (by omega) (by omega) (by omega)).mono ?_; rintro e w' ⟨rfl, o4, u4, q4, rfl⟩) | (first | (go_at_call 59; refine (satP_any _ _ (by omega) (by omega)).mono ?_; rintro e w' ⟨rfl, o1, u1, q1, rfl⟩) | (go_at_call 56; refine (satS_any _ _ (by omega) (by omega)).mono ?_; rintro e w' ⟨rfl, o2, u2, q2, rfl⟩) | (first | (go_at_call 69; refine (l00In_any _ _ _ _).mono ?_; rintro e w' ⟨rfl, rfl⟩) | (go_at_call 73; refine (within_any _ _ _ _).mono ?_; rintro e w' ⟨rfl, rfl⟩) | (go_at_call 76; refine (l01Div_any _ _ _ (by omega) (by omega) (by omega) (by omega) (by omega)).mono ?_; rintro e w' ⟨rfl, rfl⟩) | (go_at_call 51; refine (divRound_any _ _ _ (by omega) (by omega) (by omega) (by omega) (by omega)).mono ?_; rintro e w' ⟨rfl, nq, rfl⟩) | go_in)))))
    all_goals go_ret
    all_goals exact ⟨rfl, by repeat (first | exact Below.refl _ _ | apply below_drewN | apply Below.drew | (refine Below.alloc ?_ (by simp <;> omega) _) | (refine Below.setCell ?_ (by simp <;> omega) _) | (refine Below.trans ?_ (hb2.mono (by simp <;> omega))) | (refine Below.trans ?_ (hb3.mono (by simp <;> omega))) | (refine Below.trans ?_ (hb4.mono (by simp <;> omega))))⟩

/-! ### the row of FnExactMoistDensity: the arguments are opened, the walk is met, each argument reads behind the call as before -/
namespace fnExactMoistDensity
open Go.ChangeShapes Go.WideShapes Go.ChangeAt Go.RowKit Go.Joins
open Go.ChangeMaps (open_string shut_string)
set_option linter.unusedVariables false
set_option maxRecDepth 100000 in
theorem lifted (os : Os) (started : os.Started) (H : Type) (enc : TypeId × Value → H) :
    ReturnsInHanded {} Try.checked os 3 .any (Rows.fnExactMoistDensitySpec.pre6 enc Try.prog Try.f3 Rows.fnExactMoistDensityRow.domain false) (Rows.fnExactMoistDensitySpec.post enc Try.prog Try.f3 false true false false) := by
  refine returnsInHanded_of_change (C := Try.checked) own started (by kernel_rfl) Try.func3
    (ChangeSpec.witness6 (enc := enc) (C := Try.checked) false ⟨#[], #[.agg #[.int .i64 0, .int .i64 0, .int .i64 0]], []⟩ 8 (by kernel_rfl) (by kernel_rfl) (by kernel_rfl) (by kernel_rfl)) ?_
  intro W base args ds gs before hval0 hW hcnd _
  have hval : ∀ (j : Nat) t v, Try.f3.params[j]? = some t → args[j]? = some v → Value.okWide Try.prog W .any base t v := hval0
  have hW' := hW
  obtain ⟨p, q, hA0, hV, rfl, hfz, hnd⟩ := hW
  have hA : DataW.TrodAll enc Try.prog W 0 (fun _ => true) true Try.f3.params.toList args.toList ds p := hA0
  rw [Try.params3] at hA hval
  obtain ⟨v0, vs0, d0, ds0, p0, q0, hargs, rfl, rfl, h0, r0⟩ := trodAll_cons hA
  obtain ⟨rfl, rfl, rfl⟩ := trodAll_nil r0
  obtain rfl : args = #[v0] := by cases args; simp_all
  obtain ⟨rfl, rfl⟩ := trodVars_none hV
  clear hA0 hval0
  simp only [List.append_nil] at hW'
  have lt0 : ∀ x ∈ p0, x.block < W.heap.size := fun x hx => by simpa using hW'.lt x (by simp [hx])
  have k0 := h0
  obtain ⟨c0_0, c0_1, c0_2, y0_0, y0_1, y0_2, m0, rfl, rfl, rfl, hy0_0, hy0_1, hy0_2⟩ := open_agg3 Try.underlying23 (by kernel_rfl) (by kernel_rfl) (hval 0 23 v0 rfl rfl) h0
  obtain ⟨a0_0, e0_0, z0_0, w0_0⟩ := DataW.trod_int Try.underlying2 hy0_0
  simp only [List.cons.injEq, and_true] at e0_0; subst e0_0
  obtain ⟨a0_1, e0_1, z0_1, w0_1⟩ := DataW.trod_int Try.underlying2 hy0_1
  simp only [List.cons.injEq, and_true] at e0_1; subst e0_1
  obtain ⟨a0_2, e0_2, z0_2, w0_2⟩ := DataW.trod_int Try.underlying2 hy0_2
  simp only [List.cons.injEq, and_true] at e0_2; subst e0_2
  refine (law_FnExactMoistDensity a0_0 (wf_bd w0_0) a0_1 (wf_bd w0_1) a0_2 (wf_bd w0_2) W).mono fun e W' ⟨he, hb⟩ => ?_
  subst he
  exact ⟨_, rfl, _, _, _, _, _, [], hW', (trodAll_cons_mk (shut_bool Try.underlying4 _) trodAll_mk0), (trodAll_cons_mk (Below.trod laidOut (by kernel_rfl) (of_decide_eq_true (by kernel_rfl)) k0 hb lt0) trodAll_mk0), rfl, hb.frame _, fun h => by cases h⟩

theorem proved : Rows.FnExactMoistDensitySaid :=
  OpenClaim.holds_of_wide 3 Try.f3 rfl rfl rfl rfl rfl rfl rfl ⟨rfl, rfl, rfl, rfl, rfl⟩ rfl rfl rfl rfl rfl (by kernel_rfl) Try.func3 (by kernel_rfl)
    (of_decide_eq_true (by kernel_rfl)) (by unfold Func.isWrapper; first | (rw [if_pos (by decide +kernel)]; kernel_rfl) | (rw [if_neg (by decide +kernel)]; exact ⟨rfl, rfl⟩))
    (fun os started H enc _ => lifted os started H enc)
#print axioms proved
end fnExactMoistDensity
end Go.Proofs.Ytjpmbjhkolgiiaa
