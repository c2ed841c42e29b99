/-
  FnExactBlend: for all arguments the program's Blend returns what the reference's returns.
-/
import Derived.Test.YtkhfofnggfejmaaLine
import Derived.Test.YtkhfofnggfejmaaNum
import Derived.RowKit3
import Derived.ProofKit
import Derived.OpenShut
import Derived.Lib.SmallJoins
namespace Go.Proofs.Ytkhfofnggfejmaa
open Go.RowKit
set_option linter.unusedVariables false

def inM (n : Int) : Bool := inB n (-1000000) 1000000
def blendP (x0 y0 x1 y1 x : Int) : Int := if inM x0 && (inM y0 && (inM x1 && inM y1)) then lineF x0 y0 x1 y1 x else 0
def BlendRel (x0 y0 x1 y1 : Int) (i : Value) : Prop := ∃ k : Int, i = .int .i64 k ∧ 0 ≤ k ∧ k ≤ 4 ∧ (0 < k → inM x0 = true) ∧ (1 < k → inM y0 = true) ∧ (2 < k → inM x1 = true) ∧ (3 < k → inM y1 = true)
theorem rel_next {x0 y0 x1 y1 k : Int} (h0 : 0 ≤ k) (h1 : k + 1 ≤ 4) (a : 0 < k + 1 → inM x0 = true) (b : 1 < k + 1 → inM y0 = true) (c : 2 < k + 1 → inM x1 = true) (d : 3 < k + 1 → inM y1 = true) (e : Value) (he : e = .int .i64 (k + 1)) : BlendRel x0 y0 x1 y1 e :=
  ⟨k + 1, he, by omega, h1, a, b, c, d⟩

theorem blendP_any (x0 y0 x1 y1 x : Int) (w : World) :
    Calls Try.prog 37 #[.int .i64 x0, .int .i64 y0, .int .i64 x1, .int .i64 y1, .int .i64 x] w fun e w' => e = .returned (.int .i64 (blendP x0 y0 x1 y1 x)) ∧ ∃ n, w' = w.drewN n := by
  have i0 : ∀ w, (Instr.index 50 (.agg #[.int .i64 x0, .int .i64 y0, .int .i64 x1, .int .i64 y1]) (.int .i64 0)).run Try.prog w = .ok (.int .i64 x0) w := fun _ => by kernel_rfl
  have i1 : ∀ w, (Instr.index 50 (.agg #[.int .i64 x0, .int .i64 y0, .int .i64 x1, .int .i64 y1]) (.int .i64 1)).run Try.prog w = .ok (.int .i64 y0) w := fun _ => by kernel_rfl
  have i2 : ∀ w, (Instr.index 50 (.agg #[.int .i64 x0, .int .i64 y0, .int .i64 x1, .int .i64 y1]) (.int .i64 2)).run Try.prog w = .ok (.int .i64 x1) w := fun _ => by kernel_rfl
  have i3 : ∀ w, (Instr.index 50 (.agg #[.int .i64 x0, .int .i64 y0, .int .i64 x1, .int .i64 y1]) (.int .i64 3)).run Try.prog w = .ok (.int .i64 y1) w := fun _ => by kernel_rfl
  go_enter Try.func37, Try.ntmps37
  go_wp2_with fail
  go_loop [18] (fun i => BlendRel x0 y0 x1 y1 i) (fun i => (4 - intOf i).toNat)
  case atStart => exact ⟨0, rfl, by omega, by omega, by omega, by omega, by omega, by omega⟩
  case round =>
    obtain ⟨k, rfl, hk0, hk4, q0, q1, q2, q3⟩ := hrel
    rcases (by omega : k = 0 ∨ k = 1 ∨ k = 2 ∨ k = 3 ∨ k = 4) with rfl | rfl | rfl | rfl | rfl
    · clear q0 q1 q2 q3 i1 i2 i3
      by_cases g : inM x0 = true
      · have g' : inB x0 (-1000000) 1000000 = true := g
        have G := Lib.hid g
        clear g
        go_wp2_with (first | (go_at_call 38; refine (l00In_any _ _ _ _).mono ?_; rintro e w' ⟨rfl, rfl⟩) | (go_at_call 39; refine (within_any _ _ _ _).mono ?_; rintro e w' ⟨rfl, rfl⟩) | (go_at_call 50; refine (l01Div_any _ _ _ (by omega) (by omega) (by omega) (by omega) (by omega)).mono ?_; rintro e w' ⟨rfl, rfl⟩) | (go_at_call 51; refine (divRound_any _ _ _ (by omega) (by omega) (by omega) (by omega) (by omega)).mono ?_; rintro e w' ⟨rfl, nq, rfl⟩) | (go_at_call 59; refine (l01Line_any _ _ _ _ _ _ (by omega) (by omega) (by omega) (by omega) (by omega) (by omega) (by omega) (by omega)).mono ?_; rintro e w' ⟨rfl, nl, rfl⟩) | (go_at_call 60; refine (blend_any _ _ _ _ _ _ (by omega) (by omega) (by omega) (by omega) (by omega) (by omega) (by omega) (by omega)).mono ?_; rintro e w' ⟨rfl, nb, rfl⟩) | go_in)
        go_round
        case rel => exact rel_next (k := 0) (by omega) (by omega) (fun _ => G.out) (by omega) (by omega) (by omega) _ rfl
        case measure => simp [intOf]
      · have g' : inB x0 (-1000000) 1000000 = false := by simpa [inM] using g
        have G := Lib.hid g
        clear g
        go_wp2_with (first | (go_at_call 38; refine (l00In_any _ _ _ _).mono ?_; rintro e w' ⟨rfl, rfl⟩) | (go_at_call 39; refine (within_any _ _ _ _).mono ?_; rintro e w' ⟨rfl, rfl⟩) | (go_at_call 50; refine (l01Div_any _ _ _ (by omega) (by omega) (by omega) (by omega) (by omega)).mono ?_; rintro e w' ⟨rfl, rfl⟩) | (go_at_call 51; refine (divRound_any _ _ _ (by omega) (by omega) (by omega) (by omega) (by omega)).mono ?_; rintro e w' ⟨rfl, nq, rfl⟩) | (go_at_call 59; refine (l01Line_any _ _ _ _ _ _ (by omega) (by omega) (by omega) (by omega) (by omega) (by omega) (by omega) (by omega)).mono ?_; rintro e w' ⟨rfl, nl, rfl⟩) | (go_at_call 60; refine (blend_any _ _ _ _ _ _ (by omega) (by omega) (by omega) (by omega) (by omega) (by omega) (by omega) (by omega)).mono ?_; rintro e w' ⟨rfl, nb, rfl⟩) | go_in)
        go_ret
        exact ⟨ret_int (by unfold blendP; simp [G.out]), 0, rfl⟩
    · have p0 := Lib.hid (q0 (by omega))
      clear q0 q1 q2 q3 i0 i2 i3
      by_cases g : inM y0 = true
      · have g' : inB y0 (-1000000) 1000000 = true := g
        have G := Lib.hid g
        clear g
        go_wp2_with (first | (go_at_call 38; refine (l00In_any _ _ _ _).mono ?_; rintro e w' ⟨rfl, rfl⟩) | (go_at_call 39; refine (within_any _ _ _ _).mono ?_; rintro e w' ⟨rfl, rfl⟩) | (go_at_call 50; refine (l01Div_any _ _ _ (by omega) (by omega) (by omega) (by omega) (by omega)).mono ?_; rintro e w' ⟨rfl, rfl⟩) | (go_at_call 51; refine (divRound_any _ _ _ (by omega) (by omega) (by omega) (by omega) (by omega)).mono ?_; rintro e w' ⟨rfl, nq, rfl⟩) | (go_at_call 59; refine (l01Line_any _ _ _ _ _ _ (by omega) (by omega) (by omega) (by omega) (by omega) (by omega) (by omega) (by omega)).mono ?_; rintro e w' ⟨rfl, nl, rfl⟩) | (go_at_call 60; refine (blend_any _ _ _ _ _ _ (by omega) (by omega) (by omega) (by omega) (by omega) (by omega) (by omega) (by omega)).mono ?_; rintro e w' ⟨rfl, nb, rfl⟩) | go_in)
        go_round
        case rel => exact rel_next (k := 1) (by omega) (by omega) (fun _ => p0.out) (fun _ => G.out) (by omega) (by omega) _ rfl
        case measure => simp [intOf]
      · have g' : inB y0 (-1000000) 1000000 = false := by simpa [inM] using g
        have G := Lib.hid g
        clear g
        go_wp2_with (first | (go_at_call 38; refine (l00In_any _ _ _ _).mono ?_; rintro e w' ⟨rfl, rfl⟩) | (go_at_call 39; refine (within_any _ _ _ _).mono ?_; rintro e w' ⟨rfl, rfl⟩) | (go_at_call 50; refine (l01Div_any _ _ _ (by omega) (by omega) (by omega) (by omega) (by omega)).mono ?_; rintro e w' ⟨rfl, rfl⟩) | (go_at_call 51; refine (divRound_any _ _ _ (by omega) (by omega) (by omega) (by omega) (by omega)).mono ?_; rintro e w' ⟨rfl, nq, rfl⟩) | (go_at_call 59; refine (l01Line_any _ _ _ _ _ _ (by omega) (by omega) (by omega) (by omega) (by omega) (by omega) (by omega) (by omega)).mono ?_; rintro e w' ⟨rfl, nl, rfl⟩) | (go_at_call 60; refine (blend_any _ _ _ _ _ _ (by omega) (by omega) (by omega) (by omega) (by omega) (by omega) (by omega) (by omega)).mono ?_; rintro e w' ⟨rfl, nb, rfl⟩) | go_in)
        go_ret
        exact ⟨ret_int (by unfold blendP; simp [G.out]), 0, rfl⟩
    · have p0 := Lib.hid (q0 (by omega))
      have p1 := Lib.hid (q1 (by omega))
      clear q0 q1 q2 q3 i0 i1 i3
      by_cases g : inM x1 = true
      · have g' : inB x1 (-1000000) 1000000 = true := g
        have G := Lib.hid g
        clear g
        go_wp2_with (first | (go_at_call 38; refine (l00In_any _ _ _ _).mono ?_; rintro e w' ⟨rfl, rfl⟩) | (go_at_call 39; refine (within_any _ _ _ _).mono ?_; rintro e w' ⟨rfl, rfl⟩) | (go_at_call 50; refine (l01Div_any _ _ _ (by omega) (by omega) (by omega) (by omega) (by omega)).mono ?_; rintro e w' ⟨rfl, rfl⟩) | (go_at_call 51; refine (divRound_any _ _ _ (by omega) (by omega) (by omega) (by omega) (by omega)).mono ?_; rintro e w' ⟨rfl, nq, rfl⟩) | (go_at_call 59; refine (l01Line_any _ _ _ _ _ _ (by omega) (by omega) (by omega) (by omega) (by omega) (by omega) (by omega) (by omega)).mono ?_; rintro e w' ⟨rfl, nl, rfl⟩) | (go_at_call 60; refine (blend_any _ _ _ _ _ _ (by omega) (by omega) (by omega) (by omega) (by omega) (by omega) (by omega) (by omega)).mono ?_; rintro e w' ⟨rfl, nb, rfl⟩) | go_in)
        go_round
        case rel => exact rel_next (k := 2) (by omega) (by omega) (fun _ => p0.out) (fun _ => p1.out) (fun _ => G.out) (by omega) _ rfl
        case measure => simp [intOf]
      · have g' : inB x1 (-1000000) 1000000 = false := by simpa [inM] using g
        have G := Lib.hid g
        clear g
        go_wp2_with (first | (go_at_call 38; refine (l00In_any _ _ _ _).mono ?_; rintro e w' ⟨rfl, rfl⟩) | (go_at_call 39; refine (within_any _ _ _ _).mono ?_; rintro e w' ⟨rfl, rfl⟩) | (go_at_call 50; refine (l01Div_any _ _ _ (by omega) (by omega) (by omega) (by omega) (by omega)).mono ?_; rintro e w' ⟨rfl, rfl⟩) | (go_at_call 51; refine (divRound_any _ _ _ (by omega) (by omega) (by omega) (by omega) (by omega)).mono ?_; rintro e w' ⟨rfl, nq, rfl⟩) | (go_at_call 59; refine (l01Line_any _ _ _ _ _ _ (by omega) (by omega) (by omega) (by omega) (by omega) (by omega) (by omega) (by omega)).mono ?_; rintro e w' ⟨rfl, nl, rfl⟩) | (go_at_call 60; refine (blend_any _ _ _ _ _ _ (by omega) (by omega) (by omega) (by omega) (by omega) (by omega) (by omega) (by omega)).mono ?_; rintro e w' ⟨rfl, nb, rfl⟩) | go_in)
        go_ret
        exact ⟨ret_int (by unfold blendP; simp [G.out]), 0, rfl⟩
    · have p0 := Lib.hid (q0 (by omega))
      have p1 := Lib.hid (q1 (by omega))
      have p2 := Lib.hid (q2 (by omega))
      clear q0 q1 q2 q3 i0 i1 i2
      by_cases g : inM y1 = true
      · have g' : inB y1 (-1000000) 1000000 = true := g
        have G := Lib.hid g
        clear g
        go_wp2_with (first | (go_at_call 38; refine (l00In_any _ _ _ _).mono ?_; rintro e w' ⟨rfl, rfl⟩) | (go_at_call 39; refine (within_any _ _ _ _).mono ?_; rintro e w' ⟨rfl, rfl⟩) | (go_at_call 50; refine (l01Div_any _ _ _ (by omega) (by omega) (by omega) (by omega) (by omega)).mono ?_; rintro e w' ⟨rfl, rfl⟩) | (go_at_call 51; refine (divRound_any _ _ _ (by omega) (by omega) (by omega) (by omega) (by omega)).mono ?_; rintro e w' ⟨rfl, nq, rfl⟩) | (go_at_call 59; refine (l01Line_any _ _ _ _ _ _ (by omega) (by omega) (by omega) (by omega) (by omega) (by omega) (by omega) (by omega)).mono ?_; rintro e w' ⟨rfl, nl, rfl⟩) | (go_at_call 60; refine (blend_any _ _ _ _ _ _ (by omega) (by omega) (by omega) (by omega) (by omega) (by omega) (by omega) (by omega)).mono ?_; rintro e w' ⟨rfl, nb, rfl⟩) | go_in)
        go_round
        case rel => exact rel_next (k := 3) (by omega) (by omega) (fun _ => p0.out) (fun _ => p1.out) (fun _ => p2.out) (fun _ => G.out) _ rfl
        case measure => simp [intOf]
      · have g' : inB y1 (-1000000) 1000000 = false := by simpa [inM] using g
        have G := Lib.hid g
        clear g
        go_wp2_with (first | (go_at_call 38; refine (l00In_any _ _ _ _).mono ?_; rintro e w' ⟨rfl, rfl⟩) | (go_at_call 39; refine (within_any _ _ _ _).mono ?_; rintro e w' ⟨rfl, rfl⟩) | (go_at_call 50; refine (l01Div_any _ _ _ (by omega) (by omega) (by omega) (by omega) (by omega)).mono ?_; rintro e w' ⟨rfl, rfl⟩) | (go_at_call 51; refine (divRound_any _ _ _ (by omega) (by omega) (by omega) (by omega) (by omega)).mono ?_; rintro e w' ⟨rfl, nq, rfl⟩) | (go_at_call 59; refine (l01Line_any _ _ _ _ _ _ (by omega) (by omega) (by omega) (by omega) (by omega) (by omega) (by omega) (by omega)).mono ?_; rintro e w' ⟨rfl, nl, rfl⟩) | (go_at_call 60; refine (blend_any _ _ _ _ _ _ (by omega) (by omega) (by omega) (by omega) (by omega) (by omega) (by omega) (by omega)).mono ?_; rintro e w' ⟨rfl, nb, rfl⟩) | go_in)
        go_ret
        exact ⟨ret_int (by unfold blendP; simp [G.out]), 0, rfl⟩
    · have b0 := inB_true.1 (q0 (by omega))
      have b1 := inB_true.1 (q1 (by omega))
      have b2 := inB_true.1 (q2 (by omega))
      have b3 := inB_true.1 (q3 (by omega))
      have p0 := Lib.hid (q0 (by omega))
      have p1 := Lib.hid (q1 (by omega))
      have p2 := Lib.hid (q2 (by omega))
      have p3 := Lib.hid (q3 (by omega))
      clear q0 q1 q2 q3 i0 i1 i2 i3
      go_wp2_with (first | (go_at_call 38; refine (l00In_any _ _ _ _).mono ?_; rintro e w' ⟨rfl, rfl⟩) | (go_at_call 39; refine (within_any _ _ _ _).mono ?_; rintro e w' ⟨rfl, rfl⟩) | (go_at_call 50; refine (l01Div_any _ _ _ (by omega) (by omega) (by omega) (by omega) (by omega)).mono ?_; rintro e w' ⟨rfl, rfl⟩) | (go_at_call 51; refine (divRound_any _ _ _ (by omega) (by omega) (by omega) (by omega) (by omega)).mono ?_; rintro e w' ⟨rfl, nq, rfl⟩) | (go_at_call 59; refine (l01Line_any _ _ _ _ _ _ (by omega) (by omega) (by omega) (by omega) (by omega) (by omega) (by omega) (by omega)).mono ?_; rintro e w' ⟨rfl, nl, rfl⟩) | (go_at_call 60; refine (blend_any _ _ _ _ _ _ (by omega) (by omega) (by omega) (by omega) (by omega) (by omega) (by omega) (by omega)).mono ?_; rintro e w' ⟨rfl, nb, rfl⟩) | go_in)
      go_ret
      exact ⟨ret_int (by unfold blendP; simp [p0.out, p1.out, p2.out, p3.out]), _, rfl⟩

theorem law_Blend (x0 : Int) (_ : -9223372036854775808 ≤ x0 ∧ x0 ≤ 9223372036854775807) (y0 : Int) (_ : -9223372036854775808 ≤ y0 ∧ y0 ≤ 9223372036854775807) (x1 : Int) (_ : -9223372036854775808 ≤ x1 ∧ x1 ≤ 9223372036854775807) (y1 : Int) (_ : -9223372036854775808 ≤ y1 ∧ y1 ≤ 9223372036854775807) (x : Int) (_ : -9223372036854775808 ≤ x ∧ x ≤ 9223372036854775807) (w : World) :
    Calls Try.prog 14 #[.int .i64 x0, .int .i64 y0, .int .i64 x1, .int .i64 y1, .int .i64 x] w fun e w' => e = .returned (.bool true) ∧ Below w.heap.size w w' := by
  rcases (by cases inM x0 <;> cases inM x1 <;> cases inM y0 <;> cases inM y1 <;> simp : inM x0 = false ∨ (inM x0 = true ∧ inM x1 = false) ∨ (inM x0 = true ∧ inM x1 = true ∧ inM y0 = false) ∨ (inM x0 = true ∧ inM x1 = true ∧ inM y0 = true ∧ inM y1 = false) ∨ (inM x0 = true ∧ inM x1 = true ∧ inM y0 = true ∧ inM y1 = true)) with h0 | ⟨h0, h1⟩ | ⟨h0, h1, h2⟩ | ⟨h0, h1, h2, h3⟩ | ⟨h0, h1, h2, h3⟩
  · have e : blendP x0 y0 x1 y1 x = 0 := by
      unfold blendP
      simp [h0]
    have E := Lib.hid e
    have g0 : inB x0 (-1000000) 1000000 = false := h0
    clear e h0
    go_enter Try.func14, Try.ntmps14
    go_wp2_with (first | (go_at_call 37; refine (blendP_any _ _ _ _ _ _).mono ?_; rintro e w' ⟨rfl, nb, rfl⟩; rw [E.out]) | (first | (go_at_call 38; refine (l00In_any _ _ _ _).mono ?_; rintro e w' ⟨rfl, rfl⟩) | (go_at_call 39; refine (within_any _ _ _ _).mono ?_; rintro e w' ⟨rfl, rfl⟩) | (go_at_call 50; refine (l01Div_any _ _ _ (by omega) (by omega) (by omega) (by omega) (by omega)).mono ?_; rintro e w' ⟨rfl, rfl⟩) | (go_at_call 51; refine (divRound_any _ _ _ (by omega) (by omega) (by omega) (by omega) (by omega)).mono ?_; rintro e w' ⟨rfl, nq, rfl⟩) | (go_at_call 59; refine (l01Line_any _ _ _ _ _ _ (by omega) (by omega) (by omega) (by omega) (by omega) (by omega) (by omega) (by omega)).mono ?_; rintro e w' ⟨rfl, nl, rfl⟩) | (go_at_call 60; refine (blend_any _ _ _ _ _ _ (by omega) (by omega) (by omega) (by omega) (by omega) (by omega) (by omega) (by omega)).mono ?_; rintro e w' ⟨rfl, nb, rfl⟩) | go_in))
    all_goals go_ret
    all_goals exact ⟨rfl, by repeat (first | exact Below.refl _ _ | apply below_drewN | apply Below.drew | (refine Below.alloc ?_ (by simp) _) | (refine Below.setCell ?_ (by simp) _))⟩
  · have e : blendP x0 y0 x1 y1 x = 0 := by
      unfold blendP
      simp [h0, h1]
    have E := Lib.hid e
    have g0 : inB x0 (-1000000) 1000000 = true := h0
    have g1 : inB x1 (-1000000) 1000000 = false := h1
    clear e h0 h1
    go_enter Try.func14, Try.ntmps14
    go_wp2_with (first | (go_at_call 37; refine (blendP_any _ _ _ _ _ _).mono ?_; rintro e w' ⟨rfl, nb, rfl⟩; rw [E.out]) | (first | (go_at_call 38; refine (l00In_any _ _ _ _).mono ?_; rintro e w' ⟨rfl, rfl⟩) | (go_at_call 39; refine (within_any _ _ _ _).mono ?_; rintro e w' ⟨rfl, rfl⟩) | (go_at_call 50; refine (l01Div_any _ _ _ (by omega) (by omega) (by omega) (by omega) (by omega)).mono ?_; rintro e w' ⟨rfl, rfl⟩) | (go_at_call 51; refine (divRound_any _ _ _ (by omega) (by omega) (by omega) (by omega) (by omega)).mono ?_; rintro e w' ⟨rfl, nq, rfl⟩) | (go_at_call 59; refine (l01Line_any _ _ _ _ _ _ (by omega) (by omega) (by omega) (by omega) (by omega) (by omega) (by omega) (by omega)).mono ?_; rintro e w' ⟨rfl, nl, rfl⟩) | (go_at_call 60; refine (blend_any _ _ _ _ _ _ (by omega) (by omega) (by omega) (by omega) (by omega) (by omega) (by omega) (by omega)).mono ?_; rintro e w' ⟨rfl, nb, rfl⟩) | go_in))
    all_goals go_ret
    all_goals exact ⟨rfl, by repeat (first | exact Below.refl _ _ | apply below_drewN | apply Below.drew | (refine Below.alloc ?_ (by simp) _) | (refine Below.setCell ?_ (by simp) _))⟩
  · have e : blendP x0 y0 x1 y1 x = 0 := by
      unfold blendP
      simp [h0, h1, h2]
    have E := Lib.hid e
    have g0 : inB x0 (-1000000) 1000000 = true := h0
    have g1 : inB x1 (-1000000) 1000000 = true := h1
    have g2 : inB y0 (-1000000) 1000000 = false := h2
    clear e h0 h1 h2
    go_enter Try.func14, Try.ntmps14
    go_wp2_with (first | (go_at_call 37; refine (blendP_any _ _ _ _ _ _).mono ?_; rintro e w' ⟨rfl, nb, rfl⟩; rw [E.out]) | (first | (go_at_call 38; refine (l00In_any _ _ _ _).mono ?_; rintro e w' ⟨rfl, rfl⟩) | (go_at_call 39; refine (within_any _ _ _ _).mono ?_; rintro e w' ⟨rfl, rfl⟩) | (go_at_call 50; refine (l01Div_any _ _ _ (by omega) (by omega) (by omega) (by omega) (by omega)).mono ?_; rintro e w' ⟨rfl, rfl⟩) | (go_at_call 51; refine (divRound_any _ _ _ (by omega) (by omega) (by omega) (by omega) (by omega)).mono ?_; rintro e w' ⟨rfl, nq, rfl⟩) | (go_at_call 59; refine (l01Line_any _ _ _ _ _ _ (by omega) (by omega) (by omega) (by omega) (by omega) (by omega) (by omega) (by omega)).mono ?_; rintro e w' ⟨rfl, nl, rfl⟩) | (go_at_call 60; refine (blend_any _ _ _ _ _ _ (by omega) (by omega) (by omega) (by omega) (by omega) (by omega) (by omega) (by omega)).mono ?_; rintro e w' ⟨rfl, nb, rfl⟩) | go_in))
    all_goals go_ret
    all_goals exact ⟨rfl, by repeat (first | exact Below.refl _ _ | apply below_drewN | apply Below.drew | (refine Below.alloc ?_ (by simp) _) | (refine Below.setCell ?_ (by simp) _))⟩
  · have e : blendP x0 y0 x1 y1 x = 0 := by
      unfold blendP
      simp [h0, h1, h2, h3]
    have E := Lib.hid e
    have g0 : inB x0 (-1000000) 1000000 = true := h0
    have g1 : inB x1 (-1000000) 1000000 = true := h1
    have g2 : inB y0 (-1000000) 1000000 = true := h2
    have g3 : inB y1 (-1000000) 1000000 = false := h3
    clear e h0 h1 h2 h3
    go_enter Try.func14, Try.ntmps14
    go_wp2_with (first | (go_at_call 37; refine (blendP_any _ _ _ _ _ _).mono ?_; rintro e w' ⟨rfl, nb, rfl⟩; rw [E.out]) | (first | (go_at_call 38; refine (l00In_any _ _ _ _).mono ?_; rintro e w' ⟨rfl, rfl⟩) | (go_at_call 39; refine (within_any _ _ _ _).mono ?_; rintro e w' ⟨rfl, rfl⟩) | (go_at_call 50; refine (l01Div_any _ _ _ (by omega) (by omega) (by omega) (by omega) (by omega)).mono ?_; rintro e w' ⟨rfl, rfl⟩) | (go_at_call 51; refine (divRound_any _ _ _ (by omega) (by omega) (by omega) (by omega) (by omega)).mono ?_; rintro e w' ⟨rfl, nq, rfl⟩) | (go_at_call 59; refine (l01Line_any _ _ _ _ _ _ (by omega) (by omega) (by omega) (by omega) (by omega) (by omega) (by omega) (by omega)).mono ?_; rintro e w' ⟨rfl, nl, rfl⟩) | (go_at_call 60; refine (blend_any _ _ _ _ _ _ (by omega) (by omega) (by omega) (by omega) (by omega) (by omega) (by omega) (by omega)).mono ?_; rintro e w' ⟨rfl, nb, rfl⟩) | go_in))
    all_goals go_ret
    all_goals exact ⟨rfl, by repeat (first | exact Below.refl _ _ | apply below_drewN | apply Below.drew | (refine Below.alloc ?_ (by simp) _) | (refine Below.setCell ?_ (by simp) _))⟩
  · have e : blendP x0 y0 x1 y1 x = lineF x0 y0 x1 y1 x := by
      unfold blendP
      simp [h0, h1, h2, h3]
    have E := Lib.hid e
    have g0 : inB x0 (-1000000) 1000000 = true := h0
    have b0 := inB_true.1 g0
    have g1 : inB x1 (-1000000) 1000000 = true := h1
    have b1 := inB_true.1 g1
    have g2 : inB y0 (-1000000) 1000000 = true := h2
    have b2 := inB_true.1 g2
    have g3 : inB y1 (-1000000) 1000000 = true := h3
    have b3 := inB_true.1 g3
    clear e h0 h1 h2 h3
    go_enter Try.func14, Try.ntmps14
    go_wp2_with (first | (go_at_call 37; refine (blendP_any _ _ _ _ _ _).mono ?_; rintro e w' ⟨rfl, nb, rfl⟩; rw [E.out]) | (first | (go_at_call 38; refine (l00In_any _ _ _ _).mono ?_; rintro e w' ⟨rfl, rfl⟩) | (go_at_call 39; refine (within_any _ _ _ _).mono ?_; rintro e w' ⟨rfl, rfl⟩) | (go_at_call 50; refine (l01Div_any _ _ _ (by omega) (by omega) (by omega) (by omega) (by omega)).mono ?_; rintro e w' ⟨rfl, rfl⟩) | (go_at_call 51; refine (divRound_any _ _ _ (by omega) (by omega) (by omega) (by omega) (by omega)).mono ?_; rintro e w' ⟨rfl, nq, rfl⟩) | (go_at_call 59; refine (l01Line_any _ _ _ _ _ _ (by omega) (by omega) (by omega) (by omega) (by omega) (by omega) (by omega) (by omega)).mono ?_; rintro e w' ⟨rfl, nl, rfl⟩) | (go_at_call 60; refine (blend_any _ _ _ _ _ _ (by omega) (by omega) (by omega) (by omega) (by omega) (by omega) (by omega) (by omega)).mono ?_; rintro e w' ⟨rfl, nb, rfl⟩) | go_in))
    all_goals go_ret
    all_goals exact ⟨rfl, by repeat (first | exact Below.refl _ _ | apply below_drewN | apply Below.drew | (refine Below.alloc ?_ (by simp) _) | (refine Below.setCell ?_ (by simp) _))⟩

/-! ### the row of FnExactBlend: the arguments are opened, the walk is met, each argument reads behind the call as before -/
namespace fnExactBlend
open Go.ChangeShapes Go.WideShapes Go.ChangeAt Go.RowKit Go.Joins
open Go.ChangeMaps (open_string shut_string)
set_option linter.unusedVariables false
set_option maxRecDepth 100000 in
theorem lifted (os : Os) (started : os.Started) (H : Type) (enc : TypeId × Value → H) :
    ReturnsInHanded {} Try.checked os 14 .any (Rows.fnExactBlendSpec.pre6 enc Try.prog Try.f14 Rows.fnExactBlendRow.domain false) (Rows.fnExactBlendSpec.post enc Try.prog Try.f14 false true false false) := by
  refine returnsInHanded_of_change (C := Try.checked) own started (by kernel_rfl) Try.func14
    (ChangeSpec.witness6 (enc := enc) (C := Try.checked) false ⟨#[], #[.int .i64 0, .int .i64 0, .int .i64 0, .int .i64 0, .int .i64 0], []⟩ 8 (by kernel_rfl) (by kernel_rfl) (by kernel_rfl) (by kernel_rfl)) ?_
  intro W base args ds gs before hval0 hW hcnd _
  have hval : ∀ (j : Nat) t v, Try.f14.params[j]? = some t → args[j]? = some v → Value.okWide Try.prog W .any base t v := hval0
  have hW' := hW
  obtain ⟨p, q, hA0, hV, rfl, hfz, hnd⟩ := hW
  have hA : DataW.TrodAll enc Try.prog W 0 (fun _ => true) true Try.f14.params.toList args.toList ds p := hA0
  rw [Try.params14] at hA hval
  obtain ⟨v0, vs0, d0, ds0, p0, q0, hargs, rfl, rfl, h0, r0⟩ := trodAll_cons hA
  obtain ⟨v1, vs1, d1, ds1, p1, q1, rfl, rfl, rfl, h1, r1⟩ := trodAll_cons r0
  obtain ⟨v2, vs2, d2, ds2, p2, q2, rfl, rfl, rfl, h2, r2⟩ := trodAll_cons r1
  obtain ⟨v3, vs3, d3, ds3, p3, q3, rfl, rfl, rfl, h3, r3⟩ := trodAll_cons r2
  obtain ⟨v4, vs4, d4, ds4, p4, q4, rfl, rfl, rfl, h4, r4⟩ := trodAll_cons r3
  obtain ⟨rfl, rfl, rfl⟩ := trodAll_nil r4
  obtain rfl : args = #[v0, v1, v2, v3, v4] := by cases args; simp_all
  obtain ⟨rfl, rfl⟩ := trodVars_none hV
  clear hA0 hval0
  simp only [List.append_nil] at hW'
  have lt0 : ∀ x ∈ p0, x.block < W.heap.size := fun x hx => by simpa using hW'.lt x (by simp [hx])
  have k0 := h0
  have lt1 : ∀ x ∈ p1, x.block < W.heap.size := fun x hx => by simpa using hW'.lt x (by simp [hx])
  have k1 := h1
  have lt2 : ∀ x ∈ p2, x.block < W.heap.size := fun x hx => by simpa using hW'.lt x (by simp [hx])
  have k2 := h2
  have lt3 : ∀ x ∈ p3, x.block < W.heap.size := fun x hx => by simpa using hW'.lt x (by simp [hx])
  have k3 := h3
  have lt4 : ∀ x ∈ p4, x.block < W.heap.size := fun x hx => by simpa using hW'.lt x (by simp [hx])
  have k4 := h4
  obtain ⟨a0, rfl, rfl, rfl, w0⟩ := open_int Try.underlying2 (hval 0 2 v0 rfl rfl) h0
  obtain ⟨a1, rfl, rfl, rfl, w1⟩ := open_int Try.underlying2 (hval 1 2 v1 rfl rfl) h1
  obtain ⟨a2, rfl, rfl, rfl, w2⟩ := open_int Try.underlying2 (hval 2 2 v2 rfl rfl) h2
  obtain ⟨a3, rfl, rfl, rfl, w3⟩ := open_int Try.underlying2 (hval 3 2 v3 rfl rfl) h3
  obtain ⟨a4, rfl, rfl, rfl, w4⟩ := open_int Try.underlying2 (hval 4 2 v4 rfl rfl) h4
  refine (law_Blend a0 (wf_bd w0) a1 (wf_bd w1) a2 (wf_bd w2) a3 (wf_bd w3) a4 (wf_bd w4) W).mono fun e W' ⟨he, hb⟩ => ?_
  subst he
  exact ⟨_, rfl, _, _, _, _, _, [], hW', (trodAll_cons_mk (shut_bool Try.underlying4 _) trodAll_mk0), (trodAll_cons_mk (Below.trod laidOut (by kernel_rfl) (of_decide_eq_true (by kernel_rfl)) k0 hb lt0) (trodAll_cons_mk (Below.trod laidOut (by kernel_rfl) (of_decide_eq_true (by kernel_rfl)) k1 hb lt1) (trodAll_cons_mk (Below.trod laidOut (by kernel_rfl) (of_decide_eq_true (by kernel_rfl)) k2 hb lt2) (trodAll_cons_mk (Below.trod laidOut (by kernel_rfl) (of_decide_eq_true (by kernel_rfl)) k3 hb lt3) (trodAll_cons_mk (Below.trod laidOut (by kernel_rfl) (of_decide_eq_true (by kernel_rfl)) k4 hb lt4) trodAll_mk0))))), rfl, hb.frame _, fun h => by cases h⟩

theorem proved : Rows.FnExactBlendSaid :=
  OpenClaim.holds_of_wide 14 Try.f14 rfl rfl rfl rfl rfl rfl rfl ⟨rfl, rfl, rfl, rfl, rfl⟩ rfl rfl rfl rfl rfl (by kernel_rfl) Try.func14 (by kernel_rfl)
    (of_decide_eq_true (by kernel_rfl)) (by unfold Func.isWrapper; first | (rw [if_pos (by decide +kernel)]; kernel_rfl) | (rw [if_neg (by decide +kernel)]; exact ⟨rfl, rfl⟩))
    (fun os started H enc _ => lifted os started H enc)
#print axioms proved
end fnExactBlend
end Go.Proofs.Ytkhfofnggfejmaa
