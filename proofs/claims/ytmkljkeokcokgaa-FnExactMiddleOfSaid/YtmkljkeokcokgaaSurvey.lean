/-
  The contracts of the survey tests and bounds of both texts.
-/
import Derived.Test.YtmkljkeokcokgaaName
import Derived.Test.YtmkljkeokcokgaaMono
namespace Go.Proofs.Ytmkljkeokcokgaa
open Go.RowKit
set_option linter.unusedVariables false

def minI (a b : Int) : Int := if a < b then a else b
def maxI (a b : Int) : Int := if b < a then a else b
theorem l00Min_any (a b : Int) (w : World) : Calls Try.prog 60 #[.int .i64 a, .int .i64 b] w fun e w' => e = .returned (.int .i64 (minI a b)) ∧ w = w' := by
  go_enter Try.func60, Try.ntmps60
  go_wp2
  all_goals go_ret
  all_goals exact ⟨ret_int (by unfold minI; split <;> omega), rfl⟩
theorem l00Max_any (a b : Int) (w : World) : Calls Try.prog 61 #[.int .i64 a, .int .i64 b] w fun e w' => e = .returned (.int .i64 (maxI a b)) ∧ w = w' := by
  go_enter Try.func61, Try.ntmps61
  go_wp2
  all_goals go_ret
  all_goals exact ⟨ret_int (by unfold maxI; split <;> omega), rfl⟩
theorem asResistance_any (a : Int) (w : World) : Calls Try.prog 62 #[.int .i64 a] w fun e w' => e = .returned (.int .i64 (minI 1000000 (maxI 1 a))) ∧ w = w' := by
  go_enter Try.func62, Try.ntmps62
  go_wp2
  all_goals go_ret
  all_goals exact ⟨ret_int (by unfold minI maxI; split <;> split <;> omega), rfl⟩

def survB (a : ByteArray) (d de f fe : Int) : Bool := nameB a.data.toList && (inB d 0 10000 && (inB de 0 10000 && (inB f 1 100000 && inB fe 0 (f - 1))))

theorem validSurvey_any (a : ByteArray) (d de f fe : Int) (ha : a.size ≤ maxLen) (w : World)  :
    Calls Try.prog 26 #[.agg #[.string a, .int .i64 d, .int .i64 de, .int .i64 f, .int .i64 fe]] w fun e w' => e = .returned (.bool (survB a d de f fe)) ∧ ∃ (c : Array Value) (t : TypeId), w' = w.alloc (.cells c t) := by
  by_cases g0 : nameB a.data.toList = true
  · have _ := 0
    by_cases g1 : inB d 0 10000 = true
    · have b1 := inB_true.1 g1
      by_cases g2 : inB de 0 10000 = true
      · have b2 := inB_true.1 g2
        by_cases g3 : inB f 1 100000 = true
        · have b3 := inB_true.1 g3
          go_enter Try.func26, Try.ntmps26
          go_wp2_with (first | (go_at_call 57; refine (isNameP_any _ _ ha).mono ?_; rintro e w' ⟨rfl, rfl⟩) | (first | (go_at_call 50; refine (l00In_any _ _ _ _).mono ?_; rintro e w' ⟨rfl, rfl⟩) | (go_at_call 52; refine (within_any _ _ _ _).mono ?_; rintro e w' ⟨rfl, rfl⟩) | (go_at_call 47; refine (l01Div_any _ _ _ (by omega) (by omega) (by omega) (by omega) (by omega)).mono ?_; rintro e w' ⟨rfl, rfl⟩) | (go_at_call 63; refine (divRound_any _ _ _ (by omega) (by omega) (by omega) (by omega) (by omega)).mono ?_; rintro e w' ⟨rfl, nq, rfl⟩) | go_in))
          all_goals go_ret
          all_goals exact ⟨ret_bool (by simp [survB, *]), _, _, rfl⟩
        · simp only [Bool.not_eq_true] at g3
          go_enter Try.func26, Try.ntmps26
          go_wp2_with (first | (go_at_call 57; refine (isNameP_any _ _ ha).mono ?_; rintro e w' ⟨rfl, rfl⟩) | (first | (go_at_call 50; refine (l00In_any _ _ _ _).mono ?_; rintro e w' ⟨rfl, rfl⟩) | (go_at_call 52; refine (within_any _ _ _ _).mono ?_; rintro e w' ⟨rfl, rfl⟩) | (go_at_call 47; refine (l01Div_any _ _ _ (by omega) (by omega) (by omega) (by omega) (by omega)).mono ?_; rintro e w' ⟨rfl, rfl⟩) | (go_at_call 63; refine (divRound_any _ _ _ (by omega) (by omega) (by omega) (by omega) (by omega)).mono ?_; rintro e w' ⟨rfl, nq, rfl⟩) | go_in))
          all_goals go_ret
          all_goals exact ⟨ret_bool (by simp [survB, *]), _, _, rfl⟩
      · simp only [Bool.not_eq_true] at g2
        go_enter Try.func26, Try.ntmps26
        go_wp2_with (first | (go_at_call 57; refine (isNameP_any _ _ ha).mono ?_; rintro e w' ⟨rfl, rfl⟩) | (first | (go_at_call 50; refine (l00In_any _ _ _ _).mono ?_; rintro e w' ⟨rfl, rfl⟩) | (go_at_call 52; refine (within_any _ _ _ _).mono ?_; rintro e w' ⟨rfl, rfl⟩) | (go_at_call 47; refine (l01Div_any _ _ _ (by omega) (by omega) (by omega) (by omega) (by omega)).mono ?_; rintro e w' ⟨rfl, rfl⟩) | (go_at_call 63; refine (divRound_any _ _ _ (by omega) (by omega) (by omega) (by omega) (by omega)).mono ?_; rintro e w' ⟨rfl, nq, rfl⟩) | go_in))
        all_goals go_ret
        all_goals exact ⟨ret_bool (by simp [survB, *]), _, _, rfl⟩
    · simp only [Bool.not_eq_true] at g1
      go_enter Try.func26, Try.ntmps26
      go_wp2_with (first | (go_at_call 57; refine (isNameP_any _ _ ha).mono ?_; rintro e w' ⟨rfl, rfl⟩) | (first | (go_at_call 50; refine (l00In_any _ _ _ _).mono ?_; rintro e w' ⟨rfl, rfl⟩) | (go_at_call 52; refine (within_any _ _ _ _).mono ?_; rintro e w' ⟨rfl, rfl⟩) | (go_at_call 47; refine (l01Div_any _ _ _ (by omega) (by omega) (by omega) (by omega) (by omega)).mono ?_; rintro e w' ⟨rfl, rfl⟩) | (go_at_call 63; refine (divRound_any _ _ _ (by omega) (by omega) (by omega) (by omega) (by omega)).mono ?_; rintro e w' ⟨rfl, nq, rfl⟩) | go_in))
      all_goals go_ret
      all_goals exact ⟨ret_bool (by simp [survB, *]), _, _, rfl⟩
  · simp only [Bool.not_eq_true] at g0
    go_enter Try.func26, Try.ntmps26
    go_wp2_with (first | (go_at_call 57; refine (isNameP_any _ _ ha).mono ?_; rintro e w' ⟨rfl, rfl⟩) | (first | (go_at_call 50; refine (l00In_any _ _ _ _).mono ?_; rintro e w' ⟨rfl, rfl⟩) | (go_at_call 52; refine (within_any _ _ _ _).mono ?_; rintro e w' ⟨rfl, rfl⟩) | (go_at_call 47; refine (l01Div_any _ _ _ (by omega) (by omega) (by omega) (by omega) (by omega)).mono ?_; rintro e w' ⟨rfl, rfl⟩) | (go_at_call 63; refine (divRound_any _ _ _ (by omega) (by omega) (by omega) (by omega) (by omega)).mono ?_; rintro e w' ⟨rfl, nq, rfl⟩) | go_in))
    all_goals go_ret
    all_goals exact ⟨ret_bool (by simp [survB, *]), _, _, rfl⟩



set_option maxHeartbeats 1600000 in
theorem l05One_any (b : Nat) (a : ByteArray) (d de f fe : Int) (ha : a.size ≤ maxLen) (w : World) (c0 : w.cell? ⟨b, 0, none⟩ = some (.string a)) (c1 : w.cell? ⟨b, 1, none⟩ = some (.int .i64 d)) (c2 : w.cell? ⟨b, 2, none⟩ = some (.int .i64 de)) (c3 : w.cell? ⟨b, 3, none⟩ = some (.int .i64 f)) (c4 : w.cell? ⟨b, 4, none⟩ = some (.int .i64 fe)) :
    Calls Try.prog 56 #[.pointer (some ⟨b, 0, none⟩)] w fun e w' => e = .returned (.bool (survB a d de f fe)) ∧ ∃ q, w' = w.drewN q := by
  by_cases g0 : nameB a.data.toList = true
  · have _ := 0
    by_cases g1 : inB d 0 10000 = true
    · have b1 := inB_true.1 g1
      by_cases g2 : inB de 0 10000 = true
      · have b2 := inB_true.1 g2
        by_cases g3 : inB f 1 100000 = true
        · have b3 := inB_true.1 g3
          have e1 : IntKind.i64.wrap (f - 1) = f - 1 := IntWalk.i64_in _ (by omega)
          go_enter Try.func56, Try.ntmps56
          go_wp2_with fail
          go_quiet ((first | (go_at_call 50; first | with_reducible exact quiet_left (l00In_is _ _ _ _ _ g1) | with_reducible exact quiet_left (l00In_is _ _ _ _ _ g2) | with_reducible exact quiet_left (l00In_is _ _ _ _ _ g3) | with_reducible exact quiet_left (l00In_is _ _ _ _ _ g4) | exact quiet_left (l00In_any _ _ _ _)) | (go_at_call 79; exact quiet_left (l01Name_is _ _ ha _ g0))))
          go_wp2_with fail
          go_ret
          exact ⟨ret_bool (by simp [survB, *]), _, rfl⟩
        · simp only [Bool.not_eq_true] at g3
          go_enter Try.func56, Try.ntmps56
          go_wp2_with fail
          go_quiet ((first | (go_at_call 50; first | with_reducible exact quiet_left (l00In_is _ _ _ _ _ g1) | with_reducible exact quiet_left (l00In_is _ _ _ _ _ g2) | with_reducible exact quiet_left (l00In_is _ _ _ _ _ g3) | with_reducible exact quiet_left (l00In_is _ _ _ _ _ g4) | exact quiet_left (l00In_any _ _ _ _)) | (go_at_call 79; exact quiet_left (l01Name_is _ _ ha _ g0))))
          go_wp2_with fail
          go_ret
          exact ⟨ret_bool (by simp [survB, *]), _, rfl⟩
      · simp only [Bool.not_eq_true] at g2
        go_enter Try.func56, Try.ntmps56
        go_wp2_with fail
        go_quiet ((first | (go_at_call 50; first | with_reducible exact quiet_left (l00In_is _ _ _ _ _ g1) | with_reducible exact quiet_left (l00In_is _ _ _ _ _ g2) | with_reducible exact quiet_left (l00In_is _ _ _ _ _ g3) | with_reducible exact quiet_left (l00In_is _ _ _ _ _ g4) | exact quiet_left (l00In_any _ _ _ _)) | (go_at_call 79; exact quiet_left (l01Name_is _ _ ha _ g0))))
        go_wp2_with fail
        go_ret
        exact ⟨ret_bool (by simp [survB, *]), _, rfl⟩
    · simp only [Bool.not_eq_true] at g1
      go_enter Try.func56, Try.ntmps56
      go_wp2_with fail
      go_quiet ((first | (go_at_call 50; first | with_reducible exact quiet_left (l00In_is _ _ _ _ _ g1) | with_reducible exact quiet_left (l00In_is _ _ _ _ _ g2) | with_reducible exact quiet_left (l00In_is _ _ _ _ _ g3) | with_reducible exact quiet_left (l00In_is _ _ _ _ _ g4) | exact quiet_left (l00In_any _ _ _ _)) | (go_at_call 79; exact quiet_left (l01Name_is _ _ ha _ g0))))
      go_wp2_with fail
      go_ret
      exact ⟨ret_bool (by simp [survB, *]), _, rfl⟩
  · simp only [Bool.not_eq_true] at g0
    go_enter Try.func56, Try.ntmps56
    go_wp2_with fail
    go_quiet ((first | (go_at_call 50; first | with_reducible exact quiet_left (l00In_is _ _ _ _ _ g1) | with_reducible exact quiet_left (l00In_is _ _ _ _ _ g2) | with_reducible exact quiet_left (l00In_is _ _ _ _ _ g3) | with_reducible exact quiet_left (l00In_is _ _ _ _ _ g4) | exact quiet_left (l00In_any _ _ _ _)) | (go_at_call 79; exact quiet_left (l01Name_is _ _ ha _ g0))))
    go_wp2_with fail
    go_ret
    exact ⟨ret_bool (by simp [survB, *]), _, rfl⟩

theorem surv_bd {a : ByteArray} {d de f fe : Int} (h : survB a d de f fe = true) : (0 ≤ d ∧ d ≤ 10000) ∧ (0 ≤ de ∧ de ≤ 10000) ∧ (1 ≤ f ∧ f ≤ 100000) ∧ 0 ≤ fe ∧ fe ≤ f - 1 := by
  unfold survB at h
  simp only [Bool.and_eq_true] at h
  obtain ⟨_, h1, h2, h3, h4⟩ := h
  exact ⟨inB_true.1 h1, inB_true.1 h2, inB_true.1 h3, inB_true.1 h4⟩
def lowF (d de f fe : Int) : Int := minI 1000000 (maxI 1 (maxI 0 (d - de) * 10000000000 / ((f + fe) * (f + fe))))
def highF (d de f fe : Int) : Int := minI 1000000 (maxI 1 (((d + de) * 10000000000 + (f - fe) * (f - fe) - 1) / ((f - fe) * (f - fe))))
theorem sq_bd2 (a A : Int) (h0 : 1 ≤ a) (h : a ≤ A) : 1 ≤ a * a ∧ a * a ≤ A * A :=
  ⟨Int.le_trans (by omega) (Int.mul_le_mul h0 h0 (by omega) (by omega) : (1 : Int) * 1 ≤ a * a), Int.mul_le_mul h h (by omega) (by omega)⟩

theorem divUp_any (a b : Int) (w : World) (h0 : 0 ≤ a) (h1 : a ≤ 1000000000000000000) (h2 : 1 ≤ b) (h3 : b ≤ 1000000000000000000) :
    Calls Try.prog 81 #[.int .i64 a, .int .i64 b] w fun e w' => e = .returned (.int .i64 ((a + b - 1) / b)) ∧ w = w' := by
  go_enter Try.func81, Try.ntmps81
  go_wp2
  go_ret
  exact ⟨rfl, rfl⟩
theorem ret2 {a a' b b' : Int} (h : a = a') (h' : b = b') : Ending.returned (.tuple #[.int .i64 a, .int .i64 b]) = .returned (.tuple #[.int .i64 a', .int .i64 b']) := by rw [h, h']

theorem bounds_any (a : ByteArray) (d de f fe : Int) (w : World) (h : survB a d de f fe = true) :
    Calls Try.prog 59 #[.agg #[.string a, .int .i64 d, .int .i64 de, .int .i64 f, .int .i64 fe]] w fun e w' => e = .returned (.tuple #[.int .i64 (lowF d de f fe), .int .i64 (highF d de f fe)]) ∧ ∃ (c : Array Value) (t : TypeId) (q : Nat), w' = (w.alloc (.cells c t)).drewN q := by
  obtain ⟨⟨b1, b2⟩, ⟨b3, b4⟩, ⟨b5, b6⟩, b7, b8⟩ := surv_bd h
  have s1 := sq_bd2 (f + fe) 199999 (by omega) (by omega)
  have s2 := sq_bd2 (f - fe) 100000 (by omega) (by omega)
  clear h
  by_cases hd : d - de < 0
  · have e1 := Lib.hid (show maxI 0 (d - de) = 0 by unfold maxI; split <;> omega)
    go_enter Try.func59, Try.ntmps59
    go_wp2_with fail
    go_quiet (fail)
    go_wp2_with fail
    have q1 : IntKind.i64.wrap (d + de) = d + de := IntWalk.i64_in _ (by omega)
    have q2 : IntKind.i64.wrap ((d + de) * 10000000000) = (d + de) * 10000000000 := IntWalk.i64_in _ (by omega)
    have q3 : IntKind.i64.wrap ((f - fe) * (f - fe)) = (f - fe) * (f - fe) := IntWalk.i64_in _ (by omega)
    have q4 : 0 ≤ (d + de) * 10000000000 ∧ (d + de) * 10000000000 ≤ 200000000000000 := by omega
    go_quiet ((first | (go_at_call 62; exact quiet_add_left (asResistance_any _ _)) | (go_at_call 81; exact quiet_add_left (divUp_any _ _ _ (by omega) (by omega) (by omega) (by omega)))))
    go_wp2_with fail
    go_ret2
    exact ⟨ret2 (by unfold lowF; rw [e1.out]; simp) rfl, _, _, _, by rw [World.drewN_drewN]⟩
  · have e1 := Lib.hid (show maxI 0 (d - de) = d - de by unfold maxI; split <;> omega)
    go_enter Try.func59, Try.ntmps59
    go_wp2_with fail
    go_quiet (fail)
    go_wp2_with fail
    have q1 : IntKind.i64.wrap (d + de) = d + de := IntWalk.i64_in _ (by omega)
    have q2 : IntKind.i64.wrap ((d + de) * 10000000000) = (d + de) * 10000000000 := IntWalk.i64_in _ (by omega)
    have q3 : IntKind.i64.wrap ((f - fe) * (f - fe)) = (f - fe) * (f - fe) := IntWalk.i64_in _ (by omega)
    have q4 : 0 ≤ (d + de) * 10000000000 ∧ (d + de) * 10000000000 ≤ 200000000000000 := by omega
    go_quiet ((first | (go_at_call 62; exact quiet_add_left (asResistance_any _ _)) | (go_at_call 81; exact quiet_add_left (divUp_any _ _ _ (by omega) (by omega) (by omega) (by omega)))))
    go_wp2_with fail
    go_ret2
    exact ⟨ret2 (by unfold lowF; rw [e1.out]) rfl, _, _, _, by rw [World.drewN_drewN]⟩

end Go.Proofs.Ytmkljkeokcokgaa
