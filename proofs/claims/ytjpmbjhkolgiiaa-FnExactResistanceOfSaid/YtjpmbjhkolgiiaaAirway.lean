/-
  The contracts of the airway tests of both texts, and of toAirway.
-/
import Derived.Test.YtjpmbjhkolgiiaaName
import Derived.Test.YtjpmbjhkolgiiaaMono
namespace Go.Proofs.Ytjpmbjhkolgiiaa
open Go.RowKit
set_option linter.unusedVariables false

def airB (a : ByteArray) (u v l s f k : Int) : Bool := nameB a.data.toList && (inB u 0 15 && (inB v 0 15 && ((u != v) && (inB l 1 10000 && (inB s 50 5000 && (inB f 1 1000 && inB k 0 1000))))))
theorem air_bd {a : ByteArray} {u v l s f k : Int} (h : airB a u v l s f k = true) : (0 ≤ u ∧ u ≤ 15) ∧ (0 ≤ v ∧ v ≤ 15) ∧ u ≠ v ∧ (1 ≤ l ∧ l ≤ 10000) ∧ (50 ≤ s ∧ s ≤ 5000) ∧ (1 ≤ f ∧ f ≤ 1000) ∧ 0 ≤ k ∧ k ≤ 1000 := by
  unfold airB at h
  simp only [Bool.and_eq_true, bne_iff_ne] at h
  obtain ⟨_, h1, h2, h3, h4, h5, h6, h7⟩ := h
  exact ⟨inB_true.1 h1, inB_true.1 h2, h3, inB_true.1 h4, inB_true.1 h5, inB_true.1 h6, inB_true.1 h7⟩

theorem below_keep {W w1 : World} (hb : Below W.heap.size W w1) :
    (∀ b o, b < W.heap.size → w1.cell? ⟨b, o, none⟩ = W.cell? ⟨b, o, none⟩) ∧ (∀ b o, b < W.heap.size → w1.frozen? ⟨b, o, none⟩ = W.frozen? ⟨b, o, none⟩) :=
  ⟨fun b o h => hb.cell (p := ⟨b, o, none⟩) h, fun b o h => hb.frozen (p := ⟨b, o, none⟩) h⟩

theorem toAirway_any (a : ByteArray) (u v l s f k : Int) (w : World) :
    Calls Try.prog 32 #[.agg #[.string a, .int .i64 u, .int .i64 v, .int .i64 l, .int .i64 s, .int .i64 f, .int .i64 k]] w fun e w' => e = .returned (.agg #[.string a, .int .i64 u, .int .i64 v, .int .i64 l, .int .i64 s, .int .i64 f, .int .i64 k]) ∧ ∃ (c1 c2 c3 : Array Value) (t1 t2 t3 : TypeId), w' = ((w.alloc (.cells c1 t1)).alloc (.cells c2 t2)).alloc (.cells c3 t3) := by
  go_enter Try.func32, Try.ntmps32
  go_wp2
  simp [bodyPost, results, Try.results32, go_sem]
  exact ⟨_, _, _, _, _, _, rfl⟩

set_option maxHeartbeats 800000 in
theorem validAirway_any (a : ByteArray) (u v l s f k : Int) (ha : a.size ≤ maxLen) (w : World)  :
    Calls Try.prog 33 #[.agg #[.string a, .int .i64 u, .int .i64 v, .int .i64 l, .int .i64 s, .int .i64 f, .int .i64 k]] w fun e w' => e = .returned (.bool (airB a u v l s f k)) ∧ ∃ (c : Array Value) (t : TypeId), w' = w.alloc (.cells c t) := by
  by_cases g0 : nameB a.data.toList = true
  · have _ := 0
    by_cases g1 : inB u 0 15 = true
    · have b1 := inB_true.1 g1
      by_cases g2 : inB v 0 15 = true
      · have b2 := inB_true.1 g2
        by_cases g3 : (u != v) = true
        · have _ := 0
          have c3_ : (u == v) = false := by simpa using g3
          have d3_ : ¬ u = v := by simpa using g3
          by_cases g4 : inB l 1 10000 = true
          · have b4 := inB_true.1 g4
            by_cases g5 : inB s 50 5000 = true
            · have b5 := inB_true.1 g5
              by_cases g6 : inB f 1 1000 = true
              · have b6 := inB_true.1 g6
                go_enter Try.func33, Try.ntmps33
                go_wp2_with (first | (go_at_call 71; refine (isNameP_any _ _ ha).mono ?_; rintro e w' ⟨rfl, rfl⟩) | (first | (go_at_call 69; refine (l00In_any _ _ _ _).mono ?_; rintro e w' ⟨rfl, rfl⟩) | (go_at_call 73; refine (within_any _ _ _ _).mono ?_; rintro e w' ⟨rfl, rfl⟩) | (go_at_call 76; refine (l01Div_any _ _ _ (by omega) (by omega) (by omega) (by omega) (by omega)).mono ?_; rintro e w' ⟨rfl, rfl⟩) | (go_at_call 51; refine (divRound_any _ _ _ (by omega) (by omega) (by omega) (by omega) (by omega)).mono ?_; rintro e w' ⟨rfl, nq, rfl⟩) | go_in))
                all_goals go_ret
                all_goals exact ⟨ret_bool (by simp [airB, *]), _, _, rfl⟩
              · simp only [Bool.not_eq_true] at g6
                go_enter Try.func33, Try.ntmps33
                go_wp2_with (first | (go_at_call 71; refine (isNameP_any _ _ ha).mono ?_; rintro e w' ⟨rfl, rfl⟩) | (first | (go_at_call 69; refine (l00In_any _ _ _ _).mono ?_; rintro e w' ⟨rfl, rfl⟩) | (go_at_call 73; refine (within_any _ _ _ _).mono ?_; rintro e w' ⟨rfl, rfl⟩) | (go_at_call 76; refine (l01Div_any _ _ _ (by omega) (by omega) (by omega) (by omega) (by omega)).mono ?_; rintro e w' ⟨rfl, rfl⟩) | (go_at_call 51; refine (divRound_any _ _ _ (by omega) (by omega) (by omega) (by omega) (by omega)).mono ?_; rintro e w' ⟨rfl, nq, rfl⟩) | go_in))
                all_goals go_ret
                all_goals exact ⟨ret_bool (by simp [airB, *]), _, _, rfl⟩
            · simp only [Bool.not_eq_true] at g5
              go_enter Try.func33, Try.ntmps33
              go_wp2_with (first | (go_at_call 71; refine (isNameP_any _ _ ha).mono ?_; rintro e w' ⟨rfl, rfl⟩) | (first | (go_at_call 69; refine (l00In_any _ _ _ _).mono ?_; rintro e w' ⟨rfl, rfl⟩) | (go_at_call 73; refine (within_any _ _ _ _).mono ?_; rintro e w' ⟨rfl, rfl⟩) | (go_at_call 76; refine (l01Div_any _ _ _ (by omega) (by omega) (by omega) (by omega) (by omega)).mono ?_; rintro e w' ⟨rfl, rfl⟩) | (go_at_call 51; refine (divRound_any _ _ _ (by omega) (by omega) (by omega) (by omega) (by omega)).mono ?_; rintro e w' ⟨rfl, nq, rfl⟩) | go_in))
              all_goals go_ret
              all_goals exact ⟨ret_bool (by simp [airB, *]), _, _, rfl⟩
          · simp only [Bool.not_eq_true] at g4
            go_enter Try.func33, Try.ntmps33
            go_wp2_with (first | (go_at_call 71; refine (isNameP_any _ _ ha).mono ?_; rintro e w' ⟨rfl, rfl⟩) | (first | (go_at_call 69; refine (l00In_any _ _ _ _).mono ?_; rintro e w' ⟨rfl, rfl⟩) | (go_at_call 73; refine (within_any _ _ _ _).mono ?_; rintro e w' ⟨rfl, rfl⟩) | (go_at_call 76; refine (l01Div_any _ _ _ (by omega) (by omega) (by omega) (by omega) (by omega)).mono ?_; rintro e w' ⟨rfl, rfl⟩) | (go_at_call 51; refine (divRound_any _ _ _ (by omega) (by omega) (by omega) (by omega) (by omega)).mono ?_; rintro e w' ⟨rfl, nq, rfl⟩) | go_in))
            all_goals go_ret
            all_goals exact ⟨ret_bool (by simp [airB, *]), _, _, rfl⟩
        · simp only [Bool.not_eq_true] at g3
          obtain rfl : u = v := by simpa using g3
          go_enter Try.func33, Try.ntmps33
          go_wp2_with (first | (go_at_call 71; refine (isNameP_any _ _ ha).mono ?_; rintro e w' ⟨rfl, rfl⟩) | (first | (go_at_call 69; refine (l00In_any _ _ _ _).mono ?_; rintro e w' ⟨rfl, rfl⟩) | (go_at_call 73; refine (within_any _ _ _ _).mono ?_; rintro e w' ⟨rfl, rfl⟩) | (go_at_call 76; refine (l01Div_any _ _ _ (by omega) (by omega) (by omega) (by omega) (by omega)).mono ?_; rintro e w' ⟨rfl, rfl⟩) | (go_at_call 51; refine (divRound_any _ _ _ (by omega) (by omega) (by omega) (by omega) (by omega)).mono ?_; rintro e w' ⟨rfl, nq, rfl⟩) | go_in))
          all_goals go_ret
          all_goals exact ⟨ret_bool (by simp [airB, *]), _, _, rfl⟩
      · simp only [Bool.not_eq_true] at g2
        go_enter Try.func33, Try.ntmps33
        go_wp2_with (first | (go_at_call 71; refine (isNameP_any _ _ ha).mono ?_; rintro e w' ⟨rfl, rfl⟩) | (first | (go_at_call 69; refine (l00In_any _ _ _ _).mono ?_; rintro e w' ⟨rfl, rfl⟩) | (go_at_call 73; refine (within_any _ _ _ _).mono ?_; rintro e w' ⟨rfl, rfl⟩) | (go_at_call 76; refine (l01Div_any _ _ _ (by omega) (by omega) (by omega) (by omega) (by omega)).mono ?_; rintro e w' ⟨rfl, rfl⟩) | (go_at_call 51; refine (divRound_any _ _ _ (by omega) (by omega) (by omega) (by omega) (by omega)).mono ?_; rintro e w' ⟨rfl, nq, rfl⟩) | go_in))
        all_goals go_ret
        all_goals exact ⟨ret_bool (by simp [airB, *]), _, _, rfl⟩
    · simp only [Bool.not_eq_true] at g1
      go_enter Try.func33, Try.ntmps33
      go_wp2_with (first | (go_at_call 71; refine (isNameP_any _ _ ha).mono ?_; rintro e w' ⟨rfl, rfl⟩) | (first | (go_at_call 69; refine (l00In_any _ _ _ _).mono ?_; rintro e w' ⟨rfl, rfl⟩) | (go_at_call 73; refine (within_any _ _ _ _).mono ?_; rintro e w' ⟨rfl, rfl⟩) | (go_at_call 76; refine (l01Div_any _ _ _ (by omega) (by omega) (by omega) (by omega) (by omega)).mono ?_; rintro e w' ⟨rfl, rfl⟩) | (go_at_call 51; refine (divRound_any _ _ _ (by omega) (by omega) (by omega) (by omega) (by omega)).mono ?_; rintro e w' ⟨rfl, nq, rfl⟩) | go_in))
      all_goals go_ret
      all_goals exact ⟨ret_bool (by simp [airB, *]), _, _, rfl⟩
  · simp only [Bool.not_eq_true] at g0
    go_enter Try.func33, Try.ntmps33
    go_wp2_with (first | (go_at_call 71; refine (isNameP_any _ _ ha).mono ?_; rintro e w' ⟨rfl, rfl⟩) | (first | (go_at_call 69; refine (l00In_any _ _ _ _).mono ?_; rintro e w' ⟨rfl, rfl⟩) | (go_at_call 73; refine (within_any _ _ _ _).mono ?_; rintro e w' ⟨rfl, rfl⟩) | (go_at_call 76; refine (l01Div_any _ _ _ (by omega) (by omega) (by omega) (by omega) (by omega)).mono ?_; rintro e w' ⟨rfl, rfl⟩) | (go_at_call 51; refine (divRound_any _ _ _ (by omega) (by omega) (by omega) (by omega) (by omega)).mono ?_; rintro e w' ⟨rfl, nq, rfl⟩) | go_in))
    all_goals go_ret
    all_goals exact ⟨ret_bool (by simp [airB, *]), _, _, rfl⟩

set_option maxHeartbeats 1600000 in
theorem l03Ok_any (b : Nat) (a : ByteArray) (u v l s f k : Int) (ha : a.size ≤ maxLen) (w : World) (c0 : w.cell? ⟨b, 0, none⟩ = some (.string a)) (c1 : w.cell? ⟨b, 1, none⟩ = some (.int .i64 u)) (c2 : w.cell? ⟨b, 2, none⟩ = some (.int .i64 v)) (c3 : w.cell? ⟨b, 3, none⟩ = some (.int .i64 l)) (c4 : w.cell? ⟨b, 4, none⟩ = some (.int .i64 s)) (c5 : w.cell? ⟨b, 5, none⟩ = some (.int .i64 f)) (c6 : w.cell? ⟨b, 6, none⟩ = some (.int .i64 k)) :
    Calls Try.prog 70 #[.pointer (some ⟨b, 0, none⟩)] w fun e w' => e = .returned (.bool (airB a u v l s f k)) ∧ ∃ q, w' = w.drewN q := by
  by_cases g0 : nameB a.data.toList = true
  · have _ := 0
    by_cases g1 : inB u 0 15 = true
    · have b1 := inB_true.1 g1
      by_cases g2 : inB v 0 15 = true
      · have b2 := inB_true.1 g2
        by_cases g3 : (u != v) = true
        · have _ := 0
          have c3_ : (u == v) = false := by simpa using g3
          have d3_ : ¬ u = v := by simpa using g3
          by_cases g4 : inB l 1 10000 = true
          · have b4 := inB_true.1 g4
            by_cases g5 : inB s 50 5000 = true
            · have b5 := inB_true.1 g5
              by_cases g6 : inB f 1 1000 = true
              · have b6 := inB_true.1 g6
                go_enter Try.func70, Try.ntmps70
                go_wp2_with fail
                go_quiet ((first | (go_at_call 69; first | with_reducible exact quiet_left (l00In_is _ _ _ _ _ g1) | with_reducible exact quiet_left (l00In_is _ _ _ _ _ g2) | with_reducible exact quiet_left (l00In_is _ _ _ _ _ g4) | with_reducible exact quiet_left (l00In_is _ _ _ _ _ g5) | with_reducible exact quiet_left (l00In_is _ _ _ _ _ g6) | exact quiet_left (l00In_any _ _ _ _)) | (go_at_call 92; exact quiet_left (l01Name_is _ _ ha _ g0))))
                go_wp2_with (first | (go_at_call 69; refine (l00In_any _ _ _ _).mono ?_; rintro e w' ⟨rfl, rfl⟩) | (go_at_call 73; refine (within_any _ _ _ _).mono ?_; rintro e w' ⟨rfl, rfl⟩) | (go_at_call 76; refine (l01Div_any _ _ _ (by omega) (by omega) (by omega) (by omega) (by omega)).mono ?_; rintro e w' ⟨rfl, rfl⟩) | (go_at_call 51; refine (divRound_any _ _ _ (by omega) (by omega) (by omega) (by omega) (by omega)).mono ?_; rintro e w' ⟨rfl, nq, rfl⟩) | go_in)
                go_ret
                exact ⟨ret_bool (by simp [airB, *]), _, rfl⟩
              · simp only [Bool.not_eq_true] at g6
                go_enter Try.func70, Try.ntmps70
                go_wp2_with fail
                go_quiet ((first | (go_at_call 69; first | with_reducible exact quiet_left (l00In_is _ _ _ _ _ g1) | with_reducible exact quiet_left (l00In_is _ _ _ _ _ g2) | with_reducible exact quiet_left (l00In_is _ _ _ _ _ g4) | with_reducible exact quiet_left (l00In_is _ _ _ _ _ g5) | with_reducible exact quiet_left (l00In_is _ _ _ _ _ g6) | exact quiet_left (l00In_any _ _ _ _)) | (go_at_call 92; exact quiet_left (l01Name_is _ _ ha _ g0))))
                go_wp2_with (first | (go_at_call 69; refine (l00In_any _ _ _ _).mono ?_; rintro e w' ⟨rfl, rfl⟩) | (go_at_call 73; refine (within_any _ _ _ _).mono ?_; rintro e w' ⟨rfl, rfl⟩) | (go_at_call 76; refine (l01Div_any _ _ _ (by omega) (by omega) (by omega) (by omega) (by omega)).mono ?_; rintro e w' ⟨rfl, rfl⟩) | (go_at_call 51; refine (divRound_any _ _ _ (by omega) (by omega) (by omega) (by omega) (by omega)).mono ?_; rintro e w' ⟨rfl, nq, rfl⟩) | go_in)
                go_ret
                exact ⟨ret_bool (by simp [airB, *]), _, rfl⟩
            · simp only [Bool.not_eq_true] at g5
              go_enter Try.func70, Try.ntmps70
              go_wp2_with fail
              go_quiet ((first | (go_at_call 69; first | with_reducible exact quiet_left (l00In_is _ _ _ _ _ g1) | with_reducible exact quiet_left (l00In_is _ _ _ _ _ g2) | with_reducible exact quiet_left (l00In_is _ _ _ _ _ g4) | with_reducible exact quiet_left (l00In_is _ _ _ _ _ g5) | with_reducible exact quiet_left (l00In_is _ _ _ _ _ g6) | exact quiet_left (l00In_any _ _ _ _)) | (go_at_call 92; exact quiet_left (l01Name_is _ _ ha _ g0))))
              go_wp2_with (first | (go_at_call 69; refine (l00In_any _ _ _ _).mono ?_; rintro e w' ⟨rfl, rfl⟩) | (go_at_call 73; refine (within_any _ _ _ _).mono ?_; rintro e w' ⟨rfl, rfl⟩) | (go_at_call 76; refine (l01Div_any _ _ _ (by omega) (by omega) (by omega) (by omega) (by omega)).mono ?_; rintro e w' ⟨rfl, rfl⟩) | (go_at_call 51; refine (divRound_any _ _ _ (by omega) (by omega) (by omega) (by omega) (by omega)).mono ?_; rintro e w' ⟨rfl, nq, rfl⟩) | go_in)
              go_ret
              exact ⟨ret_bool (by simp [airB, *]), _, rfl⟩
          · simp only [Bool.not_eq_true] at g4
            go_enter Try.func70, Try.ntmps70
            go_wp2_with fail
            go_quiet ((first | (go_at_call 69; first | with_reducible exact quiet_left (l00In_is _ _ _ _ _ g1) | with_reducible exact quiet_left (l00In_is _ _ _ _ _ g2) | with_reducible exact quiet_left (l00In_is _ _ _ _ _ g4) | with_reducible exact quiet_left (l00In_is _ _ _ _ _ g5) | with_reducible exact quiet_left (l00In_is _ _ _ _ _ g6) | exact quiet_left (l00In_any _ _ _ _)) | (go_at_call 92; exact quiet_left (l01Name_is _ _ ha _ g0))))
            go_wp2_with (first | (go_at_call 69; refine (l00In_any _ _ _ _).mono ?_; rintro e w' ⟨rfl, rfl⟩) | (go_at_call 73; refine (within_any _ _ _ _).mono ?_; rintro e w' ⟨rfl, rfl⟩) | (go_at_call 76; refine (l01Div_any _ _ _ (by omega) (by omega) (by omega) (by omega) (by omega)).mono ?_; rintro e w' ⟨rfl, rfl⟩) | (go_at_call 51; refine (divRound_any _ _ _ (by omega) (by omega) (by omega) (by omega) (by omega)).mono ?_; rintro e w' ⟨rfl, nq, rfl⟩) | go_in)
            go_ret
            exact ⟨ret_bool (by simp [airB, *]), _, rfl⟩
        · simp only [Bool.not_eq_true] at g3
          obtain rfl : u = v := by simpa using g3
          go_enter Try.func70, Try.ntmps70
          go_wp2_with fail
          go_quiet ((first | (go_at_call 69; first | with_reducible exact quiet_left (l00In_is _ _ _ _ _ g1) | with_reducible exact quiet_left (l00In_is _ _ _ _ _ g2) | with_reducible exact quiet_left (l00In_is _ _ _ _ _ g4) | with_reducible exact quiet_left (l00In_is _ _ _ _ _ g5) | with_reducible exact quiet_left (l00In_is _ _ _ _ _ g6) | exact quiet_left (l00In_any _ _ _ _)) | (go_at_call 92; exact quiet_left (l01Name_is _ _ ha _ g0))))
          go_wp2_with (first | (go_at_call 69; refine (l00In_any _ _ _ _).mono ?_; rintro e w' ⟨rfl, rfl⟩) | (go_at_call 73; refine (within_any _ _ _ _).mono ?_; rintro e w' ⟨rfl, rfl⟩) | (go_at_call 76; refine (l01Div_any _ _ _ (by omega) (by omega) (by omega) (by omega) (by omega)).mono ?_; rintro e w' ⟨rfl, rfl⟩) | (go_at_call 51; refine (divRound_any _ _ _ (by omega) (by omega) (by omega) (by omega) (by omega)).mono ?_; rintro e w' ⟨rfl, nq, rfl⟩) | go_in)
          go_ret
          exact ⟨ret_bool (by simp [airB, *]), _, rfl⟩
      · simp only [Bool.not_eq_true] at g2
        go_enter Try.func70, Try.ntmps70
        go_wp2_with fail
        go_quiet ((first | (go_at_call 69; first | with_reducible exact quiet_left (l00In_is _ _ _ _ _ g1) | with_reducible exact quiet_left (l00In_is _ _ _ _ _ g2) | with_reducible exact quiet_left (l00In_is _ _ _ _ _ g4) | with_reducible exact quiet_left (l00In_is _ _ _ _ _ g5) | with_reducible exact quiet_left (l00In_is _ _ _ _ _ g6) | exact quiet_left (l00In_any _ _ _ _)) | (go_at_call 92; exact quiet_left (l01Name_is _ _ ha _ g0))))
        go_wp2_with (first | (go_at_call 69; refine (l00In_any _ _ _ _).mono ?_; rintro e w' ⟨rfl, rfl⟩) | (go_at_call 73; refine (within_any _ _ _ _).mono ?_; rintro e w' ⟨rfl, rfl⟩) | (go_at_call 76; refine (l01Div_any _ _ _ (by omega) (by omega) (by omega) (by omega) (by omega)).mono ?_; rintro e w' ⟨rfl, rfl⟩) | (go_at_call 51; refine (divRound_any _ _ _ (by omega) (by omega) (by omega) (by omega) (by omega)).mono ?_; rintro e w' ⟨rfl, nq, rfl⟩) | go_in)
        go_ret
        exact ⟨ret_bool (by simp [airB, *]), _, rfl⟩
    · simp only [Bool.not_eq_true] at g1
      go_enter Try.func70, Try.ntmps70
      go_wp2_with fail
      go_quiet ((first | (go_at_call 69; first | with_reducible exact quiet_left (l00In_is _ _ _ _ _ g1) | with_reducible exact quiet_left (l00In_is _ _ _ _ _ g2) | with_reducible exact quiet_left (l00In_is _ _ _ _ _ g4) | with_reducible exact quiet_left (l00In_is _ _ _ _ _ g5) | with_reducible exact quiet_left (l00In_is _ _ _ _ _ g6) | exact quiet_left (l00In_any _ _ _ _)) | (go_at_call 92; exact quiet_left (l01Name_is _ _ ha _ g0))))
      go_wp2_with (first | (go_at_call 69; refine (l00In_any _ _ _ _).mono ?_; rintro e w' ⟨rfl, rfl⟩) | (go_at_call 73; refine (within_any _ _ _ _).mono ?_; rintro e w' ⟨rfl, rfl⟩) | (go_at_call 76; refine (l01Div_any _ _ _ (by omega) (by omega) (by omega) (by omega) (by omega)).mono ?_; rintro e w' ⟨rfl, rfl⟩) | (go_at_call 51; refine (divRound_any _ _ _ (by omega) (by omega) (by omega) (by omega) (by omega)).mono ?_; rintro e w' ⟨rfl, nq, rfl⟩) | go_in)
      go_ret
      exact ⟨ret_bool (by simp [airB, *]), _, rfl⟩
  · simp only [Bool.not_eq_true] at g0
    go_enter Try.func70, Try.ntmps70
    go_wp2_with fail
    go_quiet ((first | (go_at_call 69; first | with_reducible exact quiet_left (l00In_is _ _ _ _ _ g1) | with_reducible exact quiet_left (l00In_is _ _ _ _ _ g2) | with_reducible exact quiet_left (l00In_is _ _ _ _ _ g4) | with_reducible exact quiet_left (l00In_is _ _ _ _ _ g5) | with_reducible exact quiet_left (l00In_is _ _ _ _ _ g6) | exact quiet_left (l00In_any _ _ _ _)) | (go_at_call 92; exact quiet_left (l01Name_is _ _ ha _ g0))))
    go_wp2_with (first | (go_at_call 69; refine (l00In_any _ _ _ _).mono ?_; rintro e w' ⟨rfl, rfl⟩) | (go_at_call 73; refine (within_any _ _ _ _).mono ?_; rintro e w' ⟨rfl, rfl⟩) | (go_at_call 76; refine (l01Div_any _ _ _ (by omega) (by omega) (by omega) (by omega) (by omega)).mono ?_; rintro e w' ⟨rfl, rfl⟩) | (go_at_call 51; refine (divRound_any _ _ _ (by omega) (by omega) (by omega) (by omega) (by omega)).mono ?_; rintro e w' ⟨rfl, nq, rfl⟩) | go_in)
    go_ret
    exact ⟨ret_bool (by simp [airB, *]), _, rfl⟩
end Go.Proofs.Ytjpmbjhkolgiiaa
