/-
  The contracts of the airway tests of both texts, at an airway that lies anywhere.
-/
import Derived.Test.YtgiokjflfadeeaaName
import Derived.Test.YtgiokjflfadeeaaMono
import Derived.Test.YtgiokjflfadeeaaMines
namespace Go.Proofs.Ytgiokjflfadeeaa
open Go.RowKit
set_option linter.unusedVariables false

def airB (a : ByteArray) (u v l s f k : Int) : Bool := nameB a.data.toList && (inB u 0 15 && (inB v 0 15 && ((u != v) && (inB l 1 10000 && (inB s 50 5000 && (inB f 1 1000 && inB k 0 1000))))))
theorem air_bd {a : ByteArray} {u v l s f k : Int} (h : airB a u v l s f k = true) : (0 ≤ u ∧ u ≤ 15) ∧ (0 ≤ v ∧ v ≤ 15) ∧ u ≠ v ∧ (1 ≤ l ∧ l ≤ 10000) ∧ (50 ≤ s ∧ s ≤ 5000) ∧ (1 ≤ f ∧ f ≤ 1000) ∧ 0 ≤ k ∧ k ≤ 1000 := by
  unfold airB at h
  simp only [Bool.and_eq_true, bne_iff_ne] at h
  obtain ⟨_, h1, h2, h3, h4, h5, h6, h7⟩ := h
  exact ⟨inB_true.1 h1, inB_true.1 h2, h3, inB_true.1 h4, inB_true.1 h5, inB_true.1 h6, inB_true.1 h7⟩

set_option maxHeartbeats 800000 in
theorem validAirway_any (a : ByteArray) (u v l s f k : Int) (ha : a.size ≤ maxLen) (w : World)  :
    Calls Try.prog 48 #[.agg #[.string a, .int .i64 u, .int .i64 v, .int .i64 l, .int .i64 s, .int .i64 f, .int .i64 k]] w fun e w' => e = .returned (.bool (airB a u v l s f k)) ∧ ∃ (c : Array Value) (t : TypeId), w' = w.alloc (.cells c t) := by
  by_cases g0 : nameB a.data.toList = true
  · have _ := 0
    by_cases g1 : inB u 0 15 = true
    · have b1 := inB_true.1 g1
      by_cases g2 : inB v 0 15 = true
      · have b2 := inB_true.1 g2
        by_cases g3 : (u != v) = true
        · have _ := 0
          have c3_ : (u == v) = false := by simpa using g3
          have d3_ : ¬ u = v := by simpa using g3
          by_cases g4 : inB l 1 10000 = true
          · have b4 := inB_true.1 g4
            by_cases g5 : inB s 50 5000 = true
            · have b5 := inB_true.1 g5
              by_cases g6 : inB f 1 1000 = true
              · have b6 := inB_true.1 g6
                go_enter Try.func48, Try.ntmps48
                go_wp2_with (first | (go_at_call 67; refine (isNameP_any _ _ ha).mono ?_; rintro e w' ⟨rfl, rfl⟩) | (first | (go_at_call 54; refine (l00In_any _ _ _ _).mono ?_; rintro e w' ⟨rfl, rfl⟩) | (go_at_call 57; refine (within_any _ _ _ _).mono ?_; rintro e w' ⟨rfl, rfl⟩) | go_in))
                all_goals go_ret
                all_goals exact ⟨ret_bool (by simp [airB, *]), _, _, rfl⟩
              · simp only [Bool.not_eq_true] at g6
                go_enter Try.func48, Try.ntmps48
                go_wp2_with (first | (go_at_call 67; refine (isNameP_any _ _ ha).mono ?_; rintro e w' ⟨rfl, rfl⟩) | (first | (go_at_call 54; refine (l00In_any _ _ _ _).mono ?_; rintro e w' ⟨rfl, rfl⟩) | (go_at_call 57; refine (within_any _ _ _ _).mono ?_; rintro e w' ⟨rfl, rfl⟩) | go_in))
                all_goals go_ret
                all_goals exact ⟨ret_bool (by simp [airB, *]), _, _, rfl⟩
            · simp only [Bool.not_eq_true] at g5
              go_enter Try.func48, Try.ntmps48
              go_wp2_with (first | (go_at_call 67; refine (isNameP_any _ _ ha).mono ?_; rintro e w' ⟨rfl, rfl⟩) | (first | (go_at_call 54; refine (l00In_any _ _ _ _).mono ?_; rintro e w' ⟨rfl, rfl⟩) | (go_at_call 57; refine (within_any _ _ _ _).mono ?_; rintro e w' ⟨rfl, rfl⟩) | go_in))
              all_goals go_ret
              all_goals exact ⟨ret_bool (by simp [airB, *]), _, _, rfl⟩
          · simp only [Bool.not_eq_true] at g4
            go_enter Try.func48, Try.ntmps48
            go_wp2_with (first | (go_at_call 67; refine (isNameP_any _ _ ha).mono ?_; rintro e w' ⟨rfl, rfl⟩) | (first | (go_at_call 54; refine (l00In_any _ _ _ _).mono ?_; rintro e w' ⟨rfl, rfl⟩) | (go_at_call 57; refine (within_any _ _ _ _).mono ?_; rintro e w' ⟨rfl, rfl⟩) | go_in))
            all_goals go_ret
            all_goals exact ⟨ret_bool (by simp [airB, *]), _, _, rfl⟩
        · simp only [Bool.not_eq_true] at g3
          obtain rfl : u = v := by simpa using g3
          go_enter Try.func48, Try.ntmps48
          go_wp2_with (first | (go_at_call 67; refine (isNameP_any _ _ ha).mono ?_; rintro e w' ⟨rfl, rfl⟩) | (first | (go_at_call 54; refine (l00In_any _ _ _ _).mono ?_; rintro e w' ⟨rfl, rfl⟩) | (go_at_call 57; refine (within_any _ _ _ _).mono ?_; rintro e w' ⟨rfl, rfl⟩) | go_in))
          all_goals go_ret
          all_goals exact ⟨ret_bool (by simp [airB, *]), _, _, rfl⟩
      · simp only [Bool.not_eq_true] at g2
        go_enter Try.func48, Try.ntmps48
        go_wp2_with (first | (go_at_call 67; refine (isNameP_any _ _ ha).mono ?_; rintro e w' ⟨rfl, rfl⟩) | (first | (go_at_call 54; refine (l00In_any _ _ _ _).mono ?_; rintro e w' ⟨rfl, rfl⟩) | (go_at_call 57; refine (within_any _ _ _ _).mono ?_; rintro e w' ⟨rfl, rfl⟩) | go_in))
        all_goals go_ret
        all_goals exact ⟨ret_bool (by simp [airB, *]), _, _, rfl⟩
    · simp only [Bool.not_eq_true] at g1
      go_enter Try.func48, Try.ntmps48
      go_wp2_with (first | (go_at_call 67; refine (isNameP_any _ _ ha).mono ?_; rintro e w' ⟨rfl, rfl⟩) | (first | (go_at_call 54; refine (l00In_any _ _ _ _).mono ?_; rintro e w' ⟨rfl, rfl⟩) | (go_at_call 57; refine (within_any _ _ _ _).mono ?_; rintro e w' ⟨rfl, rfl⟩) | go_in))
      all_goals go_ret
      all_goals exact ⟨ret_bool (by simp [airB, *]), _, _, rfl⟩
  · simp only [Bool.not_eq_true] at g0
    go_enter Try.func48, Try.ntmps48
    go_wp2_with (first | (go_at_call 67; refine (isNameP_any _ _ ha).mono ?_; rintro e w' ⟨rfl, rfl⟩) | (first | (go_at_call 54; refine (l00In_any _ _ _ _).mono ?_; rintro e w' ⟨rfl, rfl⟩) | (go_at_call 57; refine (within_any _ _ _ _).mono ?_; rintro e w' ⟨rfl, rfl⟩) | go_in))
    all_goals go_ret
    all_goals exact ⟨ret_bool (by simp [airB, *]), _, _, rfl⟩

set_option maxHeartbeats 1600000 in
theorem l03Ok_any (b o : Nat) (a : ByteArray) (u v l s f k : Int) (ha : a.size ≤ maxLen) (w : World) (c0 : w.cell? ⟨b, o, none⟩ = some (.string a)) (c1 : w.cell? ⟨b, o + 1, none⟩ = some (.int .i64 u)) (c2 : w.cell? ⟨b, o + 2, none⟩ = some (.int .i64 v)) (c3 : w.cell? ⟨b, o + 3, none⟩ = some (.int .i64 l)) (c4 : w.cell? ⟨b, o + 4, none⟩ = some (.int .i64 s)) (c5 : w.cell? ⟨b, o + 5, none⟩ = some (.int .i64 f)) (c6 : w.cell? ⟨b, o + 6, none⟩ = some (.int .i64 k)) :
    Calls Try.prog 47 #[.pointer (some ⟨b, o, none⟩)] w fun e w' => e = .returned (.bool (airB a u v l s f k)) ∧ ∃ q, w' = w.drewN q := by
  by_cases g0 : nameB a.data.toList = true
  · have _ := 0
    by_cases g1 : inB u 0 15 = true
    · have b1 := inB_true.1 g1
      by_cases g2 : inB v 0 15 = true
      · have b2 := inB_true.1 g2
        by_cases g3 : (u != v) = true
        · have _ := 0
          have c3_ : (u == v) = false := by simpa using g3
          have d3_ : ¬ u = v := by simpa using g3
          by_cases g4 : inB l 1 10000 = true
          · have b4 := inB_true.1 g4
            by_cases g5 : inB s 50 5000 = true
            · have b5 := inB_true.1 g5
              by_cases g6 : inB f 1 1000 = true
              · have b6 := inB_true.1 g6
                go_enter Try.func47, Try.ntmps47
                go_wp2_with fail
                go_quiet ((first | (go_at_call 54; first | with_reducible exact quiet_left (l00In_is _ _ _ _ _ g1) | with_reducible exact quiet_left (l00In_is _ _ _ _ _ g2) | with_reducible exact quiet_left (l00In_is _ _ _ _ _ g4) | with_reducible exact quiet_left (l00In_is _ _ _ _ _ g5) | with_reducible exact quiet_left (l00In_is _ _ _ _ _ g6) | exact quiet_left (l00In_any _ _ _ _)) | (go_at_call 66; exact quiet_left (l01Name_is _ _ ha _ g0))))
                go_wp2_with (first | (go_at_call 54; refine (l00In_any _ _ _ _).mono ?_; rintro e w' ⟨rfl, rfl⟩) | (go_at_call 57; refine (within_any _ _ _ _).mono ?_; rintro e w' ⟨rfl, rfl⟩) | go_in)
                go_ret
                exact ⟨ret_bool (by simp [airB, *]), _, rfl⟩
              · simp only [Bool.not_eq_true] at g6
                go_enter Try.func47, Try.ntmps47
                go_wp2_with fail
                go_quiet ((first | (go_at_call 54; first | with_reducible exact quiet_left (l00In_is _ _ _ _ _ g1) | with_reducible exact quiet_left (l00In_is _ _ _ _ _ g2) | with_reducible exact quiet_left (l00In_is _ _ _ _ _ g4) | with_reducible exact quiet_left (l00In_is _ _ _ _ _ g5) | with_reducible exact quiet_left (l00In_is _ _ _ _ _ g6) | exact quiet_left (l00In_any _ _ _ _)) | (go_at_call 66; exact quiet_left (l01Name_is _ _ ha _ g0))))
                go_wp2_with (first | (go_at_call 54; refine (l00In_any _ _ _ _).mono ?_; rintro e w' ⟨rfl, rfl⟩) | (go_at_call 57; refine (within_any _ _ _ _).mono ?_; rintro e w' ⟨rfl, rfl⟩) | go_in)
                go_ret
                exact ⟨ret_bool (by simp [airB, *]), _, rfl⟩
            · simp only [Bool.not_eq_true] at g5
              go_enter Try.func47, Try.ntmps47
              go_wp2_with fail
              go_quiet ((first | (go_at_call 54; first | with_reducible exact quiet_left (l00In_is _ _ _ _ _ g1) | with_reducible exact quiet_left (l00In_is _ _ _ _ _ g2) | with_reducible exact quiet_left (l00In_is _ _ _ _ _ g4) | with_reducible exact quiet_left (l00In_is _ _ _ _ _ g5) | with_reducible exact quiet_left (l00In_is _ _ _ _ _ g6) | exact quiet_left (l00In_any _ _ _ _)) | (go_at_call 66; exact quiet_left (l01Name_is _ _ ha _ g0))))
              go_wp2_with (first | (go_at_call 54; refine (l00In_any _ _ _ _).mono ?_; rintro e w' ⟨rfl, rfl⟩) | (go_at_call 57; refine (within_any _ _ _ _).mono ?_; rintro e w' ⟨rfl, rfl⟩) | go_in)
              go_ret
              exact ⟨ret_bool (by simp [airB, *]), _, rfl⟩
          · simp only [Bool.not_eq_true] at g4
            go_enter Try.func47, Try.ntmps47
            go_wp2_with fail
            go_quiet ((first | (go_at_call 54; first | with_reducible exact quiet_left (l00In_is _ _ _ _ _ g1) | with_reducible exact quiet_left (l00In_is _ _ _ _ _ g2) | with_reducible exact quiet_left (l00In_is _ _ _ _ _ g4) | with_reducible exact quiet_left (l00In_is _ _ _ _ _ g5) | with_reducible exact quiet_left (l00In_is _ _ _ _ _ g6) | exact quiet_left (l00In_any _ _ _ _)) | (go_at_call 66; exact quiet_left (l01Name_is _ _ ha _ g0))))
            go_wp2_with (first | (go_at_call 54; refine (l00In_any _ _ _ _).mono ?_; rintro e w' ⟨rfl, rfl⟩) | (go_at_call 57; refine (within_any _ _ _ _).mono ?_; rintro e w' ⟨rfl, rfl⟩) | go_in)
            go_ret
            exact ⟨ret_bool (by simp [airB, *]), _, rfl⟩
        · simp only [Bool.not_eq_true] at g3
          obtain rfl : u = v := by simpa using g3
          go_enter Try.func47, Try.ntmps47
          go_wp2_with fail
          go_quiet ((first | (go_at_call 54; first | with_reducible exact quiet_left (l00In_is _ _ _ _ _ g1) | with_reducible exact quiet_left (l00In_is _ _ _ _ _ g2) | with_reducible exact quiet_left (l00In_is _ _ _ _ _ g4) | with_reducible exact quiet_left (l00In_is _ _ _ _ _ g5) | with_reducible exact quiet_left (l00In_is _ _ _ _ _ g6) | exact quiet_left (l00In_any _ _ _ _)) | (go_at_call 66; exact quiet_left (l01Name_is _ _ ha _ g0))))
          go_wp2_with (first | (go_at_call 54; refine (l00In_any _ _ _ _).mono ?_; rintro e w' ⟨rfl, rfl⟩) | (go_at_call 57; refine (within_any _ _ _ _).mono ?_; rintro e w' ⟨rfl, rfl⟩) | go_in)
          go_ret
          exact ⟨ret_bool (by simp [airB, *]), _, rfl⟩
      · simp only [Bool.not_eq_true] at g2
        go_enter Try.func47, Try.ntmps47
        go_wp2_with fail
        go_quiet ((first | (go_at_call 54; first | with_reducible exact quiet_left (l00In_is _ _ _ _ _ g1) | with_reducible exact quiet_left (l00In_is _ _ _ _ _ g2) | with_reducible exact quiet_left (l00In_is _ _ _ _ _ g4) | with_reducible exact quiet_left (l00In_is _ _ _ _ _ g5) | with_reducible exact quiet_left (l00In_is _ _ _ _ _ g6) | exact quiet_left (l00In_any _ _ _ _)) | (go_at_call 66; exact quiet_left (l01Name_is _ _ ha _ g0))))
        go_wp2_with (first | (go_at_call 54; refine (l00In_any _ _ _ _).mono ?_; rintro e w' ⟨rfl, rfl⟩) | (go_at_call 57; refine (within_any _ _ _ _).mono ?_; rintro e w' ⟨rfl, rfl⟩) | go_in)
        go_ret
        exact ⟨ret_bool (by simp [airB, *]), _, rfl⟩
    · simp only [Bool.not_eq_true] at g1
      go_enter Try.func47, Try.ntmps47
      go_wp2_with fail
      go_quiet ((first | (go_at_call 54; first | with_reducible exact quiet_left (l00In_is _ _ _ _ _ g1) | with_reducible exact quiet_left (l00In_is _ _ _ _ _ g2) | with_reducible exact quiet_left (l00In_is _ _ _ _ _ g4) | with_reducible exact quiet_left (l00In_is _ _ _ _ _ g5) | with_reducible exact quiet_left (l00In_is _ _ _ _ _ g6) | exact quiet_left (l00In_any _ _ _ _)) | (go_at_call 66; exact quiet_left (l01Name_is _ _ ha _ g0))))
      go_wp2_with (first | (go_at_call 54; refine (l00In_any _ _ _ _).mono ?_; rintro e w' ⟨rfl, rfl⟩) | (go_at_call 57; refine (within_any _ _ _ _).mono ?_; rintro e w' ⟨rfl, rfl⟩) | go_in)
      go_ret
      exact ⟨ret_bool (by simp [airB, *]), _, rfl⟩
  · simp only [Bool.not_eq_true] at g0
    go_enter Try.func47, Try.ntmps47
    go_wp2_with fail
    go_quiet ((first | (go_at_call 54; first | with_reducible exact quiet_left (l00In_is _ _ _ _ _ g1) | with_reducible exact quiet_left (l00In_is _ _ _ _ _ g2) | with_reducible exact quiet_left (l00In_is _ _ _ _ _ g4) | with_reducible exact quiet_left (l00In_is _ _ _ _ _ g5) | with_reducible exact quiet_left (l00In_is _ _ _ _ _ g6) | exact quiet_left (l00In_any _ _ _ _)) | (go_at_call 66; exact quiet_left (l01Name_is _ _ ha _ g0))))
    go_wp2_with (first | (go_at_call 54; refine (l00In_any _ _ _ _).mono ?_; rintro e w' ⟨rfl, rfl⟩) | (go_at_call 57; refine (within_any _ _ _ _).mono ?_; rintro e w' ⟨rfl, rfl⟩) | go_in)
    go_ret
    exact ⟨ret_bool (by simp [airB, *]), _, rfl⟩

def AW.okB (x : AW) : Bool := airB x.a x.u x.v x.l x.s x.f x.k
theorem validAW_any (x : AW) (w : World) (hx : x.a.size ≤ maxLen) : Calls Try.prog 48 #[x.val] w fun e w' => e = .returned (.bool x.okB) ∧ Below w.heap.size w w' :=
  (validAirway_any x.a x.u x.v x.l x.s x.f x.k hx w).mono fun e w' ⟨he, c, t, hw⟩ => ⟨he, by subst hw; exact (Below.refl _ _).alloc (Nat.le_refl _) _⟩
theorem l03OkAW_any (b o : Nat) (x : AW) (w : World) (hx : x.a.size ≤ maxLen) (h : AirAt w b o x) : Calls Try.prog 47 #[.pointer (some ⟨b, o, none⟩)] w fun e w' => e = .returned (.bool x.okB) ∧ ∃ q, w' = w.drewN q :=
  l03Ok_any b o x.a x.u x.v x.l x.s x.f x.k hx w h.c0 h.c1 h.c2 h.c3 h.c4 h.c5 h.c6
end Go.Proofs.Ytgiokjflfadeeaa
