/-
  The contracts of the two greatest flows: both find the last flow whose drop is not above the given one.
-/
import Derived.Test.YtmkljkeokcokgaaSearch
import Derived.Test.YtmkljkeokcokgaaDrop
namespace Go.Proofs.Ytmkljkeokcokgaa
open Go.RowKit
set_option linter.unusedVariables false

def FirstPost (lo : Int) (N : Nat) (p : Int → Bool) (w : World) (e : Ending) (w' : World) : Prop :=
  ∃ r : Nat, r ≤ N ∧ e = .returned (.tuple #[.int .i64 (lo + r), .bool (decide (r < N))]) ∧ (0 < r → p (lo + ((r - 1 : Nat) : Int)) = false) ∧ (r < N → p (lo + r) = true) ∧ Below w.heap.size w w'

theorem first_flow_fun (i : Nat) (lo hi : Int) (b b' : Nat) (caps : Array Value) (p : Int → Bool) (w : World) (hlo : -1000000000 ≤ lo) (hhi : lo + i ≤ 1000000000)
    (h1 : w.cell? ⟨b, 0, none⟩ = some (.func (.func 54) #[] caps)) (h2 : w.cell? ⟨b', 0, none⟩ = some (.int .i64 lo))
    (hf : Calls Try.prog 54 (#[.int .i64 (lo + i)] ++ caps) w fun e w' => e = .returned (.bool (p (lo + i))) ∧ ∃ m, w' = w.drewN m) :
    Calls Try.prog 78 #[.int .i64 i, .pointer (some ⟨b, 0, none⟩), .pointer (some ⟨b', 0, none⟩)] w fun e w' => e = .returned (.bool (p (lo + i))) ∧ ∃ m, w' = w.drewN m := by
  have HF := Lib.hid hf
  clear hf
  go_enter Try.func78, Try.ntmps78
  go_wp2_with fail
  refine HF.out.mono ?_
  rintro e w' ⟨rfl, m, rfl⟩
  go_wp2_with fail
  go_ret
  exact ⟨rfl, _, rfl⟩
theorem first_flow_search (N : Nat) (hN : N ≤ 4611686018427387904) (caps : Array Value) (p : Nat → Bool) (w : World)
    (hf : ∀ (i : Nat) (q : Nat), i < N → Calls Try.prog 78 (#[.int .i64 i] ++ caps) (w.drewN q) fun e w' => e = .returned (.bool (p i)) ∧ ∃ m, w' = w.drewN m) :
    Calls Try.prog 77 #[.int .i64 N, .func (.func 78) #[] caps] w (SearchPost N p w) := by
  have HF := Lib.hid hf
  clear hf
  go_enter Try.func77, Try.ntmps77
  go_wp2_with fail
  go_loopw [5, 6] (fun l h wr => ∃ (a b : Nat), a ≤ b ∧ b ≤ N ∧ l = .int .i64 a ∧ h = .int .i64 b ∧ (0 < a → p (a - 1) = false) ∧ (b < N → p b = true) ∧ ∃ q, wr = w.drewN q) (fun l h _ => (intOf h - intOf l).toNat)
  case atStart => exact ⟨0, N, by omega, by omega, rfl, rfl, by omega, by omega, 0, rfl⟩
  case round =>
    obtain ⟨a, b, hab, hb, rfl, rfl, pa, pb, q, rfl⟩ := hrel
    have PA := Lib.hid pa
    have PB := Lib.hid pb
    clear pa pb
    by_cases hlt : a < b
    · by_cases hp : p ((a + b) / 2) = true
      · have HP := Lib.hid hp
        clear hp
        go_wp2_with (go_at_call 78; rw [mid_is]; refine (HF.out _ _ (by omega)).mono ?_; rintro e w' ⟨rfl, mq, rfl⟩; rw [HP.out])
        go_roundw
        case rel => exact ⟨a, (a + b) / 2, by omega, by omega, rfl, by first | rfl | go_num | (congr 1; omega), PA.out, fun _ => HP.out, _, rfl⟩
        case measure => simp [intOf]; omega
      · have hp : p ((a + b) / 2) = false := by simpa using hp
        have HP := Lib.hid hp
        clear hp
        go_wp2_with (go_at_call 78; rw [mid_is]; refine (HF.out _ _ (by omega)).mono ?_; rintro e w' ⟨rfl, mq, rfl⟩; rw [HP.out])
        go_roundw
        case rel => exact ⟨(a + b) / 2 + 1, b, by omega, by omega, by first | rfl | go_num | (congr 1; omega), rfl, fun _ => HP.out, PB.out, _, rfl⟩
        case measure => simp [intOf]; omega
    · obtain rfl : a = b := by omega
      go_wp2_with fail
      go_ret
      exact ⟨a, by omega, rfl, PA.out, PB.out, _, rfl⟩
theorem first_flow (lo hi : Int) (N : Nat) (caps : Array Value) (p : Int → Bool) (w : World) (hlo : -1000000000 ≤ lo) (hhi : hi ≤ 1000000000) (hN : hi - lo + 1 = N)
    (hf : ∀ (n : Int) (W : World), lo ≤ n → n ≤ hi → Below w.heap.size w W → Calls Try.prog 54 (#[.int .i64 n] ++ caps) W fun e w' => e = .returned (.bool (p n)) ∧ ∃ m, w' = W.drewN m) :
    Calls Try.prog 53 #[.int .i64 lo, .int .i64 hi, .func (.func 54) #[] caps] w (FirstPost lo N p w) := by
  have hg : ∀ (i : Nat) (q : Nat), i < N → Calls Try.prog 78 (#[.int .i64 i] ++ #[.pointer (some ⟨w.heap.size + 1, 0, none⟩), .pointer (some ⟨w.heap.size, 0, none⟩)]) (((w.alloc (.cells #[.int .i64 lo] 2)).alloc (.cells #[.func (.func 54) #[] caps] 44)).drewN q) fun e w' => e = .returned (.bool (p (lo + i))) ∧ ∃ m, w' = ((w.alloc (.cells #[.int .i64 lo] 2)).alloc (.cells #[.func (.func 54) #[] caps] 44)).drewN m := by
    intro i q hi'
    refine (first_flow_fun i lo hi _ _ caps p _ hlo (by omega) (by simp [go_sem]) (by simp [go_sem]) (hf _ _ (by omega) (by omega) (below_drewN ((((Below.refl _ _).alloc (Nat.le_refl _) _).alloc (by simp) _)) _))).mono ?_
    rintro e w' ⟨rfl, m, rfl⟩
    exact ⟨rfl, q + m, by rw [World.drewN_drewN]⟩
  have HG := Lib.hid hg
  have HN := Lib.hid hN
  have hb : hi - lo + 1 ≤ 2000000001 := by omega
  have hb' : 0 ≤ hi - lo + 1 := by omega
  clear hg hf hN
  go_enter Try.func53, Try.ntmps53
  go_wp2_with fail
  rw [HN.out]
  refine (first_flow_search N (by have := HN.out; omega) _ (fun i => p (lo + i)) _ HG.out).mono ?_
  rintro e w' ⟨r, hr, rfl, h1, h2, q, rfl⟩
  have H1 := Lib.hid h1
  have H2 := Lib.hid h2
  have hN2 : N ≤ 2000000001 := by have := HN.out; omega
  clear h1 h2
  go_wp2_with fail
  go_ret2
  exact ⟨r, hr, rfl, H1.out, H2.out, below_drewN ((((Below.refl _ _).alloc (Nat.le_refl _) _).alloc (by simp) _)) _⟩

def IsMost (r d m : Int) : Prop := 0 ≤ m ∧ m ≤ 100000 ∧ (0 < m → dropF r m ≤ d) ∧ (m < 100000 → d < dropF r (m + 1))
theorem dropF_mono (r a b : Int) (hr : 1 ≤ r) (h0 : 0 ≤ a) (h : a ≤ b) : dropF r a ≤ dropF r b := by
  unfold dropF absI
  rw [if_neg (by omega), if_neg (by omega)]
  have h1 : r * a ≤ r * b := Int.mul_le_mul_of_nonneg_left h (by omega)
  have h2 : 0 ≤ r * a := Int.mul_nonneg (by omega) h0
  have h3 : r * a * a ≤ r * b * b := Int.mul_le_mul h1 h h0 (by omega)
  exact dr_mono _ _ _ (by omega) (Int.mul_nonneg h2 h0) h3
theorem dropF_zero (r : Int) : dropF r 0 = 0 := by
  unfold dropF
  rw [Int.mul_zero, Int.zero_mul]
  exact dr_zero _ (by omega)
theorem most_one {r d m m' : Int} (hr : 1 ≤ r) (h : IsMost r d m) (h' : IsMost r d m') : m = m' := by
  obtain ⟨a, b, c, e⟩ := h
  obtain ⟨a', b', c', e'⟩ := h'
  rcases Int.lt_trichotomy m m' with g | g | g
  · have h1 := e (by omega); have h2 := c' (by omega); have h3 := dropF_mono r (m + 1) m' hr (by omega) (by omega); omega
  · exact g
  · have h1 := e' (by omega); have h2 := c (by omega); have h3 := dropF_mono r (m' + 1) m hr (by omega) (by omega); omega
noncomputable def mostF (r d : Int) : Int := Classical.epsilon fun m => IsMost r d m
theorem mostF_is {r d m : Int} (hr : 1 ≤ r) (h : IsMost r d m) : m = mostF r d := most_one hr h (Classical.epsilon_spec (p := fun m => IsMost r d m) ⟨m, h⟩)


theorem flowFun_any (n r d : Int) (b b' : Nat) (w : World) (a1 : 1 ≤ r) (a2 : r ≤ 1000000) (a3 : 0 ≤ n) (a4 : n ≤ 100000) (h1 : w.cell? ⟨b, 0, none⟩ = some (.int .i64 r)) (h2 : w.cell? ⟨b', 0, none⟩ = some (.int .i64 d)) :
    Calls Try.prog 54 #[.int .i64 n, .pointer (some ⟨b, 0, none⟩), .pointer (some ⟨b', 0, none⟩)] w fun e w' => e = .returned (.bool (decide (d < dropF r n))) ∧ ∃ m, w' = w.drewN m := by
  go_enter Try.func54, Try.ntmps54
  go_wp2_with fail
  go_quiet ((go_at_call 46; exact quiet_ex (dropOf_any _ _ _ a1 a2 (by omega) (by omega))))
  go_wp2_with fail
  go_ret
  exact ⟨rfl, _, rfl⟩

theorem l03Most_any (r d : Int) (w : World) (a1 : 1 ≤ r) (a2 : r ≤ 1000000) :
    Calls Try.prog 51 #[.int .i64 r, .int .i64 d] w fun e w' => e = .returned (.int .i64 (mostF r d)) ∧ ∃ n, w' = w.drewN n := by
  go_enter Try.func51, Try.ntmps51
  go_wp2_with fail
  go_loopw [5, 6] (fun l h wr => ∃ (a b : Int), 0 ≤ a ∧ a ≤ b ∧ b ≤ 100000 ∧ l = .int .i64 a ∧ h = .int .i64 b ∧ (0 < a → dropF r a ≤ d) ∧ (b < 100000 → d < dropF r (b + 1)) ∧ ∃ q, wr = w.drewN q) (fun l h _ => (intOf h - intOf l).toNat)
  case atStart => exact ⟨0, 100000, by omega, by omega, by omega, rfl, rfl, by omega, by omega, 0, rfl⟩
  case round =>
    obtain ⟨a, b, ha, hab, hb, rfl, rfl, pa, pb, q, rfl⟩ := hrel
    have PA := Lib.hid pa
    have PB := Lib.hid pb
    clear pa pb
    by_cases hlt : a < b
    · by_cases hc : dropF r ((a + b + 1) / 2) ≤ d
      · have HC := Lib.hid hc
        go_wp2_with (first | (go_at_call 48; refine (l03Abs_any _ _ (by omega) (by omega)).mono ?_; rintro e w' ⟨rfl, rfl⟩) | (go_at_call 76; refine (abs_any _ _ (by omega) (by omega)).mono ?_; rintro e w' ⟨rfl, rfl⟩) | (go_at_call 46; refine (dropOf_any _ _ _ (by omega) (by omega) (by omega) (by omega)).mono ?_; rintro e w' ⟨rfl, nd, rfl⟩) | (go_at_call 43; refine (l03Drop_any _ _ _ (by omega) (by omega) (by omega) (by omega)).mono ?_; rintro e w' ⟨rfl, ns, rfl⟩) | (go_at_call 49; refine (airPowerP_any _ _ _ (by omega) (by omega) (by omega) (by omega)).mono ?_; rintro e w' ⟨rfl, np, rfl⟩) | (first | (go_at_call 50; refine (l00In_any _ _ _ _).mono ?_; rintro e w' ⟨rfl, rfl⟩) | (go_at_call 52; refine (within_any _ _ _ _).mono ?_; rintro e w' ⟨rfl, rfl⟩) | (go_at_call 47; refine (l01Div_any _ _ _ (by omega) (by omega) (by omega) (by omega) (by omega)).mono ?_; rintro e w' ⟨rfl, rfl⟩) | (go_at_call 63; refine (divRound_any _ _ _ (by omega) (by omega) (by omega) (by omega) (by omega)).mono ?_; rintro e w' ⟨rfl, nq, rfl⟩) | go_in))
        go_roundw
        case rel => exact ⟨(a + b + 1) / 2, b, by omega, by omega, by omega, rfl, rfl, fun _ => HC.out, PB.out, _, rfl⟩
        case measure => simp [intOf]; omega
      · have HC := Lib.hid hc
        go_wp2_with (first | (go_at_call 48; refine (l03Abs_any _ _ (by omega) (by omega)).mono ?_; rintro e w' ⟨rfl, rfl⟩) | (go_at_call 76; refine (abs_any _ _ (by omega) (by omega)).mono ?_; rintro e w' ⟨rfl, rfl⟩) | (go_at_call 46; refine (dropOf_any _ _ _ (by omega) (by omega) (by omega) (by omega)).mono ?_; rintro e w' ⟨rfl, nd, rfl⟩) | (go_at_call 43; refine (l03Drop_any _ _ _ (by omega) (by omega) (by omega) (by omega)).mono ?_; rintro e w' ⟨rfl, ns, rfl⟩) | (go_at_call 49; refine (airPowerP_any _ _ _ (by omega) (by omega) (by omega) (by omega)).mono ?_; rintro e w' ⟨rfl, np, rfl⟩) | (first | (go_at_call 50; refine (l00In_any _ _ _ _).mono ?_; rintro e w' ⟨rfl, rfl⟩) | (go_at_call 52; refine (within_any _ _ _ _).mono ?_; rintro e w' ⟨rfl, rfl⟩) | (go_at_call 47; refine (l01Div_any _ _ _ (by omega) (by omega) (by omega) (by omega) (by omega)).mono ?_; rintro e w' ⟨rfl, rfl⟩) | (go_at_call 63; refine (divRound_any _ _ _ (by omega) (by omega) (by omega) (by omega) (by omega)).mono ?_; rintro e w' ⟨rfl, nq, rfl⟩) | go_in))
        go_roundw
        case rel => exact ⟨a, (a + b + 1) / 2 - 1, by omega, by omega, by omega, rfl, rfl, PA.out, fun _ => by have := HC.out; rw [Int.sub_add_cancel]; omega, _, rfl⟩
        case measure => simp [intOf]; omega
    · obtain rfl : a = b := by omega
      go_wp2_with fail
      go_ret
      exact ⟨ret_int (mostF_is a1 ⟨ha, hb, PA.out, PB.out⟩), _, rfl⟩

theorem flowForP_any (r d : Int) (w : World) (g1 : inB r 1 1000000 = true) (g2 : inB d 0 1000000 = true) :
    Calls Try.prog 20 #[.int .i64 r, .int .i64 d] w fun e w' => e = .returned (.tuple #[.int .i64 (mostF r d), .int .i64 0]) ∧ Below w.heap.size w w' := by
  have b1 := inB_true.1 g1
  have b2 := inB_true.1 g2
  have hf : ∀ (n : Int) (W : World), 0 ≤ n → n ≤ 100000 → Below ((w.alloc (.cells #[.int .i64 r] 2)).alloc (.cells #[.int .i64 d] 2)).heap.size ((w.alloc (.cells #[.int .i64 r] 2)).alloc (.cells #[.int .i64 d] 2)) W → Calls Try.prog 54 (#[.int .i64 n] ++ #[.pointer (some ⟨w.heap.size, 0, none⟩), .pointer (some ⟨w.heap.size + 1, 0, none⟩)]) W fun e w' => e = .returned (.bool (decide (d < dropF r n))) ∧ ∃ m, w' = W.drewN m := by
    intro n W h1 h2 hb
    exact flowFun_any n r d _ _ W b1.1 b1.2 h1 h2 ((hb.cell (by simp <;> omega)).trans (by simp [go_sem, World.cell?_alloc_past])) ((hb.cell (by simp <;> omega)).trans (by simp [go_sem]))
  have HF := Lib.hid hf
  clear hf
  go_enter Try.func20, Try.ntmps20
  go_wp2_with (first | (go_at_call 53; refine (first_flow 0 100000 100001 _ _ _ (by omega) (by omega) (by omega) HF.out).mono ?_; rintro e w' ⟨k, hk, rfl, h1, h2, hbel⟩) | (first | (go_at_call 48; refine (l03Abs_any _ _ (by omega) (by omega)).mono ?_; rintro e w' ⟨rfl, rfl⟩) | (go_at_call 76; refine (abs_any _ _ (by omega) (by omega)).mono ?_; rintro e w' ⟨rfl, rfl⟩) | (go_at_call 46; refine (dropOf_any _ _ _ (by omega) (by omega) (by omega) (by omega)).mono ?_; rintro e w' ⟨rfl, nd, rfl⟩) | (go_at_call 43; refine (l03Drop_any _ _ _ (by omega) (by omega) (by omega) (by omega)).mono ?_; rintro e w' ⟨rfl, ns, rfl⟩) | (go_at_call 49; refine (airPowerP_any _ _ _ (by omega) (by omega) (by omega) (by omega)).mono ?_; rintro e w' ⟨rfl, np, rfl⟩) | (first | (go_at_call 50; refine (l00In_any _ _ _ _).mono ?_; rintro e w' ⟨rfl, rfl⟩) | (go_at_call 52; refine (within_any _ _ _ _).mono ?_; rintro e w' ⟨rfl, rfl⟩) | (go_at_call 47; refine (l01Div_any _ _ _ (by omega) (by omega) (by omega) (by omega) (by omega)).mono ?_; rintro e w' ⟨rfl, rfl⟩) | (go_at_call 63; refine (divRound_any _ _ _ (by omega) (by omega) (by omega) (by omega) (by omega)).mono ?_; rintro e w' ⟨rfl, nq, rfl⟩) | go_in)))
  · go_ret2
    have hk' : k = 100001 := by
      have : (!decide (k < 100001)) = true := by assumption
      simp at this; omega
    refine ⟨congrArg (fun x => Ending.returned (.tuple #[.int .i64 x, .int .i64 0])) (mostF_is (m := 100000) b1.1 ⟨by omega, by omega, fun _ => ?_, by omega⟩), ((((Below.refl _ _).alloc (Nat.le_refl _) _).alloc (by simp) _)).trans (hbel.mono (by simp <;> omega))⟩
    have := h1 (by omega)
    subst hk'
    simpa using this
  · go_ret2
    have hk' : k < 100001 := by
      have : (!decide (k < 100001)) = false := by assumption
      simpa using this
    have hp := h2 hk'
    simp only [decide_eq_true_eq, Int.zero_add] at hp
    have hk0 : 0 < k := by
      apply Nat.pos_of_ne_zero
      rintro rfl
      have e : dropF r ((0 : Nat) : Int) = 0 := dropF_zero r
      omega
    have hq := h1 hk0
    simp only [decide_eq_false_iff_not, Int.zero_add] at hq
    refine ⟨congrArg (fun x => Ending.returned (.tuple #[.int .i64 x, .int .i64 0])) (mostF_is (m := (k : Int) - 1) b1.1 ⟨by omega, by omega, fun _ => ?_, fun _ => ?_⟩), ((((Below.refl _ _).alloc (Nat.le_refl _) _).alloc (by simp) _)).trans (hbel.mono (by simp <;> omega))⟩
    · have e : ((k - 1 : Nat) : Int) = (k : Int) - 1 := by omega
      rw [e] at hq
      omega
    · rw [Int.sub_add_cancel]; exact hp
end Go.Proofs.Ytmkljkeokcokgaa
