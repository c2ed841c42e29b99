/-
  FnExactDewPoint: for all temperatures and humidities the program's DewPoint returns what the reference's returns.
-/
import Derived.Test.YtjpmbjhkolgiiaaSearch
import Derived.Test.YtjpmbjhkolgiiaaVap
import Derived.Deep.RegionHeld3
import Derived.Test.YtjpmbjhkolgiiaaNum
import Derived.RowKit3
import Derived.ProofKit
import Derived.OpenShut
import Derived.Lib.SmallJoins
namespace Go.Proofs.Ytjpmbjhkolgiiaa
open Go.RowKit
set_option linter.unusedVariables false

theorem sat_step : ∀ k : Nat, k < 700 → satF ((k : Int) - 100) ≤ satF ((k : Int) - 99) := by decide +kernel
theorem sat_mono (a b : Int) (h1 : -100 ≤ a) (h2 : a ≤ b) (h3 : b ≤ 600) : satF a ≤ satF b := by
  obtain ⟨d, hd⟩ : ∃ d : Nat, b = a + (d : Int) := ⟨(b - a).toNat, by omega⟩
  induction d generalizing b with
  | zero => rw [hd]; simp
  | succ d ih =>
    have h := ih (a + (d : Int)) (by omega) (by omega) rfl
    have h' := sat_step (a + (d : Int) + 100).toNat (by omega)
    rw [show (((a + (d : Int) + 100).toNat : Nat) : Int) = a + (d : Int) + 100 by omega, show a + (d : Int) + 100 - 100 = a + (d : Int) by omega, show a + (d : Int) + 100 - 99 = b by omega] at h'
    exact Int.le_trans h h'
theorem sat_top : satF 600 = 19940 := by decide +kernel
theorem sat_low : satF (-100) = 286 := by decide +kernel
theorem dr_top : dr 19940000 1000 = 19940 := by decide +kernel
theorem vap_top (t h : Int) (h1 : -100 ≤ t) (h2 : t ≤ 600) (h3 : 0 ≤ h) (h4 : h ≤ 1000) : vapF t h ≤ 19940 := by
  have a := sat_mono t 600 h1 h2 (by omega)
  rw [sat_top] at a
  have b := sat_bd t h1 h2
  have hp := Int.mul_le_mul a h4 h3 (by omega)
  have hn : 0 ≤ satF t * h := Int.mul_nonneg (by omega) h3
  have c := dr_mono (satF t * h) 19940000 1000 (by omega) hn (by omega)
  rw [dr_top] at c
  exact c

def IsDew (v n : Int) : Prop := -100 ≤ n ∧ n ≤ 600 ∧ v ≤ satF n ∧ (-100 < n → satF (n - 1) < v)
theorem dew_one {v n n' : Int} (h : IsDew v n) (h' : IsDew v n') : n = n' := by
  obtain ⟨a, b, c, e⟩ := h
  obtain ⟨a', b', c', e'⟩ := h'
  rcases Int.lt_trichotomy n n' with g | g | g
  · have h1 := e' (by omega); have h2 := sat_mono n (n' - 1) a (by omega) (by omega); omega
  · exact g
  · have h1 := e (by omega); have h2 := sat_mono n' (n - 1) a' (by omega) (by omega); omega
noncomputable def dewF (v : Int) : Int := Classical.epsilon fun m => IsDew v m
theorem dewF_is {v m : Int} (h : IsDew v m) : m = dewF v := dew_one h (Classical.epsilon_spec (p := fun m => IsDew v m) ⟨m, h⟩)

def FirstPostB (lo : Int) (N : Nat) (p : Int → Bool) (w : World) (e : Ending) (w' : World) : Prop :=
  ∃ r : Nat, r ≤ N ∧ e = .returned (.tuple #[.int .i64 (lo + r), .bool (decide (r < N))]) ∧ (0 < r → p (lo + ((r - 1 : Nat) : Int)) = false) ∧ (r < N → p (lo + r) = true) ∧ Below w.heap.size w w'
theorem first_dew_fun (i : Nat) (lo hi : Int) (b b' : Nat) (caps : Array Value) (p : Int → Bool) (w : World) (hlo : -1000000000 ≤ lo) (hhi : lo + i ≤ 1000000000)
    (h1 : w.cell? ⟨b, 0, none⟩ = some (.func (.func 62) #[] caps)) (h2 : w.cell? ⟨b', 0, none⟩ = some (.int .i64 lo))
    (hf : ∀ q, Calls Try.prog 62 (#[.int .i64 (lo + i)] ++ caps) (w.drewN q) fun e w' => e = .returned (.bool (p (lo + i))) ∧ Below w.heap.size w w') :
    Calls Try.prog 89 #[.int .i64 i, .pointer (some ⟨b, 0, none⟩), .pointer (some ⟨b', 0, none⟩)] w fun e w' => e = .returned (.bool (p (lo + i))) ∧ Below w.heap.size w w' := by
  have HF := Lib.hid hf
  clear hf
  go_enter Try.func89, Try.ntmps89
  go_wp2_with fail
  refine (HF.out 0).mono ?_
  rintro e w' ⟨rfl, hbn⟩
  go_wp2_with fail
  go_ret
  exact ⟨rfl, hbn⟩
theorem first_dew_search (N : Nat) (hN : N ≤ 4611686018427387904) (caps : Array Value) (p : Nat → Bool) (w : World)
    (hf : ∀ (i : Nat) (W : World), i < N → Below w.heap.size w W → Calls Try.prog 89 (#[.int .i64 i] ++ caps) W fun e w' => e = .returned (.bool (p i)) ∧ Below W.heap.size W w') :
    Calls Try.prog 88 #[.int .i64 N, .func (.func 89) #[] caps] w (SearchPostB N p w) := by
  have HF := Lib.hid hf
  clear hf
  go_enter Try.func88, Try.ntmps88
  go_wp2_with fail
  go_loopw [5, 6] (fun l h wr => ∃ (a b : Nat), a ≤ b ∧ b ≤ N ∧ l = .int .i64 a ∧ h = .int .i64 b ∧ (0 < a → p (a - 1) = false) ∧ (b < N → p b = true) ∧ Below w.heap.size w wr) (fun l h _ => (intOf h - intOf l).toNat)
  case atStart => exact ⟨0, N, by omega, by omega, rfl, rfl, by omega, by omega, Below.refl _ _⟩
  case round =>
    obtain ⟨a, b, hab, hb, rfl, rfl, pa, pb, hbw⟩ := hrel
    have PA := Lib.hid pa
    have PB := Lib.hid pb
    have HB := Lib.hid hbw
    clear pa pb hbw
    by_cases hlt : a < b
    · by_cases hp : p ((a + b) / 2) = true
      · have HP := Lib.hid hp
        clear hp
        go_wp2_with (go_at_call 89; rw [mid_is]; refine (HF.out _ _ (by omega) HB.out).mono ?_; rintro e w' ⟨rfl, hbn⟩; have HN := Lib.hid hbn; clear hbn; rw [HP.out])
        go_roundw
        case rel => exact ⟨a, (a + b) / 2, by omega, by omega, rfl, by first | rfl | go_num | (congr 1; omega), PA.out, fun _ => HP.out, HB.out.trans (HN.out.mono HB.out.size)⟩
        case measure => simp [intOf]; omega
      · have hp : p ((a + b) / 2) = false := by simpa using hp
        have HP := Lib.hid hp
        clear hp
        go_wp2_with (go_at_call 89; rw [mid_is]; refine (HF.out _ _ (by omega) HB.out).mono ?_; rintro e w' ⟨rfl, hbn⟩; have HN := Lib.hid hbn; clear hbn; rw [HP.out])
        go_roundw
        case rel => exact ⟨(a + b) / 2 + 1, b, by omega, by omega, by first | rfl | go_num | (congr 1; omega), rfl, fun _ => HP.out, PB.out, HB.out.trans (HN.out.mono HB.out.size)⟩
        case measure => simp [intOf]; omega
    · obtain rfl : a = b := by omega
      go_wp2_with fail
      go_ret
      exact ⟨a, by omega, rfl, PA.out, PB.out, HB.out⟩
theorem first_dew (lo hi : Int) (N : Nat) (caps : Array Value) (p : Int → Bool) (w : World) (hlo : -1000000000 ≤ lo) (hhi : hi ≤ 1000000000) (hN : hi - lo + 1 = N)
    (hf : ∀ (n : Int) (W : World), lo ≤ n → n ≤ hi → Below w.heap.size w W → Calls Try.prog 62 (#[.int .i64 n] ++ caps) W fun e w' => e = .returned (.bool (p n)) ∧ Below W.heap.size W w') :
    Calls Try.prog 61 #[.int .i64 lo, .int .i64 hi, .func (.func 62) #[] caps] w (FirstPostB lo N p w) := by
  have hg : ∀ (i : Nat) (W : World), i < N → Below ((w.alloc (.cells #[.int .i64 lo] 2)).alloc (.cells #[.func (.func 62) #[] caps] 61)).heap.size ((w.alloc (.cells #[.int .i64 lo] 2)).alloc (.cells #[.func (.func 62) #[] caps] 61)) W → Calls Try.prog 89 (#[.int .i64 i] ++ #[.pointer (some ⟨w.heap.size + 1, 0, none⟩), .pointer (some ⟨w.heap.size, 0, none⟩)]) W fun e w' => e = .returned (.bool (p (lo + i))) ∧ Below W.heap.size W w' := by
    intro i W hi' hW
    refine first_dew_fun i lo hi _ _ caps p W hlo (by omega) ((hW.cell (by simp <;> omega)).trans (by simp [go_sem])) ((hW.cell (by simp <;> omega)).trans (by simp [go_sem, World.cell?_alloc_past])) (fun q => ?_)
    exact (hf _ (W.drewN q) (by omega) (by omega) (below_drewN (((((Below.refl _ _).alloc (Nat.le_refl _) _).alloc (by simp) _)).trans (hW.mono (by simp <;> omega))) _)).mono fun e w' ⟨h, h'⟩ => ⟨h, ⟨h'.os, h'.tape, h'.output, h'.size, h'.block⟩⟩
  have HG := Lib.hid hg
  have HN := Lib.hid hN
  have hb : hi - lo + 1 ≤ 2000000001 := by omega
  have hb' : 0 ≤ hi - lo + 1 := by omega
  clear hg hf hN
  go_enter Try.func61, Try.ntmps61
  go_wp2_with fail
  rw [HN.out]
  refine (first_dew_search N (by have := HN.out; omega) _ (fun i => p (lo + i)) _ HG.out).mono ?_
  rintro e w' ⟨r, hr, rfl, h1, h2, hbw⟩
  have H1 := Lib.hid h1
  have H2 := Lib.hid h2
  have HB := Lib.hid hbw
  have hl : w'.cell? ⟨w.heap.size, 0, none⟩ = some (.int .i64 lo) := (hbw.cell (by simp <;> omega)).trans (by simp [go_sem, World.cell?_alloc_past])
  have hN2 : N ≤ 2000000001 := by have := HN.out; omega
  clear h1 h2 hbw
  go_wp2_with fail
  go_ret2
  exact ⟨r, hr, rfl, H1.out, H2.out, ((((Below.refl _ _).alloc (Nat.le_refl _) _).alloc (by simp) _)).trans (HB.out.mono (by simp <;> omega))⟩

theorem dewFun_any (n v : Int) (b : Nat) (w : World) (a1 : -100 ≤ n) (a2 : n ≤ 600) (hb : b < w.heap.size) (h1 : w.cell? ⟨b, 0, none⟩ = some (.int .i64 v)) :
    Calls Try.prog 62 #[.int .i64 n, .pointer (some ⟨b, 0, none⟩)] w fun e w' => e = .returned (.bool (decide (v ≤ satF n))) ∧ Below w.heap.size w w' := by
  go_enter Try.func62, Try.ntmps62
  go_wp2_with fail
  go_region_held3 (fun w' => w'.cell? ⟨b, 0, none⟩ = some (.int .i64 v)) (first | exact h1 | (simp [go_sem, World.cell?_alloc_lt, hb, h1]))
    ((go_at_call 59; refine (satP_any _ _ (by omega) (by omega)).mono ?_; rintro e w' ⟨rfl, o3, u3, q3, rfl⟩))
  go_wp2_with fail
  go_ret
  exact ⟨rfl, by repeat (first | exact Below.refl _ _ | apply below_drewN | apply Below.drew | (refine Below.alloc ?_ (by (first | (simp <;> omega) | (have h2s := hb2.size; (try simp at h2s); (try simp); omega) | (have h2s := hb2.size; have h3s := hb3.size; (try simp at h2s); (try simp at h3s); (try simp); omega))) _) | (refine Below.setCell ?_ (by (first | (simp <;> omega) | (have h2s := hb2.size; (try simp at h2s); (try simp); omega) | (have h2s := hb2.size; have h3s := hb3.size; (try simp at h2s); (try simp at h3s); (try simp); omega))) _) | (refine Below.trans ?_ (hb4.mono (by (first | (simp <;> omega) | (have h2s := hb2.size; (try simp at h2s); (try simp); omega) | (have h2s := hb2.size; have h3s := hb3.size; (try simp at h2s); (try simp at h3s); (try simp); omega))))) | (refine Below.trans ?_ (hb3.mono (by (first | (simp <;> omega) | (have h2s := hb2.size; (try simp at h2s); (try simp); omega) | (have h2s := hb2.size; have h3s := hb3.size; (try simp at h2s); (try simp at h3s); (try simp); omega))))) | (refine Below.trans ?_ (hb2.mono (by (first | (simp <;> omega) | (have h2s := hb2.size; (try simp at h2s); (try simp); omega) | (have h2s := hb2.size; have h3s := hb3.size; (try simp at h2s); (try simp at h3s); (try simp); omega))))))⟩

theorem dewS_any (t h : Int) (w : World) (g1 : inB t (-100) 600 = true) (g2 : inB h 0 1000 = true) (hv : 286 ≤ vapF t h) :
    Calls Try.prog 18 #[.int .i64 t, .int .i64 h] w fun e w' => e = .returned (.tuple #[.int .i64 (dewF (vapF t h)), .int .i64 0]) ∧ Below w.heap.size w w' := by
  have b1 := inB_true.1 g1
  have b2 := inB_true.1 g2
  have hv2 := vap_top t h (by omega) (by omega) (by omega) (by omega)
  have hv3 := (vap_bd t h (by omega) (by omega) (by omega) (by omega)).2
  go_enter Try.func18, Try.ntmps18
  go_wp2_with (first | (go_at_call 52; refine (vapP_any _ _ _ (by omega) (by omega) (by omega) (by omega)).mono ?_; rintro e w' ⟨rfl, o3, u3, q3, rfl⟩) | (go_at_call 55; refine (vapS_any _ _ _ (by omega) (by omega) (by omega) (by omega)).mono ?_; rintro e w' ⟨rfl, o4, u4, q4, rfl⟩) | (first | (go_at_call 59; refine (satP_any _ _ (by omega) (by omega)).mono ?_; rintro e w' ⟨rfl, o1, u1, q1, rfl⟩) | (go_at_call 56; refine (satS_any _ _ (by omega) (by omega)).mono ?_; rintro e w' ⟨rfl, o2, u2, q2, rfl⟩) | (first | (go_at_call 69; refine (l00In_any _ _ _ _).mono ?_; rintro e w' ⟨rfl, rfl⟩) | (go_at_call 73; refine (within_any _ _ _ _).mono ?_; rintro e w' ⟨rfl, rfl⟩) | (go_at_call 76; refine (l01Div_any _ _ _ (by omega) (by omega) (by omega) (by omega) (by omega)).mono ?_; rintro e w' ⟨rfl, rfl⟩) | (go_at_call 51; refine (divRound_any _ _ _ (by omega) (by omega) (by omega) (by omega) (by omega)).mono ?_; rintro e w' ⟨rfl, nq, rfl⟩) | go_in)))
  go_loopw [7] (fun l wr => ∃ n : Int, -100 ≤ n ∧ n ≤ 600 ∧ l = .int .i64 n ∧ (-100 < n → satF (n - 1) < vapF t h) ∧ Below w.heap.size w wr) (fun l _ => (600 - intOf l).toNat)
  case atStart => exact ⟨-100, by omega, by omega, rfl, by omega, by repeat (first | exact Below.refl _ _ | apply below_drewN | apply Below.drew | (refine Below.alloc ?_ (by (first | (simp <;> omega) | (have h2s := hb2.size; (try simp at h2s); (try simp); omega) | (have h2s := hb2.size; have h3s := hb3.size; (try simp at h2s); (try simp at h3s); (try simp); omega))) _) | (refine Below.setCell ?_ (by (first | (simp <;> omega) | (have h2s := hb2.size; (try simp at h2s); (try simp); omega) | (have h2s := hb2.size; have h3s := hb3.size; (try simp at h2s); (try simp at h3s); (try simp); omega))) _) | (refine Below.trans ?_ (hb4.mono (by (first | (simp <;> omega) | (have h2s := hb2.size; (try simp at h2s); (try simp); omega) | (have h2s := hb2.size; have h3s := hb3.size; (try simp at h2s); (try simp at h3s); (try simp); omega))))) | (refine Below.trans ?_ (hb3.mono (by (first | (simp <;> omega) | (have h2s := hb2.size; (try simp at h2s); (try simp); omega) | (have h2s := hb2.size; have h3s := hb3.size; (try simp at h2s); (try simp at h3s); (try simp); omega))))) | (refine Below.trans ?_ (hb2.mono (by (first | (simp <;> omega) | (have h2s := hb2.size; (try simp at h2s); (try simp); omega) | (have h2s := hb2.size; have h3s := hb3.size; (try simp at h2s); (try simp at h3s); (try simp); omega))))))⟩
  case round =>
    obtain ⟨n, hn1, hn2, rfl, hpre, hbw⟩ := hrel
    have HP := Lib.hid hpre
    have HB := Lib.hid hbw
    clear hpre hbw
    by_cases hc : satF n < vapF t h
    · have hlt : n < 600 := by
        apply Classical.byContradiction; intro hx
        obtain rfl : n = 600 := by omega
        rw [sat_top] at hc; omega
      have HC := Lib.hid hc
      go_wp2_with (go_at_call 56; refine (satS_any _ _ (by omega) (by omega)).mono ?_; rintro e w' ⟨rfl, o2, u2, q2, rfl⟩)
      go_roundw
      case rel => exact ⟨n + 1, by omega, by omega, rfl, fun _ => by rw [Int.add_sub_cancel]; exact HC.out, below_drewN (HB.out.alloc HB.out.size _) _⟩
      case measure => simp [intOf]; omega
    · go_wp2_with (go_at_call 56; refine (satS_any _ _ (by omega) (by omega)).mono ?_; rintro e w' ⟨rfl, o2, u2, q2, rfl⟩)
      go_ret2
      exact ⟨congrArg (fun x => Ending.returned (.tuple #[.int .i64 x, .int .i64 0])) (dewF_is ⟨hn1, hn2, by omega, HP.out⟩), below_drewN (HB.out.alloc HB.out.size _) _⟩

theorem dewP_any (t h : Int) (w : World) (g1 : inB t (-100) 600 = true) (g2 : inB h 0 1000 = true) (hv : 286 ≤ vapF t h) :
    Calls Try.prog 19 #[.int .i64 t, .int .i64 h] w fun e w' => e = .returned (.tuple #[.int .i64 (dewF (vapF t h)), .int .i64 0]) ∧ Below w.heap.size w w' := by
  have b1 := inB_true.1 g1
  have b2 := inB_true.1 g2
  have hv2 := vap_top t h (by omega) (by omega) (by omega) (by omega)
  have hv3 := (vap_bd t h (by omega) (by omega) (by omega) (by omega)).2
  have HF : ∀ (B : Nat) (W0 : World), B < W0.heap.size → W0.cell? ⟨B, 0, none⟩ = some (.int .i64 (vapF t h)) → Hid (∀ (n : Int) (W : World), -100 ≤ n → n ≤ 600 → Below W0.heap.size W0 W → Calls Try.prog 62 (#[.int .i64 n] ++ #[.pointer (some ⟨B, 0, none⟩)]) W fun e w' => e = .returned (.bool (decide (vapF t h ≤ satF n))) ∧ Below W.heap.size W w') := by
    intro B W0 hB hc
    refine Lib.hid fun n W h1 h2 hW => ?_
    exact dewFun_any n (vapF t h) B W h1 h2 (by have := hW.size; omega) ((hW.cell (by simpa using hB)).trans hc)
  have e0 := Lib.hid sat_low
  go_enter Try.func19, Try.ntmps19
  go_wp2_with (first | (go_at_call 52; refine (vapP_any _ _ _ (by omega) (by omega) (by omega) (by omega)).mono ?_; rintro e w' ⟨rfl, o3, u3, q3, rfl⟩) | (go_at_call 55; refine (vapS_any _ _ _ (by omega) (by omega) (by omega) (by omega)).mono ?_; rintro e w' ⟨rfl, o4, u4, q4, rfl⟩) | (first | (go_at_call 59; refine (satP_any _ _ (by omega) (by omega)).mono ?_; rintro e w' ⟨rfl, o1, u1, q1, rfl⟩) | (go_at_call 56; refine (satS_any _ _ (by omega) (by omega)).mono ?_; rintro e w' ⟨rfl, o2, u2, q2, rfl⟩) | (first | (go_at_call 69; refine (l00In_any _ _ _ _).mono ?_; rintro e w' ⟨rfl, rfl⟩) | (go_at_call 73; refine (within_any _ _ _ _).mono ?_; rintro e w' ⟨rfl, rfl⟩) | (go_at_call 76; refine (l01Div_any _ _ _ (by omega) (by omega) (by omega) (by omega) (by omega)).mono ?_; rintro e w' ⟨rfl, rfl⟩) | (go_at_call 51; refine (divRound_any _ _ _ (by omega) (by omega) (by omega) (by omega) (by omega)).mono ?_; rintro e w' ⟨rfl, nq, rfl⟩) | go_in)))
  go_region_held3 (fun w' => w'.cell? ⟨w.heap.size + 1, 0, none⟩ = some (.int .i64 (vapF t h))) (simp [go_sem])
    ((go_at_call 59; refine (satP_any _ _ (by omega) (by omega)).mono ?_; rw [e0.out]; rintro e w' ⟨rfl, o5, u5, q5, rfl⟩))
  go_wp2_with (go_at_call 61; refine (first_dew (-100) 600 701 _ (fun n => decide (vapF t h ≤ satF n)) _ (by omega) (by omega) (by omega) (HF _ _ (by simp <;> omega) (by simp [go_sem, World.cell?_alloc_lt])).out).mono ?_; rintro e w2 ⟨k, hk, rfl, h1, h2, hb2⟩)
  have hk' : k < 701 := by
    apply Classical.byContradiction; intro hx
    obtain rfl : k = 701 := by omega
    have h3 := h1 (by omega)
    rw [show -100 + ((701 - 1 : Nat) : Int) = 600 by omega, sat_top] at h3
    simp at h3; omega
  have hp := h2 hk'
  simp only [decide_eq_true_eq] at hp
  have hq : -100 < (-100 + (k : Int)) → satF (-100 + (k : Int) - 1) < vapF t h := by
    intro hx
    have h3 := h1 (by omega)
    rw [show -100 + ((k - 1 : Nat) : Int) = -100 + (k : Int) - 1 by omega] at h3
    simpa using h3
  have HD := Lib.hid (dewF_is (v := vapF t h) ⟨by omega, by omega, hp, hq⟩)
  clear h1 h2 hp hq
  go_wp2_with go_in
  go_ret2
  exact ⟨congrArg (fun x => Ending.returned (.tuple #[.int .i64 x, .int .i64 0])) HD.out, by repeat (first | exact Below.refl _ _ | apply below_drewN | apply Below.drew | (refine Below.alloc ?_ (by (first | (simp <;> omega) | (have h2s := hb2.size; (try simp at h2s); (try simp); omega) | (have h2s := hb2.size; have h3s := hb3.size; (try simp at h2s); (try simp at h3s); (try simp); omega))) _) | (refine Below.setCell ?_ (by (first | (simp <;> omega) | (have h2s := hb2.size; (try simp at h2s); (try simp); omega) | (have h2s := hb2.size; have h3s := hb3.size; (try simp at h2s); (try simp at h3s); (try simp); omega))) _) | (refine Below.trans ?_ (hb4.mono (by (first | (simp <;> omega) | (have h2s := hb2.size; (try simp at h2s); (try simp); omega) | (have h2s := hb2.size; have h3s := hb3.size; (try simp at h2s); (try simp at h3s); (try simp); omega))))) | (refine Below.trans ?_ (hb3.mono (by (first | (simp <;> omega) | (have h2s := hb2.size; (try simp at h2s); (try simp); omega) | (have h2s := hb2.size; have h3s := hb3.size; (try simp at h2s); (try simp at h3s); (try simp); omega))))) | (refine Below.trans ?_ (hb2.mono (by (first | (simp <;> omega) | (have h2s := hb2.size; (try simp at h2s); (try simp); omega) | (have h2s := hb2.size; have h3s := hb3.size; (try simp at h2s); (try simp at h3s); (try simp); omega))))))⟩

theorem dewP_no (t h : Int) (w : World) (g1 : inB t (-100) 600 = true) (g2 : inB h 0 1000 = true) (hv : vapF t h < 286) :
    Calls Try.prog 19 #[.int .i64 t, .int .i64 h] w fun e w' => e = .returned (.tuple #[.int .i64 0, .int .i64 3]) ∧ Below w.heap.size w w' := by
  have b1 := inB_true.1 g1
  have b2 := inB_true.1 g2
  have hv3 := (vap_bd t h (by omega) (by omega) (by omega) (by omega)).2
  have e0 := Lib.hid sat_low
  go_enter Try.func19, Try.ntmps19
  go_wp2_with (first | (go_at_call 52; refine (vapP_any _ _ _ (by omega) (by omega) (by omega) (by omega)).mono ?_; rintro e w' ⟨rfl, o3, u3, q3, rfl⟩) | (go_at_call 55; refine (vapS_any _ _ _ (by omega) (by omega) (by omega) (by omega)).mono ?_; rintro e w' ⟨rfl, o4, u4, q4, rfl⟩) | (first | (go_at_call 59; refine (satP_any _ _ (by omega) (by omega)).mono ?_; rintro e w' ⟨rfl, o1, u1, q1, rfl⟩) | (go_at_call 56; refine (satS_any _ _ (by omega) (by omega)).mono ?_; rintro e w' ⟨rfl, o2, u2, q2, rfl⟩) | (first | (go_at_call 69; refine (l00In_any _ _ _ _).mono ?_; rintro e w' ⟨rfl, rfl⟩) | (go_at_call 73; refine (within_any _ _ _ _).mono ?_; rintro e w' ⟨rfl, rfl⟩) | (go_at_call 76; refine (l01Div_any _ _ _ (by omega) (by omega) (by omega) (by omega) (by omega)).mono ?_; rintro e w' ⟨rfl, rfl⟩) | (go_at_call 51; refine (divRound_any _ _ _ (by omega) (by omega) (by omega) (by omega) (by omega)).mono ?_; rintro e w' ⟨rfl, nq, rfl⟩) | go_in)))
  go_region_held3 (fun w' => w'.cell? ⟨w.heap.size + 1, 0, none⟩ = some (.int .i64 (vapF t h))) (simp [go_sem])
    ((go_at_call 59; refine (satP_any _ _ (by omega) (by omega)).mono ?_; rw [e0.out]; rintro e w' ⟨rfl, o5, u5, q5, rfl⟩))
  go_wp2_with fail
  go_ret2
  exact ⟨rfl, by repeat (first | exact Below.refl _ _ | apply below_drewN | apply Below.drew | (refine Below.alloc ?_ (by (first | (simp <;> omega) | (have h2s := hb2.size; (try simp at h2s); (try simp); omega) | (have h2s := hb2.size; have h3s := hb3.size; (try simp at h2s); (try simp at h3s); (try simp); omega))) _) | (refine Below.setCell ?_ (by (first | (simp <;> omega) | (have h2s := hb2.size; (try simp at h2s); (try simp); omega) | (have h2s := hb2.size; have h3s := hb3.size; (try simp at h2s); (try simp at h3s); (try simp); omega))) _) | (refine Below.trans ?_ (hb4.mono (by (first | (simp <;> omega) | (have h2s := hb2.size; (try simp at h2s); (try simp); omega) | (have h2s := hb2.size; have h3s := hb3.size; (try simp at h2s); (try simp at h3s); (try simp); omega))))) | (refine Below.trans ?_ (hb3.mono (by (first | (simp <;> omega) | (have h2s := hb2.size; (try simp at h2s); (try simp); omega) | (have h2s := hb2.size; have h3s := hb3.size; (try simp at h2s); (try simp at h3s); (try simp); omega))))) | (refine Below.trans ?_ (hb2.mono (by (first | (simp <;> omega) | (have h2s := hb2.size; (try simp at h2s); (try simp); omega) | (have h2s := hb2.size; have h3s := hb3.size; (try simp at h2s); (try simp at h3s); (try simp); omega))))))⟩
theorem dewS_no (t h : Int) (w : World) (g1 : inB t (-100) 600 = true) (g2 : inB h 0 1000 = true) (hv : vapF t h < 286) :
    Calls Try.prog 18 #[.int .i64 t, .int .i64 h] w fun e w' => e = .returned (.tuple #[.int .i64 0, .int .i64 3]) ∧ Below w.heap.size w w' := by
  have b1 := inB_true.1 g1
  have b2 := inB_true.1 g2
  go_enter Try.func18, Try.ntmps18
  go_wp2_with (first | (go_at_call 52; refine (vapP_any _ _ _ (by omega) (by omega) (by omega) (by omega)).mono ?_; rintro e w' ⟨rfl, o3, u3, q3, rfl⟩) | (go_at_call 55; refine (vapS_any _ _ _ (by omega) (by omega) (by omega) (by omega)).mono ?_; rintro e w' ⟨rfl, o4, u4, q4, rfl⟩) | (first | (go_at_call 59; refine (satP_any _ _ (by omega) (by omega)).mono ?_; rintro e w' ⟨rfl, o1, u1, q1, rfl⟩) | (go_at_call 56; refine (satS_any _ _ (by omega) (by omega)).mono ?_; rintro e w' ⟨rfl, o2, u2, q2, rfl⟩) | (first | (go_at_call 69; refine (l00In_any _ _ _ _).mono ?_; rintro e w' ⟨rfl, rfl⟩) | (go_at_call 73; refine (within_any _ _ _ _).mono ?_; rintro e w' ⟨rfl, rfl⟩) | (go_at_call 76; refine (l01Div_any _ _ _ (by omega) (by omega) (by omega) (by omega) (by omega)).mono ?_; rintro e w' ⟨rfl, rfl⟩) | (go_at_call 51; refine (divRound_any _ _ _ (by omega) (by omega) (by omega) (by omega) (by omega)).mono ?_; rintro e w' ⟨rfl, nq, rfl⟩) | go_in)))
  go_ret2
  exact ⟨rfl, by repeat (first | exact Below.refl _ _ | apply below_drewN | apply Below.drew | (refine Below.alloc ?_ (by (first | (simp <;> omega) | (have h2s := hb2.size; (try simp at h2s); (try simp); omega) | (have h2s := hb2.size; have h3s := hb3.size; (try simp at h2s); (try simp at h3s); (try simp); omega))) _) | (refine Below.setCell ?_ (by (first | (simp <;> omega) | (have h2s := hb2.size; (try simp at h2s); (try simp); omega) | (have h2s := hb2.size; have h3s := hb3.size; (try simp at h2s); (try simp at h3s); (try simp); omega))) _) | (refine Below.trans ?_ (hb4.mono (by (first | (simp <;> omega) | (have h2s := hb2.size; (try simp at h2s); (try simp); omega) | (have h2s := hb2.size; have h3s := hb3.size; (try simp at h2s); (try simp at h3s); (try simp); omega))))) | (refine Below.trans ?_ (hb3.mono (by (first | (simp <;> omega) | (have h2s := hb2.size; (try simp at h2s); (try simp); omega) | (have h2s := hb2.size; have h3s := hb3.size; (try simp at h2s); (try simp at h3s); (try simp); omega))))) | (refine Below.trans ?_ (hb2.mono (by (first | (simp <;> omega) | (have h2s := hb2.size; (try simp at h2s); (try simp); omega) | (have h2s := hb2.size; have h3s := hb3.size; (try simp at h2s); (try simp at h3s); (try simp); omega))))))⟩

theorem law_DewPoint (t : Int) (_ : -9223372036854775808 ≤ t ∧ t ≤ 9223372036854775807) (h : Int) (_ : -9223372036854775808 ≤ h ∧ h ≤ 9223372036854775807) (w : World) :
    Calls Try.prog 4 #[.int .i64 t, .int .i64 h] w fun e w' => e = .returned (.bool true) ∧ Below w.heap.size w w' := by
  by_cases g1 : inB t (-100) 600 = true
  · by_cases g2 : inB h 0 1000 = true
    · by_cases hv : vapF t h < 286
      · go_enter Try.func4, Try.ntmps4
        go_wp2_with (first | (go_at_call 19; refine (dewP_no _ _ _ g1 g2 hv).mono ?_; rintro e w3 ⟨rfl, hb3⟩) | (go_at_call 18; refine (dewS_no _ _ _ g1 g2 hv).mono ?_; rintro e w2 ⟨rfl, hb2⟩))
        all_goals go_ret
        all_goals exact ⟨rfl, by repeat (first | exact Below.refl _ _ | apply below_drewN | apply Below.drew | (refine Below.alloc ?_ (by (first | (simp <;> omega) | (have h2s := hb2.size; (try simp at h2s); (try simp); omega) | (have h2s := hb2.size; have h3s := hb3.size; (try simp at h2s); (try simp at h3s); (try simp); omega))) _) | (refine Below.setCell ?_ (by (first | (simp <;> omega) | (have h2s := hb2.size; (try simp at h2s); (try simp); omega) | (have h2s := hb2.size; have h3s := hb3.size; (try simp at h2s); (try simp at h3s); (try simp); omega))) _) | (refine Below.trans ?_ (hb4.mono (by (first | (simp <;> omega) | (have h2s := hb2.size; (try simp at h2s); (try simp); omega) | (have h2s := hb2.size; have h3s := hb3.size; (try simp at h2s); (try simp at h3s); (try simp); omega))))) | (refine Below.trans ?_ (hb3.mono (by (first | (simp <;> omega) | (have h2s := hb2.size; (try simp at h2s); (try simp); omega) | (have h2s := hb2.size; have h3s := hb3.size; (try simp at h2s); (try simp at h3s); (try simp); omega))))) | (refine Below.trans ?_ (hb2.mono (by (first | (simp <;> omega) | (have h2s := hb2.size; (try simp at h2s); (try simp); omega) | (have h2s := hb2.size; have h3s := hb3.size; (try simp at h2s); (try simp at h3s); (try simp); omega))))))⟩
      · have hv : 286 ≤ vapF t h := by omega
        go_enter Try.func4, Try.ntmps4
        go_wp2_with (first | (go_at_call 19; refine (dewP_any _ _ _ g1 g2 hv).mono ?_; rintro e w3 ⟨rfl, hb3⟩) | (go_at_call 18; refine (dewS_any _ _ _ g1 g2 hv).mono ?_; rintro e w2 ⟨rfl, hb2⟩))
        all_goals go_ret
        all_goals exact ⟨rfl, by repeat (first | exact Below.refl _ _ | apply below_drewN | apply Below.drew | (refine Below.alloc ?_ (by (first | (simp <;> omega) | (have h2s := hb2.size; (try simp at h2s); (try simp); omega) | (have h2s := hb2.size; have h3s := hb3.size; (try simp at h2s); (try simp at h3s); (try simp); omega))) _) | (refine Below.setCell ?_ (by (first | (simp <;> omega) | (have h2s := hb2.size; (try simp at h2s); (try simp); omega) | (have h2s := hb2.size; have h3s := hb3.size; (try simp at h2s); (try simp at h3s); (try simp); omega))) _) | (refine Below.trans ?_ (hb4.mono (by (first | (simp <;> omega) | (have h2s := hb2.size; (try simp at h2s); (try simp); omega) | (have h2s := hb2.size; have h3s := hb3.size; (try simp at h2s); (try simp at h3s); (try simp); omega))))) | (refine Below.trans ?_ (hb3.mono (by (first | (simp <;> omega) | (have h2s := hb2.size; (try simp at h2s); (try simp); omega) | (have h2s := hb2.size; have h3s := hb3.size; (try simp at h2s); (try simp at h3s); (try simp); omega))))) | (refine Below.trans ?_ (hb2.mono (by (first | (simp <;> omega) | (have h2s := hb2.size; (try simp at h2s); (try simp); omega) | (have h2s := hb2.size; have h3s := hb3.size; (try simp at h2s); (try simp at h3s); (try simp); omega))))))⟩
    · simp only [Bool.not_eq_true] at g2
      go_enter Try.func4, Try.ntmps4
      go_wp2_with (first | (go_at_call 69; refine (l00In_any _ _ _ _).mono ?_; rintro e w' ⟨rfl, rfl⟩) | (go_at_call 73; refine (within_any _ _ _ _).mono ?_; rintro e w' ⟨rfl, rfl⟩) | (go_at_call 76; refine (l01Div_any _ _ _ (by omega) (by omega) (by omega) (by omega) (by omega)).mono ?_; rintro e w' ⟨rfl, rfl⟩) | (go_at_call 51; refine (divRound_any _ _ _ (by omega) (by omega) (by omega) (by omega) (by omega)).mono ?_; rintro e w' ⟨rfl, nq, rfl⟩) | go_in)
      all_goals go_ret
      all_goals exact ⟨rfl, by repeat (first | exact Below.refl _ _ | apply below_drewN | apply Below.drew | (refine Below.alloc ?_ (by (first | (simp <;> omega) | (have h2s := hb2.size; (try simp at h2s); (try simp); omega) | (have h2s := hb2.size; have h3s := hb3.size; (try simp at h2s); (try simp at h3s); (try simp); omega))) _) | (refine Below.setCell ?_ (by (first | (simp <;> omega) | (have h2s := hb2.size; (try simp at h2s); (try simp); omega) | (have h2s := hb2.size; have h3s := hb3.size; (try simp at h2s); (try simp at h3s); (try simp); omega))) _) | (refine Below.trans ?_ (hb4.mono (by (first | (simp <;> omega) | (have h2s := hb2.size; (try simp at h2s); (try simp); omega) | (have h2s := hb2.size; have h3s := hb3.size; (try simp at h2s); (try simp at h3s); (try simp); omega))))) | (refine Below.trans ?_ (hb3.mono (by (first | (simp <;> omega) | (have h2s := hb2.size; (try simp at h2s); (try simp); omega) | (have h2s := hb2.size; have h3s := hb3.size; (try simp at h2s); (try simp at h3s); (try simp); omega))))) | (refine Below.trans ?_ (hb2.mono (by (first | (simp <;> omega) | (have h2s := hb2.size; (try simp at h2s); (try simp); omega) | (have h2s := hb2.size; have h3s := hb3.size; (try simp at h2s); (try simp at h3s); (try simp); omega))))))⟩
  · simp only [Bool.not_eq_true] at g1
    go_enter Try.func4, Try.ntmps4
    go_wp2_with (first | (go_at_call 69; refine (l00In_any _ _ _ _).mono ?_; rintro e w' ⟨rfl, rfl⟩) | (go_at_call 73; refine (within_any _ _ _ _).mono ?_; rintro e w' ⟨rfl, rfl⟩) | (go_at_call 76; refine (l01Div_any _ _ _ (by omega) (by omega) (by omega) (by omega) (by omega)).mono ?_; rintro e w' ⟨rfl, rfl⟩) | (go_at_call 51; refine (divRound_any _ _ _ (by omega) (by omega) (by omega) (by omega) (by omega)).mono ?_; rintro e w' ⟨rfl, nq, rfl⟩) | go_in)
    all_goals go_ret
    all_goals exact ⟨rfl, by repeat (first | exact Below.refl _ _ | apply below_drewN | apply Below.drew | (refine Below.alloc ?_ (by (first | (simp <;> omega) | (have h2s := hb2.size; (try simp at h2s); (try simp); omega) | (have h2s := hb2.size; have h3s := hb3.size; (try simp at h2s); (try simp at h3s); (try simp); omega))) _) | (refine Below.setCell ?_ (by (first | (simp <;> omega) | (have h2s := hb2.size; (try simp at h2s); (try simp); omega) | (have h2s := hb2.size; have h3s := hb3.size; (try simp at h2s); (try simp at h3s); (try simp); omega))) _) | (refine Below.trans ?_ (hb4.mono (by (first | (simp <;> omega) | (have h2s := hb2.size; (try simp at h2s); (try simp); omega) | (have h2s := hb2.size; have h3s := hb3.size; (try simp at h2s); (try simp at h3s); (try simp); omega))))) | (refine Below.trans ?_ (hb3.mono (by (first | (simp <;> omega) | (have h2s := hb2.size; (try simp at h2s); (try simp); omega) | (have h2s := hb2.size; have h3s := hb3.size; (try simp at h2s); (try simp at h3s); (try simp); omega))))) | (refine Below.trans ?_ (hb2.mono (by (first | (simp <;> omega) | (have h2s := hb2.size; (try simp at h2s); (try simp); omega) | (have h2s := hb2.size; have h3s := hb3.size; (try simp at h2s); (try simp at h3s); (try simp); omega))))))⟩

/-! ### the row of FnExactDewPoint: the arguments are opened, the walk is met, each argument reads behind the call as before -/
namespace fnExactDewPoint
open Go.ChangeShapes Go.WideShapes Go.ChangeAt Go.RowKit Go.Joins
open Go.ChangeMaps (open_string shut_string)
set_option linter.unusedVariables false
set_option maxRecDepth 100000 in
theorem lifted (os : Os) (started : os.Started) (H : Type) (enc : TypeId × Value → H) :
    ReturnsInHanded {} Try.checked os 4 .any (Rows.fnExactDewPointSpec.pre6 enc Try.prog Try.f4 Rows.fnExactDewPointRow.domain false) (Rows.fnExactDewPointSpec.post enc Try.prog Try.f4 false true false false) := by
  refine returnsInHanded_of_change (C := Try.checked) own started (by kernel_rfl) Try.func4
    (ChangeSpec.witness6 (enc := enc) (C := Try.checked) false ⟨#[], #[.int .i64 0, .int .i64 0], []⟩ 8 (by kernel_rfl) (by kernel_rfl) (by kernel_rfl) (by kernel_rfl)) ?_
  intro W base args ds gs before hval0 hW hcnd _
  have hval : ∀ (j : Nat) t v, Try.f4.params[j]? = some t → args[j]? = some v → Value.okWide Try.prog W .any base t v := hval0
  have hW' := hW
  obtain ⟨p, q, hA0, hV, rfl, hfz, hnd⟩ := hW
  have hA : DataW.TrodAll enc Try.prog W 0 (fun _ => true) true Try.f4.params.toList args.toList ds p := hA0
  rw [Try.params4] at hA hval
  obtain ⟨v0, vs0, d0, ds0, p0, q0, hargs, rfl, rfl, h0, r0⟩ := trodAll_cons hA
  obtain ⟨v1, vs1, d1, ds1, p1, q1, rfl, rfl, rfl, h1, r1⟩ := trodAll_cons r0
  obtain ⟨rfl, rfl, rfl⟩ := trodAll_nil r1
  obtain rfl : args = #[v0, v1] := by cases args; simp_all
  obtain ⟨rfl, rfl⟩ := trodVars_none hV
  clear hA0 hval0
  simp only [List.append_nil] at hW'
  have lt0 : ∀ x ∈ p0, x.block < W.heap.size := fun x hx => by simpa using hW'.lt x (by simp [hx])
  have k0 := h0
  have lt1 : ∀ x ∈ p1, x.block < W.heap.size := fun x hx => by simpa using hW'.lt x (by simp [hx])
  have k1 := h1
  obtain ⟨a0, rfl, rfl, rfl, w0⟩ := open_int Try.underlying2 (hval 0 2 v0 rfl rfl) h0
  obtain ⟨a1, rfl, rfl, rfl, w1⟩ := open_int Try.underlying2 (hval 1 2 v1 rfl rfl) h1
  refine (law_DewPoint a0 (wf_bd w0) a1 (wf_bd w1) W).mono fun e W' ⟨he, hb⟩ => ?_
  subst he
  exact ⟨_, rfl, _, _, _, _, _, [], hW', (trodAll_cons_mk (shut_bool Try.underlying4 _) trodAll_mk0), (trodAll_cons_mk (Below.trod laidOut (by kernel_rfl) (of_decide_eq_true (by kernel_rfl)) k0 hb lt0) (trodAll_cons_mk (Below.trod laidOut (by kernel_rfl) (of_decide_eq_true (by kernel_rfl)) k1 hb lt1) trodAll_mk0)), rfl, hb.frame _, fun h => by cases h⟩

theorem proved : Rows.FnExactDewPointSaid :=
  OpenClaim.holds_of_wide 4 Try.f4 rfl rfl rfl rfl rfl rfl rfl ⟨rfl, rfl, rfl, rfl, rfl⟩ rfl rfl rfl rfl rfl (by kernel_rfl) Try.func4 (by kernel_rfl)
    (of_decide_eq_true (by kernel_rfl)) (by unfold Func.isWrapper; first | (rw [if_pos (by decide +kernel)]; kernel_rfl) | (rw [if_neg (by decide +kernel)]; exact ⟨rfl, rfl⟩))
    (fun os started H enc _ => lifted os started H enc)
#print axioms proved
end fnExactDewPoint
end Go.Proofs.Ytjpmbjhkolgiiaa
