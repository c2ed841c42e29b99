/-
  The contracts of the resistances and travel times of both texts.
-/
import Derived.Test.YtjpmbjhkolgiiaaAirway
import Derived.Test.YtjpmbjhkolgiiaaRoot
import Derived.Test.YtjpmbjhkolgiiaaSmall
namespace Go.Proofs.Ytjpmbjhkolgiiaa
open Go.RowKit
set_option linter.unusedVariables false

theorem root_le (n r R : Int) (h : IsRoot n r) (h0 : 0 ≤ R) (hR : n < (R + 1) * (R + 1)) : r ≤ R := by
  obtain ⟨a, b, c, d⟩ := h
  apply Classical.byContradiction; intro hx
  have h1 := c (by omega)
  have h2 := sq_le (R + 1) r (by omega) (by omega)
  omega
theorem root_has (n : Int) (h0 : 0 ≤ n) : ∃ r, IsRoot n r := by
  apply Classical.byContradiction; intro hx
  have hs : ∀ k : Nat, (k : Int) ≤ 3037000499 → (k : Int) * k ≤ n := by
    intro k
    induction k with
    | zero => intro _; simpa using h0
    | succ k ih =>
      intro hk
      have h1 := ih (by omega)
      apply Classical.byContradiction; intro h2
      exact hx ⟨k, by omega, by omega, fun _ => h1, fun _ => by rw [show ((k + 1 : Nat) : Int) = (k : Int) + 1 by omega] at h2; omega⟩
  exact hx ⟨3037000499, by omega, by omega, fun _ => hs 3037000499 (by omega), fun h => absurd h (by omega)⟩
theorem rootF_spec (n : Int) (h0 : 0 ≤ n) : IsRoot n (rootF n) := by
  obtain ⟨r, hr⟩ := root_has n h0
  rw [← rootF_is hr]; exact hr

noncomputable def resN (l s f k : Int) : Int := f * (l + k) * rootF (s * 10000) * 400000
noncomputable def resF (l s f k : Int) : Int := dr (resN l s f k) (s * s * s)
theorem cube_bd (s : Int) (h1 : 50 ≤ s) (h2 : s ≤ 5000) : (0 ≤ s * s ∧ s * s ≤ 25000000) ∧ 1 ≤ s * s * s ∧ s * s * s ≤ 125000000000 := by
  have a := Int.mul_le_mul h2 h2 (by omega) (by omega : (0 : Int) ≤ 5000)
  have b : 1 * 1 ≤ s * s := Int.mul_le_mul (by omega) (by omega) (by omega) (by omega)
  have c := Int.mul_le_mul a h2 (by omega) (by omega : (0 : Int) ≤ 5000 * 5000)
  have d : 1 * 1 ≤ s * s * s := Int.mul_le_mul (by omega) (by omega) (by omega) (by omega)
  exact ⟨by omega, by revert c d; generalize s * s * s = P; intro c d; omega⟩
theorem res_bd (l s f k : Int) (h1 : 1 ≤ l ∧ l ≤ 10000) (h2 : 50 ≤ s ∧ s ≤ 5000) (h3 : 1 ≤ f ∧ f ≤ 1000) (h4 : 0 ≤ k ∧ k ≤ 1000) :
    (0 ≤ f * (l + k) ∧ f * (l + k) ≤ 11000000) ∧ (0 ≤ rootF (s * 10000) ∧ rootF (s * 10000) ≤ 7072) ∧ (0 ≤ f * (l + k) * rootF (s * 10000) ∧ f * (l + k) * rootF (s * 10000) ≤ 77792000000) ∧ 0 ≤ resN l s f k ∧ resN l s f k ≤ 31116800000000000 := by
  have hr := rootF_spec (s * 10000) (by omega)
  have hr2 := root_le _ _ 7072 hr (by omega) (by omega)
  have hr1 := hr.1
  have a := Int.mul_le_mul h3.2 (show l + k ≤ 11000 by omega) (by omega) (by omega)
  have a0 : 0 ≤ f * (l + k) := Int.mul_nonneg (by omega) (by omega)
  have b := Int.mul_le_mul (show f * (l + k) ≤ 11000000 by omega) hr2 hr1 (by omega)
  have b0 : 0 ≤ f * (l + k) * rootF (s * 10000) := Int.mul_nonneg a0 hr1
  have b' : f * (l + k) * rootF (s * 10000) ≤ 77792000000 := by omega
  unfold resN
  exact ⟨⟨a0, by omega⟩, ⟨hr1, hr2⟩, ⟨b0, b'⟩, by omega, by omega⟩

theorem resP_any (a : ByteArray) (u v l s f k : Int) (h1 : 1 ≤ l ∧ l ≤ 10000) (h2 : 50 ≤ s ∧ s ≤ 5000) (h3 : 1 ≤ f ∧ f ≤ 1000) (h4 : 0 ≤ k ∧ k ≤ 1000) (w : World) :
    Calls Try.prog 82 #[.agg #[.string a, .int .i64 u, .int .i64 v, .int .i64 l, .int .i64 s, .int .i64 f, .int .i64 k]] w fun e w' => e = .returned (.int .i64 (maxI 1 (resF l s f k))) ∧ Below w.heap.size w w' := by
  have hb := res_bd l s f k h1 h2 h3 h4
  have hc := cube_bd s h2.1 h2.2
  have hd := dr_nonneg (resN l s f k) (s * s * s) (by omega) (by omega)
  unfold resN at hb hd
  unfold resF resN
  go_enter Try.func82, Try.ntmps82
  go_wp2_with (first | (go_at_call 98; refine (rootP_any _ (by omega) _).mono ?_; rintro e w' ⟨rfl, o1, u1, q1, rfl⟩) | (first | (go_at_call 69; refine (l00In_any _ _ _ _).mono ?_; rintro e w' ⟨rfl, rfl⟩) | (go_at_call 73; refine (within_any _ _ _ _).mono ?_; rintro e w' ⟨rfl, rfl⟩) | (go_at_call 76; refine (l01Div_any _ _ _ (by omega) (by omega) (by omega) (by omega) (by omega)).mono ?_; rintro e w' ⟨rfl, rfl⟩) | (go_at_call 51; refine (divRound_any _ _ _ (by omega) (by omega) (by omega) (by omega) (by omega)).mono ?_; rintro e w' ⟨rfl, nq, rfl⟩) | go_in))
  all_goals go_ret
  all_goals exact ⟨ret_int (by unfold maxI; split <;> omega), by ((repeat (first | with_reducible exact Below.refl _ _ | with_reducible apply below_drewN | with_reducible apply Below.drew | (with_reducible refine Below.alloc ?_ ?_ _) | (with_reducible refine Below.setCell ?_ ?_ _) | (with_reducible refine Below.trans ?_ (hb4.mono ?_)) | (with_reducible refine Below.trans ?_ (hb3.mono ?_)) | (with_reducible refine Below.trans ?_ (hb2.mono ?_)))); all_goals (first | (simp <;> omega) | (have h2s := hb2.size; (try simp at h2s); (try simp); omega) | (have h2s := hb2.size; have h3s := hb3.size; (try simp at h2s); (try simp at h3s); (try simp); omega) | (have h2s := hb2.size; have h3s := hb3.size; have h4s := hb4.size; (try simp at h2s); (try simp at h3s); (try simp at h4s); (try simp); omega)))⟩

theorem rawS_any (b : Nat) (a : ByteArray) (u v l s f k : Int) (h1 : 1 ≤ l ∧ l ≤ 10000) (h2 : 50 ≤ s ∧ s ≤ 5000) (h3 : 1 ≤ f ∧ f ≤ 1000) (h4 : 0 ≤ k ∧ k ≤ 1000) (w : World)
    (c3 : w.cell? ⟨b, 3, none⟩ = some (.int .i64 l)) (c5 : w.cell? ⟨b, 5, none⟩ = some (.int .i64 f)) (c6 : w.cell? ⟨b, 6, none⟩ = some (.int .i64 k)) :
    Calls Try.prog 97 #[.pointer (some ⟨b, 0, none⟩), .int .i64 s] w fun e w' => e = .returned (.int .i64 (resF l s f k)) ∧ ∃ q, w' = w.drewN q := by
  have hb := res_bd l s f k h1 h2 h3 h4
  have hc := cube_bd s h2.1 h2.2
  unfold resN at hb
  unfold resF resN
  have q1 : IntKind.i64.wrap (l + k) = l + k := IntWalk.i64_in _ (by omega)
  have q2 : IntKind.i64.wrap (f * (l + k)) = f * (l + k) := IntWalk.i64_in _ (by omega)
  have q3 : IntKind.i64.wrap (s * 10000) = s * 10000 := IntWalk.i64_in _ (by omega)
  have q4 : IntKind.i64.wrap (f * (l + k) * rootF (s * 10000)) = f * (l + k) * rootF (s * 10000) := IntWalk.i64_in _ (by omega)
  have q5 : IntKind.i64.wrap (f * (l + k) * rootF (s * 10000) * 400000) = f * (l + k) * rootF (s * 10000) * 400000 := IntWalk.i64_in _ (by omega)
  have q6 : IntKind.i64.wrap (s * s) = s * s := IntWalk.i64_in _ (by omega)
  have q7 : IntKind.i64.wrap (s * s * s) = s * s * s := IntWalk.i64_in _ (by omega)
  go_enter Try.func97, Try.ntmps97
  go_wp2_with fail
  go_quiet ((first | (go_at_call 102; exact quiet_left (l01Root_any _ _)) | (go_at_call 76; exact quiet_left (l01Div_any _ _ _ (by omega) (by omega) (by omega) (by omega) (by omega)))))
  go_wp2_with fail
  go_ret
  exact ⟨rfl, _, rfl⟩

def timeF (l s q : Int) : Int := (l * s + absI q - 1) / absI q
theorem time_bd (l s q : Int) (h1 : 1 ≤ l ∧ l ≤ 10000) (h2 : 50 ≤ s ∧ s ≤ 5000) (h3 : -100000 ≤ q ∧ q ≤ 100000) (h4 : ¬ q = 0) : (0 ≤ l * s ∧ l * s ≤ 50000000) ∧ 1 ≤ absI q ∧ absI q ≤ 100000 := by
  have a := Int.mul_le_mul h1.2 h2.2 (by omega) (by omega)
  have b : 0 ≤ l * s := Int.mul_nonneg (by omega) (by omega)
  exact ⟨by omega, by unfold absI; split <;> omega⟩
theorem timeS_any (b : Nat) (l s q : Int) (w : World) (h1 : 1 ≤ l ∧ l ≤ 10000) (h2 : 50 ≤ s ∧ s ≤ 5000) (h3 : -100000 ≤ q ∧ q ≤ 100000) (h4 : ¬ q = 0) (c3 : w.cell? ⟨b, 3, none⟩ = some (.int .i64 l)) (c4 : w.cell? ⟨b, 4, none⟩ = some (.int .i64 s)) :
    Calls Try.prog 78 #[.pointer (some ⟨b, 0, none⟩), .int .i64 q] w fun e w' => e = .returned (.int .i64 (timeF l s q)) ∧ ∃ n, w' = w.drewN n := by
  have hb := time_bd l s q h1 h2 h3 h4
  have q1 : IntKind.i64.wrap (l * s) = l * s := IntWalk.i64_in _ (by omega)
  have q2 : IntKind.i64.wrap (l * s + absI q) = l * s + absI q := IntWalk.i64_in _ (by omega)
  have q3 : IntKind.i64.wrap (l * s + absI q - 1) = l * s + absI q - 1 := IntWalk.i64_in _ (by omega)
  have q4 : IntKind.i64.wrap ((l * s + absI q - 1).tdiv (absI q)) = (l * s + absI q - 1) / absI q := IntWalk.i64_quo _ _ (by omega)
  clear h4
  go_enter Try.func78, Try.ntmps78
  go_wp2_with (go_at_call 95; refine (l03Abs_any _ _ (by omega) (by omega)).mono ?_; rintro e w' ⟨rfl, rfl⟩)
  go_quiet (fail)
  go_wp2_with fail
  go_ret
  exact ⟨rfl, _, rfl⟩
theorem timeP_any (a : ByteArray) (u v l s f k q : Int) (ha : a.size ≤ maxLen) (w : World) (hv : airB a u v l s f k = true) (h3 : -100000 ≤ q ∧ q ≤ 100000) (h4 : ¬ q = 0) :
    Calls Try.prog 44 #[.agg #[.string a, .int .i64 u, .int .i64 v, .int .i64 l, .int .i64 s, .int .i64 f, .int .i64 k], .int .i64 q] w fun e w' => e = .returned (.tuple #[.int .i64 (timeF l s q), .int .i64 0]) ∧ Below w.heap.size w w' := by
  have hs := air_bd hv
  have hb := time_bd l s q (by omega) (by omega) h3 h4
  have q0 : inB q (-100000) 100000 = true := inB_true.2 h3
  have h5 : (q == 0) = false := by simpa using h4
  go_enter Try.func44, Try.ntmps44
  go_wp2_with (first | (go_at_call 32; refine (toAirway_any _ _ _ _ _ _ _ _).mono ?_; rintro e w' ⟨rfl, o1, o2, o3, u1, u2, u3, rfl⟩) | (go_at_call 33; refine (validAirway_any _ _ _ _ _ _ _ ha _).mono ?_; rintro e w' ⟨rfl, o4, u4, rfl⟩) | (go_at_call 70; refine (l03Ok_any _ a u v l s f k ha _ (by simp [go_sem]) (by simp [go_sem]) (by simp [go_sem]) (by simp [go_sem]) (by simp [go_sem]) (by simp [go_sem]) (by simp [go_sem])).mono ?_; rintro e w' ⟨rfl, q5, rfl⟩) | (first | (go_at_call 69; refine (l00In_any _ _ _ _).mono ?_; rintro e w' ⟨rfl, rfl⟩) | (go_at_call 73; refine (within_any _ _ _ _).mono ?_; rintro e w' ⟨rfl, rfl⟩) | (go_at_call 76; refine (l01Div_any _ _ _ (by omega) (by omega) (by omega) (by omega) (by omega)).mono ?_; rintro e w' ⟨rfl, rfl⟩) | (go_at_call 51; refine (divRound_any _ _ _ (by omega) (by omega) (by omega) (by omega) (by omega)).mono ?_; rintro e w' ⟨rfl, nq, rfl⟩) | go_in))
  have q1 : IntKind.i64.wrap (l * s) = l * s := IntWalk.i64_in _ (by omega)
  go_quiet ((first | (go_at_call 80; exact quiet_left (abs_any _ _ (by omega) (by omega))) | (go_at_call 79; exact quiet_left (divUp_any _ _ _ (by omega) (by omega) (by omega) (by omega)))))
  clear q1
  go_wp2_with fail
  go_ret2
  exact ⟨rfl, by ((repeat (first | with_reducible exact Below.refl _ _ | with_reducible apply below_drewN | with_reducible apply Below.drew | (with_reducible refine Below.alloc ?_ ?_ _) | (with_reducible refine Below.setCell ?_ ?_ _) | (with_reducible refine Below.trans ?_ (hb4.mono ?_)) | (with_reducible refine Below.trans ?_ (hb3.mono ?_)) | (with_reducible refine Below.trans ?_ (hb2.mono ?_)))); all_goals (first | (simp <;> omega) | (have h2s := hb2.size; (try simp at h2s); (try simp); omega) | (have h2s := hb2.size; have h3s := hb3.size; (try simp at h2s); (try simp at h3s); (try simp); omega) | (have h2s := hb2.size; have h3s := hb3.size; have h4s := hb4.size; (try simp at h2s); (try simp at h3s); (try simp at h4s); (try simp); omega)))⟩
end Go.Proofs.Ytjpmbjhkolgiiaa
