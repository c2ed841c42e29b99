/-
  FnDrops: drops change their sign with the flow and grow with it, and the greatest flow with a drop is the last one.
-/
import Derived.Test.YtmkljkeokcokgaaBytes
import Derived.Test.YtmkljkeokcokgaaFlow
import Derived.Test.YtmkljkeokcokgaaNum
import Derived.RowKit3
import Derived.ProofKit
import Derived.OpenShut
import Derived.Lib.SmallJoins
namespace Go.Proofs.Ytmkljkeokcokgaa
open Go.RowKit
set_option linter.unusedVariables false

theorem stepB {w w1 w2 : World} (h1 : Below w.heap.size w w1) (h2 : Below w1.heap.size w1 w2) : Below w.heap.size w w2 := h1.trans (h2.mono h1.size)

theorem most_has (r d : Int) (hr : 1 ≤ r) (hd : 0 ≤ d) : ∃ m, IsMost r d m := by
  apply Classical.byContradiction; intro hx
  have hs : ∀ k : Nat, (k : Int) ≤ 100000 → dropF r k ≤ d := by
    intro k
    induction k with
    | zero => intro _; rw [show ((0 : Nat) : Int) = 0 by rfl, dropF_zero]; exact hd
    | succ k ih =>
      intro hk
      have h1 := ih (by omega)
      apply Classical.byContradiction; intro h2
      exact hx ⟨k, by omega, by omega, fun _ => h1, fun _ => by rw [show ((k + 1 : Nat) : Int) = (k : Int) + 1 by omega] at h2; omega⟩
  exact hx ⟨100000, by omega, by omega, fun _ => hs 100000 (by omega), fun h => absurd h (by omega)⟩
theorem most_spec (r d : Int) (hr : 1 ≤ r) (hd : 0 ≤ d) : IsMost r d (mostF r d) := by
  obtain ⟨m, hm⟩ := most_has r d hr hd
  rw [← mostF_is hr hm]; exact hm
theorem dropF_neg (r q : Int) : dropF r (-q) = -dropF r q := by
  unfold dropF
  rw [show absI (-q) = absI q by unfold absI; split <;> split <;> omega, Int.mul_neg, Int.neg_mul]
  exact dr_neg _ _ (by omega)
theorem dropF_small (r q : Int) (h1 : 1 ≤ r) (h2 : r ≤ 60000) (h3 : 0 ≤ q) (h4 : q ≤ 40000) : 0 ≤ dropF r q ∧ dropF r q ≤ 10000 := by
  have a := dropF_mono r 0 q h1 (by omega) h3
  rw [dropF_zero] at a
  refine ⟨a, ?_⟩
  unfold dropF
  have e : absI q = q := by unfold absI; split <;> omega
  rw [e]
  have b := Int.mul_le_mul h2 h4 h3 (by omega)
  have b0 : 0 ≤ r * q := Int.mul_nonneg (by omega) h3
  have c := Int.mul_le_mul b h4 h3 (by omega)
  have c0 : 0 ≤ r * q * q := Int.mul_nonneg b0 h3
  have d := dr_le (r * q * q) 10000000000 9600 (by omega) (by omega) (absI_le (by omega) (by omega))
  have := of_absI d
  omega

theorem dropW_any (r q : Int) (w : World) (h1 : 1 ≤ r) (h2 : r ≤ 1000000) (h3 : -100000 ≤ q) (h4 : q ≤ 100000) :
    Calls Try.prog 16 #[.int .i64 r, .int .i64 q] w fun e w' => e = .returned (.tuple #[.int .i64 (dropF r q), .int .i64 0]) ∧ Below w.heap.size w w' := by
  have g1 : inB r 1 1000000 = true := inB_true.2 ⟨h1, h2⟩
  have g2 : inB q (-100000) 100000 = true := inB_true.2 ⟨h3, h4⟩
  go_enter Try.func16, Try.ntmps16
  go_wp2_with (first | (go_at_call 48; refine (l03Abs_any _ _ (by omega) (by omega)).mono ?_; rintro e w' ⟨rfl, rfl⟩) | (go_at_call 76; refine (abs_any _ _ (by omega) (by omega)).mono ?_; rintro e w' ⟨rfl, rfl⟩) | (go_at_call 46; refine (dropOf_any _ _ _ (by omega) (by omega) (by omega) (by omega)).mono ?_; rintro e w' ⟨rfl, nd, rfl⟩) | (go_at_call 43; refine (l03Drop_any _ _ _ (by omega) (by omega) (by omega) (by omega)).mono ?_; rintro e w' ⟨rfl, ns, rfl⟩) | (go_at_call 49; refine (airPowerP_any _ _ _ (by omega) (by omega) (by omega) (by omega)).mono ?_; rintro e w' ⟨rfl, np, rfl⟩) | (first | (go_at_call 50; refine (l00In_any _ _ _ _).mono ?_; rintro e w' ⟨rfl, rfl⟩) | (go_at_call 52; refine (within_any _ _ _ _).mono ?_; rintro e w' ⟨rfl, rfl⟩) | (go_at_call 47; refine (l01Div_any _ _ _ (by omega) (by omega) (by omega) (by omega) (by omega)).mono ?_; rintro e w' ⟨rfl, rfl⟩) | (go_at_call 63; refine (divRound_any _ _ _ (by omega) (by omega) (by omega) (by omega) (by omega)).mono ?_; rintro e w' ⟨rfl, nq, rfl⟩) | go_in))
  go_ret2
  exact ⟨rfl, by ((repeat (first | with_reducible exact Below.refl _ _ | with_reducible apply below_drewN | with_reducible apply Below.drew | (with_reducible refine Below.alloc ?_ ?_ _) | (with_reducible refine Below.setCell ?_ ?_ _) | (with_reducible refine Below.trans ?_ (hb4.mono ?_)) | (with_reducible refine Below.trans ?_ (hb3.mono ?_)) | (with_reducible refine Below.trans ?_ (hb2.mono ?_)))); all_goals (first | (simp <;> omega) | (have h2s := hb2.size; (try simp at h2s); (try simp); omega) | (have h2s := hb2.size; have h3s := hb3.size; (try simp at h2s); (try simp at h3s); (try simp); omega) | (have h2s := hb2.size; have h3s := hb3.size; have h4s := hb4.size; (try simp at h2s); (try simp at h3s); (try simp at h4s); (try simp); omega)))⟩
theorem airW_any (r q : Int) (w : World) (h1 : 1 ≤ r) (h2 : r ≤ 1000000) (h3 : -100000 ≤ q) (h4 : q ≤ 100000) :
    Calls Try.prog 18 #[.int .i64 r, .int .i64 q] w fun e w' => e = .returned (.tuple #[.int .i64 (powF r q), .int .i64 0]) ∧ Below w.heap.size w w' := by
  have g1 : inB r 1 1000000 = true := inB_true.2 ⟨h1, h2⟩
  have g2 : inB q (-100000) 100000 = true := inB_true.2 ⟨h3, h4⟩
  go_enter Try.func18, Try.ntmps18
  go_wp2_with (first | (go_at_call 48; refine (l03Abs_any _ _ (by omega) (by omega)).mono ?_; rintro e w' ⟨rfl, rfl⟩) | (go_at_call 76; refine (abs_any _ _ (by omega) (by omega)).mono ?_; rintro e w' ⟨rfl, rfl⟩) | (go_at_call 46; refine (dropOf_any _ _ _ (by omega) (by omega) (by omega) (by omega)).mono ?_; rintro e w' ⟨rfl, nd, rfl⟩) | (go_at_call 43; refine (l03Drop_any _ _ _ (by omega) (by omega) (by omega) (by omega)).mono ?_; rintro e w' ⟨rfl, ns, rfl⟩) | (go_at_call 49; refine (airPowerP_any _ _ _ (by omega) (by omega) (by omega) (by omega)).mono ?_; rintro e w' ⟨rfl, np, rfl⟩) | (first | (go_at_call 50; refine (l00In_any _ _ _ _).mono ?_; rintro e w' ⟨rfl, rfl⟩) | (go_at_call 52; refine (within_any _ _ _ _).mono ?_; rintro e w' ⟨rfl, rfl⟩) | (go_at_call 47; refine (l01Div_any _ _ _ (by omega) (by omega) (by omega) (by omega) (by omega)).mono ?_; rintro e w' ⟨rfl, rfl⟩) | (go_at_call 63; refine (divRound_any _ _ _ (by omega) (by omega) (by omega) (by omega) (by omega)).mono ?_; rintro e w' ⟨rfl, nq, rfl⟩) | go_in))
  go_ret2
  exact ⟨rfl, by ((repeat (first | with_reducible exact Below.refl _ _ | with_reducible apply below_drewN | with_reducible apply Below.drew | (with_reducible refine Below.alloc ?_ ?_ _) | (with_reducible refine Below.setCell ?_ ?_ _) | (with_reducible refine Below.trans ?_ (hb4.mono ?_)) | (with_reducible refine Below.trans ?_ (hb3.mono ?_)) | (with_reducible refine Below.trans ?_ (hb2.mono ?_)))); all_goals (first | (simp <;> omega) | (have h2s := hb2.size; (try simp at h2s); (try simp); omega) | (have h2s := hb2.size; have h3s := hb3.size; (try simp at h2s); (try simp at h3s); (try simp); omega) | (have h2s := hb2.size; have h3s := hb3.size; have h4s := hb4.size; (try simp at h2s); (try simp at h3s); (try simp at h4s); (try simp); omega)))⟩
theorem divW_any (a : Int) (w : World) (h1 : -1000000000000 ≤ a) (h2 : a ≤ 1000000000000) :
    Calls Try.prog 22 #[.int .i64 a, .int .i64 100] w fun e w' => e = .returned (.int .i64 (dr a 100)) ∧ w = w' := by
  have g1 : inB a (-1000000000000) 1000000000000 = true := inB_true.2 ⟨h1, h2⟩
  have g2 : inB 100 (-1000000000000) 1000000000000 = true := by decide
  go_enter Try.func22, Try.ntmps22
  go_wp2_with (first | (go_at_call 48; refine (l03Abs_any _ _ (by omega) (by omega)).mono ?_; rintro e w' ⟨rfl, rfl⟩) | (go_at_call 76; refine (abs_any _ _ (by omega) (by omega)).mono ?_; rintro e w' ⟨rfl, rfl⟩) | (go_at_call 46; refine (dropOf_any _ _ _ (by omega) (by omega) (by omega) (by omega)).mono ?_; rintro e w' ⟨rfl, nd, rfl⟩) | (go_at_call 43; refine (l03Drop_any _ _ _ (by omega) (by omega) (by omega) (by omega)).mono ?_; rintro e w' ⟨rfl, ns, rfl⟩) | (go_at_call 49; refine (airPowerP_any _ _ _ (by omega) (by omega) (by omega) (by omega)).mono ?_; rintro e w' ⟨rfl, np, rfl⟩) | (first | (go_at_call 50; refine (l00In_any _ _ _ _).mono ?_; rintro e w' ⟨rfl, rfl⟩) | (go_at_call 52; refine (within_any _ _ _ _).mono ?_; rintro e w' ⟨rfl, rfl⟩) | (go_at_call 47; refine (l01Div_any _ _ _ (by omega) (by omega) (by omega) (by omega) (by omega)).mono ?_; rintro e w' ⟨rfl, rfl⟩) | (go_at_call 63; refine (divRound_any _ _ _ (by omega) (by omega) (by omega) (by omega) (by omega)).mono ?_; rintro e w' ⟨rfl, nq, rfl⟩) | go_in))
  go_ret
  exact ⟨rfl, rfl⟩

theorem drops_walk (A : Option Addr) (n c : Nat) (hm : n ≤ maxLen) (w : World) (hx : Byts w A n) :
    Calls Try.prog 6 #[.slice A n c] w fun e w' => e = .returned (.bool true) ∧ Below w.heap.size w w' := by
  unfold maxLen at hm
  have HX := Lib.hid hx
  clear hx
  by_cases h20 : 1048576 < n
  · go_enter Try.func6, Try.ntmps6
    go_wp2_with fail
    go_ret
    exact ⟨rfl, by ((repeat (first | with_reducible exact Below.refl _ _ | with_reducible apply below_drewN | with_reducible apply Below.drew | (with_reducible refine Below.alloc ?_ ?_ _) | (with_reducible refine Below.setCell ?_ ?_ _) | (with_reducible refine Below.trans ?_ (hb4.mono ?_)) | (with_reducible refine Below.trans ?_ (hb3.mono ?_)) | (with_reducible refine Below.trans ?_ (hb2.mono ?_)))); all_goals (first | (simp <;> omega) | (have h2s := hb2.size; (try simp at h2s); (try simp); omega) | (have h2s := hb2.size; have h3s := hb3.size; (try simp at h2s); (try simp at h3s); (try simp); omega) | (have h2s := hb2.size; have h3s := hb3.size; have h4s := hb4.size; (try simp at h2s); (try simp at h3s); (try simp at h4s); (try simp); omega)))⟩
  · have h20 : n ≤ 1048576 := by omega
    go_enter Try.func6, Try.ntmps6
    go_wp2_with fail
    refine (r8Wide_any _ _ _ _ _ _ (by omega) (by omega) (by omega) (by omega) (by omega) HX.out).mono ?_; rintro e w' ⟨r0, rfl, a1, a2, q1, rfl⟩
    go_wp2_with fail
    have b1 : Below w.heap.size w (w.drewN q1) := below_drewN (Below.refl _ _) _
    have a5 : 1 ≤ 1 + r0 := by omega
    have a6 : 1 + r0 ≤ 60000 := by omega
    clear a1 a2
    refine (r8Wide_any _ _ _ _ _ _ (by omega) (by omega) (by omega) (by omega) (by omega) (HX.out.next b1)).mono ?_; rintro e w' ⟨q, rfl, a3, a4, q2, rfl⟩
    have b2 : Below w.heap.size w ((w.drewN q1).drewN q2) := below_drewN b1 _
    generalize (w.drewN q1).drewN q2 = w2 at b2 ⊢
    clear b1
    have e1 := dropF_neg (1 + r0) q
    have e2 : powF (1 + r0) q = dr (dropF (1 + r0) q * q) 100 := by unfold powF; rw [show absI q = q by unfold absI; split <;> omega]
    have f1 := dropF_small (1 + r0) q (by omega) (by omega) (by omega) (by omega)
    have f2 := dropF_mono (1 + r0) q (q + 1) (by omega) (by omega) (by omega)
    have f3 := dropF_small (1 + r0) (q + 1) (by omega) (by omega) (by omega) (by omega)
    have f4 := Int.mul_le_mul f1.2 (show q ≤ 40000 by omega) (by omega) (by omega)
    have f5 : 0 ≤ dropF (1 + r0) q * q := Int.mul_nonneg f1.1 (by omega)
    go_wp2_with fail
    refine (dropW_any _ _ _ (by omega) (by omega) (by omega) (by omega)).mono ?_; rintro e w3 ⟨rfl, b3⟩
    go_wp2_with fail
    refine (dropW_any _ _ _ (by omega) (by omega) (by omega) (by omega)).mono ?_; rw [e1]; rintro e w4 ⟨rfl, b4⟩
    go_wp2_with fail
    refine (dropW_any _ _ _ (by omega) (by omega) (by omega) (by omega)).mono ?_; rintro e w5 ⟨rfl, b5⟩
    go_wp2_with fail
    refine (airW_any _ _ _ (by omega) (by omega) (by omega) (by omega)).mono ?_; rw [e2]; rintro e w6 ⟨rfl, b6⟩
    have c6 := stepB (stepB (stepB (stepB b2 b3) b4) b5) b6
    clear b2 b3 b4 b5 b6 e1 e2
    go_wp2_with (go_at_call 22; refine (divW_any _ _ (by omega) (by omega)).mono ?_; rintro e w' ⟨rfl, rfl⟩)
    refine (r8Wide_any _ _ _ _ _ _ (by omega) (by omega) (by omega) (by omega) (by omega) (HX.out.next c6)).mono ?_; rintro e w' ⟨d, rfl, a7, a8, q7, rfl⟩
    have c7 : Below w.heap.size w (w6.drewN q7) := below_drewN c6 _
    generalize w6.drewN q7 = w7 at c7 ⊢
    have hmost := most_spec (1 + r0) d (by omega) a7
    obtain ⟨m1, m2, m3, m4⟩ := hmost
    have m5 : dropF (1 + r0) (mostF (1 + r0) d) ≤ d := by
      by_cases hz : 0 < mostF (1 + r0) d
      · exact m3 hz
      · rw [show mostF (1 + r0) d = 0 by omega, dropF_zero]; exact a7
    clear m3
    go_wp2_with fail
    refine (flowForP_any _ _ _ (inB_true.2 (by omega)) (inB_true.2 (by omega))).mono ?_; rintro e w8 ⟨rfl, b8⟩
    have c8 := stepB c7 b8
    clear c6 c7 b8
    generalize mostF (1 + r0) d = M at *
    by_cases hM : M = 100000
    · subst hM
      go_wp2_with fail
      refine (dropW_any _ _ _ (by omega) (by omega) (by omega) (by omega)).mono ?_; rintro e w9 ⟨rfl, b9⟩
      go_wp2_with fail
      go_ret
      exact ⟨rfl, stepB c8 b9⟩
    · have m6 := m4 (by omega)
      have hM2 : (M == 100000) = false := by simpa using hM
      clear m4
      go_wp2_with fail
      refine (dropW_any _ _ _ (by omega) (by omega) (by omega) (by omega)).mono ?_; rintro e w9 ⟨rfl, b9⟩
      go_wp2_with fail
      refine (dropW_any _ _ _ (by omega) (by omega) (by omega) (by omega)).mono ?_; rintro e w10 ⟨rfl, b10⟩
      go_wp2_with fail
      go_ret
      exact ⟨rfl, stepB (stepB c8 b9) b10⟩

/-! ### the row of FnDrops: the arguments are opened, the walk is met, each argument reads behind the call as before -/
namespace fnDrops
open Go.ChangeShapes Go.WideShapes Go.ChangeAt Go.RowKit Go.Joins
open Go.ChangeMaps (open_string shut_string)
set_option linter.unusedVariables false
set_option maxRecDepth 100000 in
theorem lifted (os : Os) (started : os.Started) (H : Type) (enc : TypeId × Value → H) :
    ReturnsInHanded {} Try.checked os 6 .any (Rows.fnDropsSpec.pre6 enc Try.prog Try.f6 Rows.fnDropsRow.domain false) (Rows.fnDropsSpec.post enc Try.prog Try.f6 false true false false) := by
  refine returnsInHanded_of_change (C := Try.checked) own started (by kernel_rfl) Try.func6
    (ChangeSpec.witness6 (enc := enc) (C := Try.checked) false ⟨#[], #[.slice none 0 0], []⟩ 8 (by kernel_rfl) (by kernel_rfl) (by kernel_rfl) (by kernel_rfl)) ?_
  intro W base args ds gs before hval0 hW hcnd _
  have hval : ∀ (j : Nat) t v, Try.f6.params[j]? = some t → args[j]? = some v → Value.okWide Try.prog W .any base t v := hval0
  have hW' := hW
  obtain ⟨p, q, hA0, hV, rfl, hfz, hnd⟩ := hW
  have hA : DataW.TrodAll enc Try.prog W 0 (fun _ => true) true Try.f6.params.toList args.toList ds p := hA0
  rw [Try.params6] at hA hval
  obtain ⟨v0, vs0, d0, ds0, p0, q0, hargs, rfl, rfl, h0, r0⟩ := trodAll_cons hA
  obtain ⟨rfl, rfl, rfl⟩ := trodAll_nil r0
  obtain rfl : args = #[v0] := by cases args; simp_all
  obtain ⟨rfl, rfl⟩ := trodVars_none hV
  clear hA0 hval0
  simp only [List.append_nil] at hW'
  have lt0 : ∀ x ∈ p0, x.block < W.heap.size := fun x hx => by simpa using hW'.lt x (by simp [hx])
  have k0 := h0
  obtain ⟨A0, len0, cap0, rfl⟩ := okWide_slice Try.underlying25 (hval 0 25 v0 rfl rfl)
  obtain ⟨hm0, hx0⟩ := view_bytes Try.underlying25 Try.underlying5 (by kernel_rfl) h0
  refine (drops_walk A0 len0 cap0 hm0 W hx0).mono fun e W' ⟨he, hb⟩ => ?_
  subst he
  exact ⟨_, rfl, _, _, _, _, _, [], hW', (trodAll_cons_mk (shut_bool Try.underlying4 _) trodAll_mk0), (trodAll_cons_mk (Below.trod laidOut (by kernel_rfl) (of_decide_eq_true (by kernel_rfl)) k0 hb lt0) trodAll_mk0), rfl, hb.frame _, fun h => by cases h⟩

theorem proved : Rows.FnDropsSaid :=
  OpenClaim.holds_of_wide 6 Try.f6 rfl rfl rfl rfl rfl rfl rfl ⟨rfl, rfl, rfl, rfl, rfl⟩ rfl rfl rfl rfl rfl (by kernel_rfl) Try.func6 (by kernel_rfl)
    (of_decide_eq_true (by kernel_rfl)) (by unfold Func.isWrapper; first | (rw [if_pos (by decide +kernel)]; kernel_rfl) | (rw [if_neg (by decide +kernel)]; exact ⟨rfl, rfl⟩))
    (fun os started H enc _ => lifted os started H enc)
#print axioms proved
end fnDrops
end Go.Proofs.Ytmkljkeokcokgaa
