/-
  FnExactDropAirway: for every mine and every name the program's DropAirway returns what the reference's returns; the mine and the result stay the caller's own.
-/
import Derived.Test.YtgiokjflfadeeaaDropP
import Derived.Test.YtgiokjflfadeeaaMarkWay
import Derived.Test.YtgiokjflfadeeaaListLaw
import Derived.Test.YtgiokjflfadeeaaRowM
import Derived.Test.YtgiokjflfadeeaaNum
import Derived.RowKit3
import Derived.ProofKit
import Derived.OpenShut
import Derived.Lib.SmallJoins
namespace Go.Proofs.Ytgiokjflfadeeaa
open Go.RowKit
set_option linter.unusedVariables false

set_option maxHeartbeats 4000000 in
set_option maxRecDepth 100000 in
theorem law_DropAirway (j : Int) (A : Option Addr) (n c : Nat) (xs : List AW) (hn : xs.length = n) (hm : n ≤ maxLen) (hs : ∀ k, k < n → (atA xs k).a.size ≤ maxLen) (s : ByteArray) (hm_s : s.size ≤ maxLen) (w : World) (hx : Airs w A xs) :
    Calls Try.prog 3 #[.agg #[.int .i64 j, .slice A n c], .string s] w fun e w' => e = .returned (.bool true) ∧ Below w.heap.size w w' := by
  unfold maxLen at hm hm_s
  have HX := Lib.hid hx
  have HN := Lib.hid hn
  have HS := Lib.hid hs
  have b0 : Below w.heap.size w (w.alloc (.cells #[.int .i64 j, .slice A n c] 24)) := (Below.refl _ _).alloc (Nat.le_refl _) _
  have M00 := Lib.hid (mc_new w j (.slice A n c) 24)
  have B0 := Lib.hid b0
  clear hx hn hs b0
  by_cases h20s : s.size ≤ 1048576
  · have h20i : ¬ (1048576 : Int) < s.size := by omega
    go_enter Try.func3, Try.ntmps3
    go_wp2_with fail
    refine (szMine_any j A c xs n 1048576 _ HN.out (by unfold maxLen; omega) (by omega) (by omega) HS.out (HX.out.next B0.out)).mono ?_; rintro e w1 ⟨r, rfl, hr, b1⟩
    have M01 := Lib.hid (M00.out.next b1)
    obtain ⟨m0, m1⟩ := M01.out
    have C1 := Lib.hid (stepB B0.out b1)
    clear b1
    by_cases hr0 : r < 0
    · go_wp2_with fail
      go_ret
      exact ⟨rfl, C1.out⟩
    · have hr2 := hr.resolve_left hr0
      have h20 : n ≤ 1048576 := by have := HN.out; omega
      clear hr
      have hr0 : 0 ≤ r := by omega
      clear hr2
      obtain ⟨ys, hys⟩ : ∃ ys, ys = dropX j xs s := ⟨_, rfl⟩
      obtain ⟨jj, hjj⟩ : ∃ jj, jj = dropJ j xs s := ⟨_, rfl⟩
      obtain ⟨cd, hcd⟩ : ∃ cd, cd = dropC j xs s := ⟨_, rfl⟩
      obtain ⟨M, hM⟩ : ∃ M, M = ys.length := ⟨_, rfl⟩
      have hM20 : M ≤ 1048576 := by have := drop_len j xs s; have := HN.out; rw [hM, hys]; omega
      have HL := Lib.hid (show ys.length = M from hM.symm)
      have HYS := Lib.hid hys
      have HJJ := Lib.hid hjj
      have HCD := Lib.hid hcd
      clear hys hjj hcd hM
      go_wp2_with fail
      refine (toMine_any j A c xs n _ HN.out h20 (HX.out.next C1.out)).mono ?_; rintro e w2 ⟨g2, rfl, hg2, r2, b2⟩
      clear m0 m1
      go_wp2_with fail
      refine (drS_any j _ _ xs n s _ HN.out h20 HS.out (r2.airs HN.out)).mono ?_; rw [← HYS.out, ← HJJ.out, ← HCD.out]; rintro e w3 ⟨v0, rfl, ho0, b3⟩
      obtain ⟨A0, k0, ev0, j0⟩ := ho0.reads
      rw [HL.out] at ev0
      subst ev0
      have a3 : Below w3.heap.size w3 (w3.alloc (.cells #[.int .i64 jj, .slice A0 M k0] 28)) := (Below.refl _ _).alloc (Nat.le_refl _) _
      have c13 : Below w1.heap.size w1 (w3.alloc (.cells #[.int .i64 jj, .slice A0 M k0] 28)) := stepB (stepB b2 b3) a3
      have C3 := Lib.hid (stepB C1.out c13)
      have J0 := Lib.hid (j0.next a3)
      have M03 := Lib.hid (M01.out.next c13)
      have M63 := Lib.hid (mc_new w3 jj (.slice A0 M k0) 28)
      obtain ⟨m0, m1⟩ := M03.out
      clear ho0 j0 a3 c13 b2 b3 r2 hg2
      go_wp2_with fail
      obtain ⟨W3, hW3⟩ : ∃ W3, W3 = w3.alloc (.cells #[.int .i64 jj, .slice A0 M k0] 28) := ⟨_, rfl⟩
      have hg6 : w3.heap.size < W3.heap.size := by rw [hW3]; simp
      have hg0 : w.heap.size < W3.heap.size := by rw [hW3]; exact World.block_lt_of_cell? _ _ M03.out.c0
      rw [← hW3] at C3 J0 M03 M63 ⊢
      clear m0 m1 hW3
      refine (toMine_any j A c xs n _ HN.out h20 (HX.out.next C3.out)).mono ?_; rintro e w4 ⟨g4, rfl, hg4, r4, b4⟩
      have a4 : Below w4.heap.size w4 (w4.alloc (.cells #[.int .i64 j, .slice (some ⟨g4, 0, none⟩) n n] 28)) := (Below.refl _ _).alloc (Nat.le_refl _) _
      have D4 := Lib.hid (stepB b4 a4)
      have R4 := Lib.hid (r4.next a4)
      have AX4 := Lib.hid ((r4.airs HN.out).next a4)
      have hg48 : g4 < w4.heap.size := r4.lt
      have M84 := Lib.hid (mc_new w4 j (.slice (some ⟨g4, 0, none⟩) n n) 28)
      obtain ⟨m80, m81⟩ := M84.out
      have hs34 := b4.size
      clear r4 b4 a4
      go_wp2_with fail
      obtain ⟨W4, hW4⟩ : ∃ W4, W4 = w4.alloc (.cells #[.int .i64 j, .slice (some ⟨g4, 0, none⟩) n n] 28) := ⟨_, rfl⟩
      have hg8 : w4.heap.size < W4.heap.size := by rw [hW4]; simp
      rw [← hW4] at D4 R4 AX4 M84 ⊢
      clear m80 m81 hW4
      refine (drP_any j _ _ xs n s _ HN.out h20 HS.out AX4.out).mono ?_; rw [← HYS.out, ← HJJ.out, ← HCD.out]; rintro e w5 ⟨v5, rfl, ho5, b5⟩
      obtain ⟨A5, k5, ev5, _⟩ := ho5.reads
      rw [HL.out] at ev5
      subst ev5
      have a5 : Below w5.heap.size w5 (w5.alloc (.cells #[.int .i64 jj, .slice A5 M k5] 28)) := (Below.refl _ _).alloc (Nat.le_refl _) _
      have b45 := stepB b5 a5
      have D5 := Lib.hid (stepB D4.out b45)
      have R5 := Lib.hid (R4.out.next b45)
      have AX5 := Lib.hid (AX4.out.next b45)
      have M85 := Lib.hid (M84.out.next b45)
      have M65 := Lib.hid (M63.out.next D5.out)
      have M95 := Lib.hid (mc_new w5 jj (.slice A5 M k5) 28)
      have HO5 := Lib.hid (ho5.below a5)
      have O5 := Lib.hid (own_row ho5)
      have hs45 := b5.size
      obtain ⟨m60, m61⟩ := M65.out
      obtain ⟨m90, m91⟩ := M95.out
      clear ho5 b5 a5 b45
      go_wp2_with fail
      obtain ⟨W5, hW5⟩ : ∃ W5, W5 = w5.alloc (.cells #[.int .i64 jj, .slice A5 M k5] 28) := ⟨_, rfl⟩
      have hg9 : w5.heap.size < W5.heap.size := by rw [hW5]; simp
      rw [← hW5] at D5 R5 AX5 M85 M65 M95 HO5 ⊢
      clear m60 m61 m90 m91 hW5
      have eqA : ∀ W, OwnA W W4.heap.size (.slice A5 M k5) ys → Airs W A5 ys := fun W h => by
        obtain ⟨A', k', e, h'⟩ := h.reads
        injection e with e1 _ _; subst e1; exact h'
      have EQA := Lib.hid eqA
      clear eqA
      refine (eqMine_same jj _ _ _ _ ys M _ HL.out (by omega) (EQA.out _ HO5.out) (J0.out.next D5.out)).mono ?_; rintro e w6 ⟨rfl, b6⟩
      have D6 := Lib.hid (stepB D5.out b6)
      have R6 := Lib.hid (R5.out.next b6)
      have AX6 := Lib.hid (AX5.out.next b6)
      have M86 := Lib.hid (M85.out.next b6)
      have M96 := Lib.hid (M95.out.next b6)
      have HO6 := Lib.hid (HO5.out.below b6)
      have M06 := Lib.hid (M03.out.next D6.out)
      have CX6 := Lib.hid (HX.out.next (stepB C3.out D6.out))
      have hs56 := b6.size
      have HQ6 := Lib.hid (show w6.cell? ⟨w.heap.size, 0, none⟩ = some (.int .i64 j) ∧ w6.cell? ⟨w.heap.size, 1, none⟩ = some (.slice A n c) ∧ w6.cell? ⟨w4.heap.size, 0, none⟩ = some (.int .i64 j) ∧ w6.cell? ⟨w4.heap.size, 1, none⟩ = some (.slice (some ⟨g4, 0, none⟩) n n) from ⟨M06.out.c0, M06.out.c1, M86.out.c0, M86.out.c1⟩)
      clear b6
      go_wp2_with fail
      go_region_held3 (fun w' => w'.cell? ⟨w.heap.size, 0, none⟩ = some (.int .i64 j) ∧ w'.cell? ⟨w.heap.size, 1, none⟩ = some (.slice A n c) ∧ w'.cell? ⟨w4.heap.size, 0, none⟩ = some (.int .i64 j) ∧ w'.cell? ⟨w4.heap.size, 1, none⟩ = some (.slice (some ⟨g4, 0, none⟩) n n)) (first | exact HQ6.out | exact q_next bq HQ6.out | exact q_next br (q_next bq HQ6.out))
        ((first | (go_at_call 9; refine (toMine_any j A c xs n _ HN.out h20 CX6.out.drew).mono ?_; rintro e w7 ⟨g7, rfl, hg7, r7, bq⟩) | (go_at_call 11; refine (eqMine_same j _ _ _ _ xs n _ HN.out (by omega) (AX6.out.drew.next bq) (r7.airs HN.out)).mono ?_; rintro e w8 ⟨rfl, br⟩)))
      have b8 := stepB (below_undrew bq) br
      have D8 := Lib.hid (stepB D6.out b8)
      have R8 := Lib.hid (R6.out.next b8)
      have M88 := Lib.hid (M86.out.next b8)
      have M98 := Lib.hid (M96.out.next b8)
      have HO8 := Lib.hid (HO6.out.below b8)
      have hs68 := b8.size
      obtain ⟨m80, m81⟩ := M88.out
      clear bq br r7 b8
      go_wp2_with fail
      refine (markMine_any j g4 n n _ h20 R8.out.rowN).mono ?_
      rintro e w9 ⟨r9, rfl, hg9'⟩
      clear m80 m81
      have D9 := Lib.hid (below_grown D8.out hg9' (fun g e => by injection e with e; omega) (by have := D8.out.size; omega))
      have M99 := Lib.hid (M98.out.kept hg9' (fun e => by injection e with e; omega))
      have HO9 := Lib.hid (HO8.out.kept hg9' (by
        cases hA : (Value.slice A5 M k5).ownBlock with
        | none => exact .inl rfl
        | some g => exact .inr (by intro e; injection e with e; have := (HO8.out.lt hA).1; omega)))
      have M69 := Lib.hid (M63.out.next D9.out)
      have hs89 := hg9'.size
      obtain ⟨m60, m61⟩ := M69.out
      obtain ⟨m90, m91⟩ := M99.out
      clear hg9'
      have hr9 : (0 : Int) ≤ (r9 : Int) := by omega
      go_wp2_with fail
      clear m60 m61 m90 m91
      refine (eqMine_same jj _ _ _ _ ys M _ HL.out (by omega) (EQA.out _ HO9.out) (J0.out.next D9.out)).mono ?_; rintro e w10 ⟨rfl, b10⟩
      have D10 := Lib.hid (stepB D9.out b10)
      have M910 := Lib.hid (M99.out.next b10)
      have HO10 := Lib.hid (HO9.out.below b10)
      have hs910 := b10.size
      obtain ⟨m90, m91⟩ := M910.out
      clear b10
      go_wp2_with fail
      clear m90 m91
      refine (markM_is jj A5 k5 ys M W4.heap.size _ HL.out (by omega) (by omega) HO10.out).mono ?_; rintro e w11 ⟨rfl, hm11, hg11⟩
      have D11 := Lib.hid (below_grown D10.out hg11 (fun g e => by have := (O5.out g e).1; have := D4.out.size; omega) (by have := D10.out.size; omega))
      have M911 := Lib.hid (M910.out.kept hg11 (fun e => by have := (O5.out _ e.symm).2; omega))
      have HM11 := Lib.hid hm11
      obtain ⟨m90, m91⟩ := M911.out
      clear hm11 hg11
      have hN0 : (0 : Int) ≤ (M : Int) := by omega
      have hN2 : (M : Int) ≤ 1048576 := by omega
      go_wp2_with fail
      clear m90 m91
      refine (heldM_is jj A5 k5 M _ (by omega) HM11.out).mono ?_; rintro e w12 ⟨rfl, b12⟩
      have D12 := Lib.hid (stepB D11.out b12)
      have M912 := Lib.hid (M911.out.next b12)
      have HM12 := Lib.hid (HM11.out.next b12)
      have M012 := Lib.hid (M03.out.next D12.out)
      obtain ⟨m0, m1⟩ := M012.out
      have CX12 := Lib.hid (HX.out.next (stepB C3.out D12.out))
      clear b12
      go_wp2_with fail
      clear m0 m1
      refine (toMine_any j A c xs n _ HN.out h20 CX12.out).mono ?_; rintro e w13 ⟨g13, rfl, hg13, r13, b13⟩
      go_wp2_with fail
      refine (drP_any j _ _ xs n s _ HN.out h20 HS.out (r13.airs HN.out)).mono ?_; rw [← HYS.out, ← HJJ.out, ← HCD.out]; rintro e w14 ⟨v14, rfl, ho14, b14⟩
      obtain ⟨A14, k14, ev14, j14⟩ := ho14.reads
      rw [HL.out] at ev14
      subst ev14
      have a14 : Below w14.heap.size w14 (w14.alloc (.cells #[.int .i64 jj, .slice A14 M k14] 28)) := (Below.refl _ _).alloc (Nat.le_refl _) _
      have b1214 := stepB (stepB b13 b14) a14
      have D14 := Lib.hid (stepB D12.out b1214)
      have HM14 := Lib.hid (HM12.out.next b1214)
      have M914 := Lib.hid (M912.out.next b1214)
      have J14 := Lib.hid (j14.next a14)
      obtain ⟨m60, m61⟩ := M63.out.next D14.out
      obtain ⟨m140, m141⟩ := mc_new w14 jj (.slice A14 M k14) 28
      clear ho14 j14 b13 b14 a14 b1214 r13 hg13
      go_wp2_with fail
      obtain ⟨W14, hW14⟩ : ∃ W14, W14 = w14.alloc (.cells #[.int .i64 jj, .slice A14 M k14] 28) := ⟨_, rfl⟩
      rw [← hW14] at D14 HM14 M914 J14 ⊢
      clear m60 m61 m140 m141 hW14
      refine (eqMine_same jj _ _ _ _ ys M _ HL.out (by omega) J14.out (J0.out.next D14.out)).mono ?_; rintro e w15 ⟨rfl, b15⟩
      have D15 := Lib.hid (stepB D14.out b15)
      have HM15 := Lib.hid (HM14.out.next b15)
      obtain ⟨m90, m91⟩ := M914.out.next b15
      clear b15
      go_wp2_with fail
      clear m90 m91
      refine (heldM_is jj A5 k5 M _ (by omega) HM15.out).mono ?_; rintro e w16 ⟨rfl, b16⟩
      have D16 := Lib.hid (stepB D15.out b16)
      clear b16
      go_wp2_with fail
      go_ret
      exact ⟨rfl, stepB C3.out D16.out⟩
  · have h20i : (1048576 : Int) < s.size := by omega
    have b0 := B0.out
    go_enter Try.func3, Try.ntmps3
    go_wp2_with fail
    go_ret
    exact ⟨rfl, b0⟩

/-! ### the row of FnExactDropAirway: the arguments are opened, the walk is met, each argument reads behind the call as before -/
namespace fnExactDropAirway
open Go.ChangeShapes Go.WideShapes Go.ChangeAt Go.RowKit Go.Joins
open Go.ChangeMaps (open_string shut_string)
set_option linter.unusedVariables false
set_option maxRecDepth 100000 in
theorem lifted (os : Os) (started : os.Started) (H : Type) (enc : TypeId × Value → H) :
    ReturnsInHanded {} Try.checked os 3 .any (Rows.fnExactDropAirwaySpec.pre6 enc Try.prog Try.f3 Rows.fnExactDropAirwayRow.domain false) (Rows.fnExactDropAirwaySpec.post enc Try.prog Try.f3 false true false false) := by
  refine returnsInHanded_of_change (C := Try.checked) own started (by kernel_rfl) Try.func3
    (ChangeSpec.witness6 (enc := enc) (C := Try.checked) false ⟨#[], #[.agg #[.int .i64 0, .slice none 0 0], .string ByteArray.empty], []⟩ 8 (by kernel_rfl) (by kernel_rfl) (by kernel_rfl) (by kernel_rfl)) ?_
  intro W base args ds gs before hval0 hW hcnd _
  have hval : ∀ (j : Nat) t v, Try.f3.params[j]? = some t → args[j]? = some v → Value.okWide Try.prog W .any base t v := hval0
  have hW' := hW
  obtain ⟨p, q, hA0, hV, rfl, hfz, hnd⟩ := hW
  have hA : DataW.TrodAll enc Try.prog W 0 (fun _ => true) true Try.f3.params.toList args.toList ds p := hA0
  rw [Try.params3] at hA hval
  obtain ⟨v0, vs0, d0, ds0, p0, q0, hargs, rfl, rfl, h0, r0⟩ := trodAll_cons hA
  obtain ⟨v1, vs1, d1, ds1, p1, q1, rfl, rfl, rfl, h1, r1⟩ := trodAll_cons r0
  obtain ⟨rfl, rfl, rfl⟩ := trodAll_nil r1
  obtain rfl : args = #[v0, v1] := by cases args; simp_all
  obtain ⟨rfl, rfl⟩ := trodVars_none hV
  clear hA0 hval0
  simp only [List.append_nil] at hW'
  have lt0 : ∀ x ∈ p0, x.block < W.heap.size := fun x hx => by simpa using hW'.lt x (by simp [hx])
  have k0 := h0
  have lt1 : ∀ x ∈ p1, x.block < W.heap.size := fun x hx => by simpa using hW'.lt x (by simp [hx])
  have k1 := h1
  obtain ⟨c0_0, c0_1, y0_0, y0_1, m0, rfl, rfl, rfl, hy0_0, hy0_1⟩ := open_agg2 Try.underlying24 (by kernel_rfl) (by kernel_rfl) (hval 0 24 v0 rfl rfl) h0
  obtain ⟨a0_0, e0_0, z0_0, w0_0⟩ := DataW.trod_int Try.underlying2 hy0_0
  simp only [List.cons.injEq, and_true] at e0_0; subst e0_0
  obtain ⟨A0, len0, cap0, rfl⟩ := slice_shape Try.underlying22 Try.underlying48 (by kernel_rfl) (by kernel_rfl) hy0_1
  obtain ⟨xs0, hn0, hm0, hs0, hx0⟩ := view_airs Try.underlying22 Try.underlying48 (by kernel_rfl) (by kernel_rfl) Try.underlying9 Try.underlying2 Try.underlying2 Try.underlying2 Try.underlying2 Try.underlying2 Try.underlying2 hy0_1
  obtain ⟨a1, rfl, rfl, rfl, w1⟩ := open_string Try.underlying9 (hval 1 9 v1 rfl rfl) h1
  refine (law_DropAirway a0_0 A0 len0 cap0 xs0 hn0 hm0 hs0 a1 w1 W hx0).mono fun e W' ⟨he, hb⟩ => ?_
  subst he
  exact ⟨_, rfl, _, _, _, _, _, [], hW', (trodAll_cons_mk (shut_bool Try.underlying4 _) trodAll_mk0), (trodAll_cons_mk (Below.trod laidOut (by kernel_rfl) (of_decide_eq_true (by kernel_rfl)) k0 hb lt0) (trodAll_cons_mk (Below.trod laidOut (by kernel_rfl) (of_decide_eq_true (by kernel_rfl)) k1 hb lt1) trodAll_mk0)), rfl, hb.frame _, fun h => by cases h⟩

theorem proved : Rows.FnExactDropAirwaySaid :=
  OpenClaim.holds_of_wide 3 Try.f3 rfl rfl rfl rfl rfl rfl rfl ⟨rfl, rfl, rfl, rfl, rfl⟩ rfl rfl rfl rfl rfl (by kernel_rfl) Try.func3 (by kernel_rfl)
    (of_decide_eq_true (by kernel_rfl)) (by unfold Func.isWrapper; first | (rw [if_pos (by decide +kernel)]; kernel_rfl) | (rw [if_neg (by decide +kernel)]; exact ⟨rfl, rfl⟩))
    (fun os started H enc _ => lifted os started H enc)
#print axioms proved
end fnExactDropAirway
end Go.Proofs.Ytgiokjflfadeeaa
