/-
  FnExactReadMine: for every text the program's ReadMine returns what the reference's returns; the airways stay the caller's own.
-/
import Derived.Test.YtcfcmpblemagiaaGreatDoorReadMine
import Derived.Test.YtcfcmpblemagiaaGreatDoorNum
import Derived.RowKit3
import Derived.ProofKit
import Derived.OpenShut
import Derived.Lib.SmallJoins
namespace Go.Proofs.YtcfcmpblemagiaaGreatDoor
open Go.RowKit
set_option linter.unusedVariables false

theorem rm_len (s : ByteArray) : ((rmO s).getD (0, [])).2.length ≤ s.size := by
  obtain ⟨p, qs, qc, hps, _, _, _, _, _, hl, _⟩ := cut_mine s
  rw [rm_is hps]
  split
  · simpa using hl
  · exact Nat.zero_le _
/-- the cell of a mine -/
structure MC (w : World) (g : Nat) (j : Int) (A : Option Addr) (n c : Nat) : Prop where
  c0 : w.cell? ⟨g, 0, none⟩ = some (.int .i64 j)
  c1 : w.cell? ⟨g, 1, none⟩ = some (.slice A n c)
theorem mc_new (w : World) (j : Int) (A : Option Addr) (n c : Nat) (t : TypeId) : MC (w.alloc (.cells #[.int .i64 j, .slice A n c] t)) w.heap.size j A n c := ⟨by simp [go_sem], by simp [go_sem]⟩
theorem MC.next {w w' : World} {g n c : Nat} {j : Int} {A : Option Addr} (h : MC w g j A n c) (hb : Below w.heap.size w w') : MC w' g j A n c :=
  ⟨(hb.cell (World.block_lt_of_cell? w _ h.c0)).trans h.c0, (hb.cell (World.block_lt_of_cell? w _ h.c1)).trans h.c1⟩
theorem MC.kept {w w' : World} {g n c : Nat} {j : Int} {A : Option Addr} {r : Option Nat} (h : MC w g j A n c) (hg : w.grownBy w' r) (hr : some g ≠ r) : MC w' g j A n c := by
  have e : w'.heap[g]? = w.heap[g]? := hg.block g (World.block_lt_of_cell? w _ h.c0) hr
  have hc : ∀ o, w'.cell? ⟨g, o, none⟩ = w.cell? ⟨g, o, none⟩ := fun o => by unfold World.cell?; rw [e]
  exact ⟨(hc 0).trans h.c0, (hc 1).trans h.c1⟩
theorem own_row {w : World} {B n c : Nat} {A : Option Addr} {xs : List AW} (h : OwnA w B (.slice A n c) xs) : ∀ g, A.map (·.block) = some g → B ≤ g ∧ g < w.heap.size := fun g e => by
  cases A with
  | none => cases e
  | some a => exact h.lt e

set_option maxHeartbeats 1000000 in
theorem law_ReadMine (a : ByteArray) (hm : a.size ≤ maxLen) (w : World) (he : Env7 w) :
    Calls Tryz.prog 3 #[.string a] w fun e w' => e = .returned (.bool true) ∧ Below w.heap.size w w' := by
  have HE := Lib.hid he
  unfold maxLen at hm
  clear he
  by_cases h20 : a.size ≤ 1048576
  · have h20i : ¬ (1048576 : Int) < a.size := by omega
    have hlen := rm_len a
    obtain ⟨o, ho⟩ : ∃ o, o = rmO a := ⟨_, rfl⟩
    rw [← ho] at hlen
    have HO := Lib.hid ho
    obtain ⟨xs, hls⟩ : ∃ ls, ls = (o.getD (0, [])).2 := ⟨_, rfl⟩
    obtain ⟨N, hN⟩ : ∃ N, N = xs.length := ⟨_, rfl⟩
    obtain ⟨j, hj⟩ : ∃ j, j = (o.getD (0, [])).1 := ⟨_, rfl⟩
    obtain ⟨ok, hok⟩ : ∃ ok, ok = o.isSome := ⟨_, rfl⟩
    have hN64 : N ≤ 1048576 := by rw [hN, hls]; omega
    have HL := Lib.hid (show xs.length = N from hN.symm)
    have HLS := Lib.hid hls
    have HOK := Lib.hid hok
    have HJ := Lib.hid hj
    clear ho hls hN hok hlen hj
    go_enter Tryz.func3, Tryz.ntmps3
    go_wp2_with fail
    refine (rmT_any a _ h20).mono ?_; rw [← HO.out]; rintro e w1 ⟨v0, rfl, ho0, b1⟩
    rw [← HLS.out] at ho0
    rw [← HOK.out, ← HJ.out]
    obtain ⟨A0, k0, ev0, j0⟩ := ho0.reads
    rw [HL.out] at ev0
    subst ev0
    have a1 : Below w1.heap.size w1 (w1.alloc (.cells #[.int .i64 j, .slice A0 N k0] 24)) := (Below.refl _ _).alloc (Nat.le_refl _) _
    have J0 := Lib.hid (j0.next a1)
    have C1 := Lib.hid (stepB b1 a1)
    have HE1 := Lib.hid (HE.out.step C1.out)
    have M3 := Lib.hid (mc_new w1 j A0 N k0 24)
    clear ho0 j0 b1 a1
    go_wp2_with fail
    obtain ⟨W1, hW1⟩ : ∃ W1, W1 = w1.alloc (.cells #[.int .i64 j, .slice A0 N k0] 24) := ⟨_, rfl⟩
    have hg3 : w1.heap.size < W1.heap.size := by rw [hW1]; simp
    rw [← hW1] at J0 C1 HE1 M3 ⊢
    clear hW1
    refine (rmP_any a _ h20 HE1.out).mono ?_; rw [← HO.out]; rintro e w2 ⟨v5, rfl, ho5, b2⟩
    rw [← HLS.out] at ho5
    rw [← HOK.out, ← HJ.out]
    obtain ⟨A5, k5, ev5, j5⟩ := ho5.reads
    rw [HL.out] at ev5
    subst ev5
    have a2 : Below w2.heap.size w2 (w2.alloc (.cells #[.int .i64 j, .slice A5 N k5] 24)) := (Below.refl _ _).alloc (Nat.le_refl _) _
    have D2 := Lib.hid (stepB b2 a2)
    have HO5 := Lib.hid (ho5.below a2)
    have J5 := Lib.hid (j5.next a2)
    have R5 := Lib.hid (own_row ho5)
    have hs2 := b2.size
    obtain ⟨m30, m31⟩ := M3.out.next D2.out
    obtain ⟨m50, m51⟩ := mc_new w2 j A5 N k5 24
    have hs3 : w2.heap.size < (w2.alloc (.cells #[.int .i64 j, .slice A5 N k5] 24)).heap.size := by simp
    clear ho5 j5 b2 a2
    go_wp2_with fail
    obtain ⟨W2, hW2⟩ : ∃ W2, W2 = w2.alloc (.cells #[.int .i64 j, .slice A5 N k5] 24) := ⟨_, rfl⟩
    have M5 := Lib.hid (mc_new w2 j A5 N k5 24)
    rw [← hW2] at HO5 J5 D2 M5 hs3 ⊢
    clear m30 m31 m50 m51 hW2
    refine (eqMine_same j _ _ _ _ xs N _ HL.out (by omega) J5.out (J0.out.next D2.out)).mono ?_; rintro e w3 ⟨rfl, b3⟩
    have D3 := Lib.hid (stepB D2.out b3)
    have HO6 := Lib.hid (HO5.out.below b3)
    have M53 := Lib.hid (M5.out.next b3)
    obtain ⟨m50, m51⟩ := M53.out
    have hs4 := b3.size
    clear b3
    go_wp2_with fail
    clear m50 m51
    refine (markM_is j A5 k5 xs N W1.heap.size _ HL.out (by omega) (by omega) HO6.out).mono ?_; rintro e w4 ⟨rfl, hm4, g4⟩
    have D4 := Lib.hid (below_grown D3.out g4 (fun g e => (R5.out g e).1) (by omega))
    have M54 := Lib.hid (M53.out.kept g4 (fun e => by have := (R5.out _ e.symm).2; omega))
    have HM4 := Lib.hid hm4
    have hs5 := g4.size
    obtain ⟨m50, m51⟩ := M54.out
    clear hm4 g4
    have hN0 : (0 : Int) ≤ (N : Int) := by omega
    have hN2 : (N : Int) ≤ 1048576 := by omega
    go_wp2_with fail
    clear m50 m51
    refine (heldM_is j A5 k5 N _ (by omega) HM4.out).mono ?_; rintro e w5 ⟨rfl, b5⟩
    have HM5 := Lib.hid (HM4.out.next b5)
    have D5 := Lib.hid (stepB D4.out b5)
    have M55 := Lib.hid (M54.out.next b5)
    have HE5 := Lib.hid (HE1.out.step D5.out)
    clear b5
    go_wp2_with fail
    refine (rmP_any a _ h20 HE5.out).mono ?_; rw [← HO.out]; rintro e w6 ⟨v6, rfl, ho6, b6⟩
    rw [← HLS.out] at ho6
    rw [← HOK.out, ← HJ.out]
    obtain ⟨A6, k6, ev6, j6⟩ := ho6.reads
    rw [HL.out] at ev6
    subst ev6
    have a6 : Below w6.heap.size w6 (w6.alloc (.cells #[.int .i64 j, .slice A6 N k6] 24)) := (Below.refl _ _).alloc (Nat.le_refl _) _
    have D6 := Lib.hid (stepB D5.out (stepB b6 a6))
    have J6 := Lib.hid (j6.next a6)
    have HM6 := Lib.hid (HM5.out.next (stepB b6 a6))
    have M56 := Lib.hid (M55.out.next (stepB b6 a6))
    obtain ⟨m30, m31⟩ := M3.out.next D6.out
    obtain ⟨m90, m91⟩ := mc_new w6 j A6 N k6 24
    clear ho6 j6 b6 a6
    go_wp2_with fail
    obtain ⟨W6, hW6⟩ : ∃ W6, W6 = w6.alloc (.cells #[.int .i64 j, .slice A6 N k6] 24) := ⟨_, rfl⟩
    rw [← hW6] at J6 D6 HM6 M56 ⊢
    clear m30 m31 m90 m91 hW6
    refine (eqMine_same j _ _ _ _ xs N _ HL.out (by omega) J6.out (J0.out.next D6.out)).mono ?_; rintro e w7 ⟨rfl, b7⟩
    have HM7 := Lib.hid (HM6.out.next b7)
    have D7 := Lib.hid (stepB D6.out b7)
    obtain ⟨m50, m51⟩ := M56.out.next b7
    clear b7
    go_wp2_with fail
    clear m50 m51
    refine (heldM_is j A5 k5 N _ (by omega) HM7.out).mono ?_; rintro e w8 ⟨rfl, b8⟩
    have D8 := Lib.hid (stepB D7.out b8)
    clear b8
    go_wp2_with fail
    go_ret
    exact ⟨rfl, stepB C1.out D8.out⟩
  · have h20i : (1048576 : Int) < a.size := by omega
    go_enter Tryz.func3, Tryz.ntmps3
    go_wp2_with fail
    go_ret
    exact ⟨rfl, Below.refl _ _⟩

/-! ### the row of FnExactReadMine: the arguments are opened, the walk is met, each argument reads behind the call as before -/
namespace fnExactReadMine
open Go.ChangeShapes Go.WideShapes Go.ChangeAt Go.RowKit Go.Joins
open Go.ChangeMaps (open_string shut_string)
set_option linter.unusedVariables false
set_option maxRecDepth 100000 in
theorem lifted (os : Os) (started : os.Started) (H : Type) (enc : TypeId × Value → H) :
    ReturnsInHanded {} Tryz.checked os 3 .any (fun w args => (Rows.fnExactReadMineSpec.pre enc Tryz.prog Tryz.f3 [] false w args ∧ laidMetH Tryz.prog Rows.fnExactReadMineRow.laid w) ∧ sizedMet enc Tryz.prog Tryz.f3 (OpenSpec.ofChange Rows.fnExactReadMineSpec) false w args) (Rows.fnExactReadMineSpec.post enc Tryz.prog Tryz.f3 false true false false) := by
  refine returns_both (C := Tryz.checked) (X := fun w _ => laidMetH Tryz.prog Rows.fnExactReadMineRow.laid w) (fun _ _ _ hh h => h.of_heap hh) own started (by kernel_rfl) Tryz.func3
    (ChangeSpec.witness_shaped (enc := enc) (C := Tryz.checked) (os := os) (X := fun w _ => laidMetH Tryz.prog Rows.fnExactReadMineRow.laid w) false (World.laidAll Tryz.prog os laid7) #[.string ByteArray.empty] 8 (World.laidAll_os _ _ _) (World.shaped_of_ZipB (by kernel_rfl) (by kernel_rfl)) (by kernel_rfl) (by kernel_rfl) (by kernel_rfl) (env7_door os _)) ?_
  intro W base args ds gs before hval0 hW hSh hL
  have hval : ∀ (j : Nat) t v, Tryz.f3.params[j]? = some t → args[j]? = some v → Value.okWide Tryz.prog W .any base t v := hval0
  have hW' := hW
  obtain ⟨p, q, hA0, hV, rfl, hfz, hnd⟩ := hW
  have hA : DataW.TrodAll enc Tryz.prog W 0 (fun _ => true) true Tryz.f3.params.toList args.toList ds p := hA0
  rw [Tryz.params3] at hA hval
  obtain ⟨v0, vs0, d0, ds0, p0, q0, hargs, rfl, rfl, h0, r0⟩ := trodAll_cons hA
  obtain ⟨rfl, rfl, rfl⟩ := trodAll_nil r0
  obtain rfl : args = #[v0] := by cases args; simp_all
  obtain ⟨rfl, rfl⟩ := trodVars_none hV
  clear hA0 hval0
  simp only [List.append_nil] at hW'
  have lt0 : ∀ x ∈ p0, x.block < W.heap.size := fun x hx => by simpa using hW'.lt x (by simp [hx])
  have k0 := h0
  obtain ⟨a0, rfl, rfl, rfl, w0⟩ := open_string Tryz.underlying9 (hval 0 9 v0 rfl rfl) h0
  refine (law_ReadMine a0 w0 W (env7 hL hSh)).mono fun e W' ⟨he, hb⟩ => ?_
  subst he
  exact ⟨_, rfl, _, _, _, _, _, [], hW', (trodAll_cons_mk (shut_bool Tryz.underlying4 _) trodAll_mk0), (trodAll_cons_mk (Below.trod laidOut (by kernel_rfl) (of_decide_eq_true (by kernel_rfl)) k0 hb lt0) trodAll_mk0), rfl, hb.frame _, fun h => by cases h⟩

theorem proved : Rows.FnExactReadMineSaid :=
  OpenClaim.holds_of_wide 3 Tryz.f3 rfl rfl rfl rfl rfl rfl rfl ⟨rfl, rfl, rfl, rfl, rfl⟩ rfl rfl rfl rfl rfl (by kernel_rfl) Tryz.func3 (by kernel_rfl)
    (of_decide_eq_true (by kernel_rfl)) (by unfold Func.isWrapper; first | (rw [if_pos (by decide +kernel)]; kernel_rfl) | (rw [if_neg (by decide +kernel)]; exact ⟨rfl, rfl⟩))
    (fun os started H enc _ => lifted os started H enc)
theorem card : Rows.FnExactReadMineCardSaid :=
  Claim7.holds_tied_plain_at .later [] _ true Rows.fnExactReadMineCard.stood.harness Rows.fnExactReadMineCard.stood.looks
    proved (fun _ h => by cases h) (by kernel_rfl) (fun _ h => by cases h) fnExactReadMine_row_tie rfl ⟨rfl, rfl⟩ (by kernel_rfl) rfl
    (fun f fn hf hfn => by
      obtain rfl : f = 3 := Option.some.inj ((show Tryz.prog.funcNamed "loop.example/g01021/laws.FnExactReadMine" = some 3 by kernel_rfl).symm.trans hf) |>.symm
      obtain rfl : fn = Tryz.f3 := (Option.some.inj (Tryz.func3.symm.trans hfn)).symm
      exact ⟨by kernel_rfl, fun j t ht => by
        rw [Tryz.params3] at ht
        have hm : t ∈ [9] := by simpa using Array.mem_of_getElem? ht
        have hall : ([9].all fun u => !Tryz.prog.wantsStandIn u) = true := by kernel_rfl
        exact (show Tryz.prog.wantsStandIn t = false by simpa using List.all_eq_true.1 hall t hm)⟩)
    (by kernel_rfl)
#print axioms card
end fnExactReadMine
end Go.Proofs.YtcfcmpblemagiaaGreatDoor
