/-
  FnExactSplitWords: for every text the program's SplitWords returns what the reference's returns; the slices stay the caller's own.
-/
import Derived.Test.YtfgfoggnhjchiaaDoorWords
import Derived.Test.YtfgfoggnhjchiaaDoorNum
import Derived.RowKit3
import Derived.ProofKit
import Derived.OpenShut
import Derived.Lib.SmallJoins
namespace Go.Proofs.YtfgfoggnhjchiaaDoor
open Go.RowKit
set_option linter.unusedVariables false

set_option maxHeartbeats 1000000 in
theorem law_SplitWords (a : ByteArray) (hm : a.size ≤ maxLen) (w : World) (he : MaxI w) :
    Calls Tryd.prog 4 #[.string a] w fun e w' => e = .returned (.bool true) ∧ Below w.heap.size w w' := by
  have HE := Lib.hid he
  unfold maxLen at hm
  clear he
  by_cases h20 : a.size ≤ 1048576
  · have h20i : ¬ (1048576 : Int) < a.size := by omega
    have hlen := words_len a
    obtain ⟨ls, hls⟩ : ∃ ls, ls = words a := ⟨_, rfl⟩
    obtain ⟨N, hN⟩ : ∃ N, N = ls.length := ⟨_, rfl⟩
    have hN64 : N ≤ 1048577 := by rw [hN, hls]; omega
    have HL := Lib.hid (show ls.length = N from hN.symm)
    have HLS := Lib.hid hls
    clear hls hN hlen
    go_enter Tryd.func4, Tryd.ntmps4
    go_wp2_with fail
    refine (swS_any a _ h20).mono ?_; rw [← HLS.out]; rintro e w1 ⟨v0, rfl, ho0, b1⟩
    obtain ⟨A0, k0, ev0, _, j0⟩ := ho0.reads
    rw [HL.out] at ev0
    subst ev0
    have J0 := Lib.hid j0
    have C1 := Lib.hid b1
    have HE1 := Lib.hid (HE.out.step b1)
    clear ho0 j0 b1
    go_wp2_with fail
    refine (swP_any a _ h20 HE1.out).mono ?_; rw [← HLS.out]; rintro e w2 ⟨v5, rfl, ho5, b2⟩
    obtain ⟨A5, k5, ev5, _, j5⟩ := ho5.reads
    rw [HL.out] at ev5
    subst ev5
    have HO5 := Lib.hid ho5
    have J5 := Lib.hid j5
    have D2 := Lib.hid b2
    have hs2 := b2.size
    clear ho5 j5 b2
    go_wp2_with fail
    refine (eqS_same _ _ _ _ ls N _ HL.out (by omega) J5.out (J0.out.next D2.out)).mono ?_; rintro e w3 ⟨rfl, b3⟩
    have HO6 := Lib.hid (HO5.out.below b3)
    have D3 := Lib.hid (stepB D2.out b3)
    have hs3 := b3.size
    clear b3
    go_wp2_with fail
    refine (markS_any A5 k5 ls N w1.heap.size _ HL.out (by omega) (by omega) HO6.out).mono ?_; rintro e w4 ⟨rfl, hm4, b4⟩
    have HM4 := Lib.hid hm4
    have D4 := Lib.hid (D3.out.trans b4)
    clear hm4 b4
    have hN0 : (0 : Int) ≤ (N : Int) := by omega
    have hN2 : (N : Int) ≤ 1048577 := by omega
    go_wp2_with fail
    refine (heldS_any A5 k5 N _ (by omega) HM4.out).mono ?_; rintro e w5 ⟨rfl, b5⟩
    have HM5 := Lib.hid (HM4.out.next b5)
    have D5 := Lib.hid (stepB D4.out b5)
    have HE4 := Lib.hid (HE1.out.step D5.out)
    clear b5
    go_wp2_with fail
    refine (swP_any a _ h20 HE4.out).mono ?_; rw [← HLS.out]; rintro e w6 ⟨v6, rfl, ho6, b6⟩
    obtain ⟨A6, k6, ev6, _, j6⟩ := ho6.reads
    rw [HL.out] at ev6
    subst ev6
    have J6 := Lib.hid j6
    have HM6 := Lib.hid (HM5.out.next b6)
    have D6 := Lib.hid (stepB D5.out b6)
    clear ho6 j6 b6
    go_wp2_with fail
    refine (eqS_same _ _ _ _ ls N _ HL.out (by omega) J6.out (J0.out.next D6.out)).mono ?_; rintro e w7 ⟨rfl, b7⟩
    have HM7 := Lib.hid (HM6.out.next b7)
    have D7 := Lib.hid (stepB D6.out b7)
    clear b7
    go_wp2_with fail
    refine (heldS_any A5 k5 N _ (by omega) HM7.out).mono ?_; rintro e w8 ⟨rfl, b8⟩
    have D8 := Lib.hid (stepB D7.out b8)
    clear b8
    go_wp2_with fail
    go_ret
    exact ⟨rfl, stepB C1.out D8.out⟩
  · have h20i : (1048576 : Int) < a.size := by omega
    go_enter Tryd.func4, Tryd.ntmps4
    go_wp2_with fail
    go_ret
    exact ⟨rfl, Below.refl _ _⟩

def laid2 : List (String × DataW Unit) := [("unicode/utf8.acceptRanges", Rows.laid_unicode_utf8_acceptRanges), ("unicode/utf8.first", Rows.laid_unicode_utf8_first)]
theorem env2 {W : World} (_h : laidMetH Tryd.prog laid2 W) (hs : W.ShapedOpen Tryd.prog) : MaxI W := max_of hs
theorem env2_door (os : Os) (args : Array Value) : laidMetH Tryd.prog laid2 ((World.laidAll Tryd.prog os laid2).forCall (fun _ _ => 0) ⟨#[], args, []⟩).memory := by
  rw [MakeChecks.laidMetH_plain _ _ _ (by kernel_rfl)]
  exact laidMet_laidAll _ (by kernel_rfl) (by kernel_rfl)

/-! ### the row of FnExactSplitWords: the arguments are opened, the walk is met, each argument reads behind the call as before -/
namespace fnExactSplitWords
open Go.ChangeShapes Go.WideShapes Go.ChangeAt Go.RowKit Go.Joins
open Go.ChangeMaps (open_string shut_string)
set_option linter.unusedVariables false
set_option maxRecDepth 100000 in
theorem lifted (os : Os) (started : os.Started) (H : Type) (enc : TypeId × Value → H) :
    ReturnsInHanded {} Tryd.checked os 4 .any (fun w args => (Rows.fnExactSplitWordsSpec.pre enc Tryd.prog Tryd.f4 [] false w args ∧ laidMetH Tryd.prog Rows.fnExactSplitWordsRow.laid w) ∧ sizedMet enc Tryd.prog Tryd.f4 (OpenSpec.ofChange Rows.fnExactSplitWordsSpec) false w args) (Rows.fnExactSplitWordsSpec.post enc Tryd.prog Tryd.f4 false true false false) := by
  refine returns_both (C := Tryd.checked) (X := fun w _ => laidMetH Tryd.prog Rows.fnExactSplitWordsRow.laid w) (fun _ _ _ hh h => h.of_heap hh) own started (by kernel_rfl) Tryd.func4
    (ChangeSpec.witness_shaped (enc := enc) (C := Tryd.checked) (os := os) (X := fun w _ => laidMetH Tryd.prog Rows.fnExactSplitWordsRow.laid w) false (World.laidAll Tryd.prog os laid2) #[.string ByteArray.empty] 8 (World.laidAll_os _ _ _) (World.shaped_of_ZipB (by kernel_rfl) (by kernel_rfl)) (by kernel_rfl) (by kernel_rfl) (by kernel_rfl) (env2_door os _)) ?_
  intro W base args ds gs before hval0 hW hSh hL
  have hval : ∀ (j : Nat) t v, Tryd.f4.params[j]? = some t → args[j]? = some v → Value.okWide Tryd.prog W .any base t v := hval0
  have hW' := hW
  obtain ⟨p, q, hA0, hV, rfl, hfz, hnd⟩ := hW
  have hA : DataW.TrodAll enc Tryd.prog W 0 (fun _ => true) true Tryd.f4.params.toList args.toList ds p := hA0
  rw [Tryd.params4] at hA hval
  obtain ⟨v0, vs0, d0, ds0, p0, q0, hargs, rfl, rfl, h0, r0⟩ := trodAll_cons hA
  obtain ⟨rfl, rfl, rfl⟩ := trodAll_nil r0
  obtain rfl : args = #[v0] := by cases args; simp_all
  obtain ⟨rfl, rfl⟩ := trodVars_none hV
  clear hA0 hval0
  simp only [List.append_nil] at hW'
  have lt0 : ∀ x ∈ p0, x.block < W.heap.size := fun x hx => by simpa using hW'.lt x (by simp [hx])
  have k0 := h0
  obtain ⟨a0, rfl, rfl, rfl, w0⟩ := open_string Tryd.underlying9 (hval 0 9 v0 rfl rfl) h0
  refine (law_SplitWords a0 w0 W (env2 hL hSh)).mono fun e W' ⟨he, hb⟩ => ?_
  subst he
  exact ⟨_, rfl, _, _, _, _, _, [], hW', (trodAll_cons_mk (shut_bool Tryd.underlying4 _) trodAll_mk0), (trodAll_cons_mk (Below.trod laidOut (by kernel_rfl) (of_decide_eq_true (by kernel_rfl)) k0 hb lt0) trodAll_mk0), rfl, hb.frame _, fun h => by cases h⟩

theorem proved : Rows.FnExactSplitWordsSaid :=
  OpenClaim.holds_of_wide 4 Tryd.f4 rfl rfl rfl rfl rfl rfl rfl ⟨rfl, rfl, rfl, rfl, rfl⟩ rfl rfl rfl rfl rfl (by kernel_rfl) Tryd.func4 (by kernel_rfl)
    (of_decide_eq_true (by kernel_rfl)) (by unfold Func.isWrapper; first | (rw [if_pos (by decide +kernel)]; kernel_rfl) | (rw [if_neg (by decide +kernel)]; exact ⟨rfl, rfl⟩))
    (fun os started H enc _ => lifted os started H enc)
theorem card : Rows.FnExactSplitWordsCardSaid :=
  Claim7.holds_tied_plain_at .later [] _ true Rows.fnExactSplitWordsCard.stood.harness Rows.fnExactSplitWordsCard.stood.looks
    proved (fun _ h => by cases h) (by kernel_rfl) (fun _ h => by cases h) fnExactSplitWords_row_tie rfl ⟨rfl, rfl⟩ (by kernel_rfl) rfl
    (fun f fn hf hfn => by
      obtain rfl : f = 4 := Option.some.inj ((show Tryd.prog.funcNamed "loop.example/g01021/laws.FnExactSplitWords" = some 4 by kernel_rfl).symm.trans hf) |>.symm
      obtain rfl : fn = Tryd.f4 := (Option.some.inj (Tryd.func4.symm.trans hfn)).symm
      exact ⟨by kernel_rfl, fun j t ht => by
        rw [Tryd.params4] at ht
        have hm : t ∈ [9] := by simpa using Array.mem_of_getElem? ht
        have hall : ([9].all fun u => !Tryd.prog.wantsStandIn u) = true := by kernel_rfl
        exact (show Tryd.prog.wantsStandIn t = false by simpa using List.all_eq_true.1 hall t hm)⟩)
    (by kernel_rfl)
#print axioms card
end fnExactSplitWords
end Go.Proofs.YtfgfoggnhjchiaaDoor
