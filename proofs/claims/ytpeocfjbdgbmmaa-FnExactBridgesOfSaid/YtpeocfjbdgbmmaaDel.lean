/-
  The contract of slices.DeleteFunc at 'all numbers below n', one of them struck.
-/
import Derived.Test.YtpeocfjbdgbmmaaAll
import Derived.Deep.Onto
import Derived.Lib.SliceRun
namespace Go.Proofs.Ytpeocfjbdgbmmaa
open Go.RowKit
set_option linter.unusedVariables false

def shF (i j a : Nat) : Int := if a < i then (a : Int) else if a + 1 < j then (a : Int) + 1 else (a : Int)
theorem shF_start (i n : Nat) : labL (shF i (i + 1)) n = labL (fun a => (a : Int)) n := by
  apply labL_ext; intro a _
  unfold shF
  by_cases h : a < i
  · rw [if_pos h]
  · rw [if_neg h, if_neg (by omega)]
theorem shF_step (i j n : Nat) (h : i < j) (hj : 0 < j) : (labL (shF i j) n).set (j - 1) (j : Int) = labL (shF i (j + 1)) n := by
  rw [labL_set]
  apply labL_ext; intro a _
  unfold shF
  by_cases e : a = j - 1
  · rw [if_pos e, if_neg (by omega), if_pos (by omega)]; omega
  · rw [if_neg e]
    by_cases h1 : a < i
    · rw [if_pos h1, if_pos h1]
    · rw [if_neg h1, if_neg h1]
      by_cases h2 : a + 1 < j
      · rw [if_pos h2, if_pos (by omega)]
      · rw [if_neg h2, if_neg (by omega)]
theorem shF_high (i j : Nat) (h : i < j) : shF i j j = j := by
  unfold shF; rw [if_neg (by omega), if_neg (by omega)]
/-- all numbers below m + 1 but i -/
def exL (i m : Nat) : List Int := labL (fun a => if a < i then (a : Int) else (a : Int) + 1) m
theorem exL_is (i m : Nat) : labL (shF i (m + 1)) m = exL i m := by
  apply labL_ext; intro a ha
  unfold shF
  by_cases h : a < i
  · rw [if_pos h, if_pos h]
  · rw [if_neg h, if_neg h, if_pos (by omega)]
theorem exL_len (i m : Nat) : (exL i m).length = m := labL_len _ m
theorem exL_bd (i m : Nat) (hi : i ≤ m) : ∀ k, k < m → 0 ≤ atI (exL i m) k ∧ atI (exL i m) k < (m + 1 : Nat) := by
  intro k hk
  unfold exL
  rw [labL_at _ m k hk]
  split <;> omega
theorem clos_any (z i : Int) (g : Nat) (w : World) (h : w.cell? ⟨g, 0, none⟩ = some (.int .i64 i)) :
    Calls Try.prog 75 #[.int .i64 z, .pointer (some ⟨g, 0, none⟩)] w fun e w' => e = .returned (.bool (z == i)) ∧ w = w' := by
  go_enter Try.func75, Try.ntmps75
  go_wp2_with fail
  go_ret
  exact ⟨rfl, rfl⟩
theorem idxF_any (gg cc n i gi : Nat) (w : World) (hi : i < n) (h40 : n ≤ 1099511627776) (hc : ∀ a, a < n → w.cell? ⟨gg, a, none⟩ = some (.int .i64 (a : Int))) (hg : w.cell? ⟨gi, 0, none⟩ = some (.int .i64 (i : Int))) :
    Calls Try.prog 95 #[.slice (some ⟨gg, 0, none⟩) n cc, .func (.func 75) #[] #[.pointer (some ⟨gi, 0, none⟩)]] w fun e w' => e = .returned (.int .i64 (i : Int)) ∧ w = w' := by
  have HC := Lib.hid hc
  have HG := Lib.hid hg
  clear hc hg
  go_enter Try.func95, Try.ntmps95
  go_wp2_with fail
  go_loopw [8] (fun t wr => ∃ k : Nat, k ≤ i ∧ t = .int .i64 (k : Int) ∧ w = wr) (fun t _ => i - (intOf t).toNat)
  case atStart => exact ⟨0, Nat.zero_le _, rfl, rfl⟩
  case round =>
    obtain ⟨k, hk, rfl, rfl⟩ := hrel
    have hkn : (k : Int) < n := by omega
    have hk0 : (0 : Int) ≤ k := by omega
    have hck := HC.out k (by omega)
    by_cases he : k = i
    · subst he
      have heb : ((k : Int) == (k : Int)) = true := by simp
      go_wp2_with (go_at_call 75; refine (clos_any _ _ _ _ HG.out).mono ?_; rw [heb]; rintro e w' ⟨rfl, rfl⟩)
      go_ret
      exact ⟨rfl, rfl⟩
    · have heb : ((k : Int) == (i : Int)) = false := by simp; omega
      go_wp2_with (go_at_call 75; refine (clos_any _ _ _ _ HG.out).mono ?_; rw [heb]; rintro e w' ⟨rfl, rfl⟩)
      go_roundw
      case rel => exact ⟨k + 1, by omega, by go_num, by first | exact rfl | trivial⟩
      case measure => simp [intOf]; omega

theorem OwnI.caps {w : World} {B g n c : Nat} {xs : List Int} (h : OwnI w B (.slice (some ⟨g, 0, none⟩) n c) xs) : B ≤ g ∧ n ≤ c ∧ c ≤ 9223372036854775807 := by
  have h' := h
  unfold OwnI at h'
  rcases h'.2 with ⟨hv, h0⟩ | ⟨g', cap, cur, hv, hbg, hh, hnc, hcm, hsz, htake⟩
  · cases hv
  · injection hv with e1 e2 e3
    injection e1 with e1; injection e1 with e1
    subst e1 e3
    refine ⟨hbg, by have := h.ints.1; omega, ?_⟩
    simp [maxLen] at hcm
    omega
theorem zero_i64 (w : World) : (zeroValue 2).run Try.prog w = .ok (.int .i64 0) w := by kernel_rfl
theorem clear_one (W : World) (g m n c : Nat) (ty : TypeId) (hn : n = 1) (hc : ∃ z, W.cell? ⟨g, m, none⟩ = some z) (hf : W.frozen? ⟨g, m, none⟩ = false) :
    (Builtin.clear_ #[37] ty #[.slice (some ⟨g, m, none⟩) n c]).run Try.prog W = .ok (.tuple #[]) (W.setCell ⟨g, m, none⟩ (.int .i64 0)) := by
  subst hn
  obtain ⟨z, hz⟩ := hc
  refine Lib.run_clear_slice W 37 2 ty (.int .i64 0) Try.underlying37 zero_i64 rfl rfl g m 1 c (by omega) (fun j hj => ?_) (fun j hj => ?_)
  · have h0 : j = 0 := by omega
    subst h0; rw [Nat.add_zero, hz]; rfl
  · have h0 : j = 0 := by omega
    subst h0; rw [Nat.add_zero]; exact hf

def DelPost (gg cc i m B : Nat) (w : World) (e : Ending) (w' : World) : Prop :=
  e = .returned (.slice (some ⟨gg, 0, none⟩) m cc) ∧ Ints w' w'.heap.size (some ⟨gg, 0, none⟩) (exL i m) ∧ Below B w w'
set_option maxHeartbeats 2000000 in
set_option maxRecDepth 100000 in
theorem delF_any (gg cc m n i gi B : Nat) (w : World) (hn : n = m + 1) (hi : i < n) (h20 : n ≤ 1048576) (ho : OwnI w B (.slice (some ⟨gg, 0, none⟩) n cc) (labL (fun a => (a : Int)) n)) (hB : B ≤ w.heap.size) (hgi : gi < B) (hg : w.cell? ⟨gi, 0, none⟩ = some (.int .i64 (i : Int))) :
    Calls Try.prog 74 #[.slice (some ⟨gg, 0, none⟩) n cc, .func (.func 75) #[] #[.pointer (some ⟨gi, 0, none⟩)]] w (DelPost gg cc i m B w) := by
  obtain ⟨hBg, hcap, hmax⟩ := ho.caps
  have HN := Lib.hid hn
  have HO := Lib.hid ho
  have HG := Lib.hid hg
  clear hn ho hg
  have hine : ((i : Int) == -1) = false := beq_eq_false_iff_ne.2 (by omega)
  have hii : (i : Int) < n := by omega
  go_enter Try.func74, Try.ntmps74
  go_wp2_with (go_at_call 95; refine (idxF_any gg cc n i gi _ hi (by omega) (fun a ha => own_cell HO.out ha) HG.out).mono ?_; rintro e w' ⟨rfl, rfl⟩)
  go_loopw [5, 6, 7] (fun p t u wr => ∃ j : Nat, i < j ∧ j ≤ n ∧ p = .int .i64 ((j - 1 : Nat) : Int) ∧ t = .int .i64 (j : Int) ∧ OwnI wr B (.slice (some ⟨gg, 0, none⟩) n cc) (labL (shF i j) n) ∧ Below B w wr) (fun _ t _ _ => n - (intOf t).toNat)
  case atStart => exact ⟨i + 1, by omega, by omega, by first | rfl | go_num, by first | rfl | go_num, by rw [shF_start]; exact HO.out, Below.refl _ _⟩
  case round =>
    obtain ⟨j, hij, hj, rfl, rfl, ho, hb⟩ := hrel
    have HO2 := Lib.hid ho
    have HB := Lib.hid hb
    clear ho hb
    have hg2 : wr.cell? ⟨gi, 0, none⟩ = some (.int .i64 (i : Int)) := (HB.out.cell (by simpa using hgi)).trans HG.out
    by_cases hlt : j < n
    · have hji : (j : Int) < n := by omega
      have hj0 : (0 : Int) ≤ j := by omega
      obtain ⟨p, hp⟩ : ∃ p, p = j - 1 := ⟨_, rfl⟩
      rw [← hp]
      have hpi : (p : Int) < n := by omega
      have hp0 : (0 : Int) ≤ p := by omega
      have hcj := own_cell HO2.out (a := j) hlt
      rw [shF_high i j hij] at hcj
      have hcp := own_cell HO2.out (a := p) (by omega)
      have hfp := own_free HO2.out p
      generalize shF i j p = old at hcp
      have heb : ((j : Int) == (i : Int)) = false := by simp; omega
      have hst := OwnI.store (xs := labL (shF i j) n) (by rw [labL_len]; exact HO2.out) p (j : Int)
      rw [labL_len, hp, shF_step i j n hij (by omega), ← hp] at hst
      have HST := Lib.hid hst
      have HB3 := Lib.hid (HB.out.setCell (p := ⟨gg, p, none⟩) (by simpa using hBg) (.int .i64 (j : Int)))
      have HP := Lib.hid hp
      clear hst hp
      go_wp2_with (go_at_call 75; refine (clos_any _ _ _ _ hg2).mono ?_; rw [heb]; rintro e w' ⟨rfl, rfl⟩)
      go_roundw
      case rel => exact ⟨j + 1, by omega, by omega, congrArg (Value.int .i64) (by have := HP.out; omega), by go_num, HST.out, HB3.out⟩
      case measure => simp [intOf]; omega
    · obtain rfl : j = n := by omega
      have hm := HN.out
      have hjm : j - 1 = m := by omega
      rw [hjm]
      have hmj : (m : Int) ≤ j := by omega
      have hmc : (m : Int) ≤ cc := by omega
      have hjc : (j : Int) ≤ cc := by omega
      have hcm := own_cell HO2.out (a := m) (by omega)
      have hfm := own_free HO2.out m
      have hcl := fun c ty => clear_one wr gg m 1 c ty rfl ⟨_, hcm⟩ hfm
      have HI := Lib.hid (show Ints (wr.setCell ⟨gg, m, none⟩ (.int .i64 0)) (wr.setCell ⟨gg, m, none⟩ (.int .i64 0)).heap.size (some ⟨gg, 0, none⟩) (exL i m) by
        have hst := OwnI.store (xs := labL (shF i j) j) (by rw [labL_len]; exact HO2.out) m 0
        rw [labL_len, labL_set] at hst
        refine .inr ⟨gg, 0, rfl, ?_, fun k hk => ?_⟩
        · obtain ⟨_, _, e, h, _⟩ := hst.ints.2.at_ (k := 0) (by rw [labL_len]; omega)
          injection e with e; injection e with e1 e2
          subst e1 e2
          exact h
        · rw [exL_len] at hk
          have := own_cell hst (a := k) (by omega)
          rw [if_neg (by omega)] at this
          rw [Nat.zero_add, this, ← exL_is, labL_at _ m k hk, hm])
      have HB3 := Lib.hid (HB.out.setCell (p := ⟨gg, m, none⟩) (by simpa using hBg) (.int .i64 0))
      clear hcm hfm
      go_wp2_with fail
      go_ret
      exact ⟨by first | rfl | simp, HI.out, HB3.out⟩
end Go.Proofs.Ytpeocfjbdgbmmaa
