/-
  Plain law: an airway's text, cut at the first blank and read, or divided at blanks and read.
-/
import Derived.Test.YtcfcmpblemagiaaGreatDoorReadList
import Derived.Test.YtcfcmpblemagiaaGreatDoorAirwayText
import Derived.Lib.CutLaws
import Derived.Test.YtcfcmpblemagiaaGreatDoorNum
import Derived.RowKit3
import Derived.ProofKit
import Derived.OpenShut
import Derived.Lib.SmallJoins
namespace Go.Proofs.YtcfcmpblemagiaaGreatDoor
open Go.RowKit
set_option linter.unusedVariables false

theorem rlO_text {s : ByteArray} {ls : List Int} (h : rlO s = some ls) (hne : ls ≠ []) : listText ls = s ∧ s.size ≠ 0 ∧ IB ls := by
  unfold rlO at h
  split at h
  · injection h with h; exact absurd h.symm hne
  · split at h
    · rename_i hc
      simp only [Bool.and_eq_true, decide_eq_true_eq] at hc
      injection h with h
      subst h
      have ho : (splS 44 s).all okN = true := by
        rw [List.all_eq_true]
        intro p hp
        have := List.all_eq_true.1 hc.2 p hp
        unfold okR at this
        simp only [Bool.and_eq_true] at this
        exact this.1
      refine ⟨?_, fun hz => ?_, map_ib _⟩
      · have hf := fits_map _ ho
        unfold listText
        rw [hf, decide_eq_true hc.1, hc.2, if_pos (by simp)]
        unfold listT
        have hn := splS_ne 44 s
        rw [if_neg (by simpa using hn), List.length_map]
        exact text_map s _ rfl ho
      · rw [empty_spl 44 s hz] at ho
        simp only [List.all_cons, List.all_nil, Bool.and_true] at ho
        rw [empty_num s hz] at ho
        cases ho
    · cases h

theorem num_digits {l : List UInt8} (h : (numO l).isSome = true) (c : UInt8) (hc : c ∈ l) : c = 45 ∨ digitB c = true := by
  unfold numO at h
  split at h
  · cases h
  · split at h
    · rename_i hd
      unfold magO at hd
      split at hd
      · rename_i hn
        unfold negO at hn
        cases l with
        | nil => cases hc
        | cons x r =>
          have hx : x = 45 := by simpa using hn
          rcases List.mem_cons.1 hc with e | e
          · exact .inl (e.trans hx)
          · exact .inr (List.all_eq_true.1 hd c e)
      · exact .inr (List.all_eq_true.1 hd c hc)
    · cases h
theorem splL_mem (b c : UInt8) (l : List UInt8) (hc : c ∈ l) (hn : c ≠ b) : ∃ p, p ∈ splL b l ∧ c ∈ p := by
  induction l with
  | nil => cases hc
  | cons x r ih =>
    unfold splL
    by_cases hx : x = b
    · rw [if_pos hx]
      rcases List.mem_cons.1 hc with e | e
      · exact absurd (e.trans hx) hn
      · obtain ⟨p, h1, h2⟩ := ih e
        exact ⟨p, List.mem_cons_of_mem _ h1, h2⟩
    · rw [if_neg hx]
      cases hs : splL b r with
      | nil => exact absurd hs (splL_ne b r)
      | cons h t =>
        rcases List.mem_cons.1 hc with e | e
        · exact ⟨x :: h, by simp, by rw [e]; simp⟩
        · obtain ⟨p, h1, h2⟩ := ih e
          rw [hs] at h1
          rcases List.mem_cons.1 h1 with e1 | e1
          · exact ⟨x :: h, by simp, List.mem_cons_of_mem _ (by rw [← e1]; exact h2)⟩
          · exact ⟨p, List.mem_cons_of_mem _ e1, h2⟩
/-- a text that reads as a list that is not empty holds nothing but digits, '-' and ',' -/
theorem rlO_signs {s : ByteArray} {ls : List Int} (h : rlO s = some ls) (hne : ls ≠ []) (c : UInt8) (hc : c ∈ s.data.toList) : c = 44 ∨ c = 45 ∨ digitB c = true := by
  by_cases h44 : c = 44
  · exact .inl h44
  · obtain ⟨p, h1, h2⟩ := splL_mem 44 c _ hc h44
    unfold rlO at h
    split at h
    · injection h with h; exact absurd h.symm hne
    · split at h
      · rename_i hk
        simp only [Bool.and_eq_true, decide_eq_true_eq] at hk
        have := List.all_eq_true.1 hk.2 (toB p) (by unfold splS; exact List.mem_map.2 ⟨p, h1, rfl⟩)
        unfold okR at this
        simp only [Bool.and_eq_true] at this
        exact .inr (num_digits this.1 c h2)
      · cases h
theorem rlO_no (b : UInt8) (hb : b ≠ 44 ∧ b ≠ 45 ∧ digitB b = false) {s : ByteArray} {ls : List Int} (h : rlO s = some ls) (hne : ls ≠ []) : b ∉ s.data.toList := fun hc => by
  rcases rlO_signs h hne b hc with e | e | e
  · exact hb.1 e
  · exact hb.2.1 e
  · rw [hb.2.2] at e; cases e

def wayO (a : ByteArray) (o : Option (List Int)) : Option AW := match o with
  | some [u, v, l, s, f, k] => if (AW.mk a u v l s f k).okB then some ⟨a, u, v, l, s, f, k⟩ else none
  | _ => none
def rwO (s : ByteArray) : Option AW := match splS 32 s with
  | [a, r] => wayO a (rlO r)
  | _ => none
theorem way_six (x : AW) : wayO x.a (some (nums x)) = if x.okB then some x else none := rfl
theorem way_none {a : ByteArray} {o : Option (List Int)} (h : ∀ x : AW, o ≠ some (nums x)) : wayO a o = none := by
  unfold wayO
  split
  · rename_i u v l s f k; exact absurd rfl (h ⟨a, u, v, l, s, f, k⟩)
  · rfl
theorem six {ls : List Int} (h : ls.length = 6) (a : ByteArray) : ∃ x : AW, x.a = a ∧ ls = nums x := by
  match ls, h with
  | [u, v, l, s, f, k], _ => exact ⟨⟨a, u, v, l, s, f, k⟩, rfl, rfl⟩
theorem six_cases (o : Option (List Int)) (a : ByteArray) : (∃ x : AW, x.a = a ∧ o = some (nums x)) ∨ (∃ ls, o = some ls ∧ ls.length ≠ 6 ∧ ∀ x : AW, o ≠ some (nums x)) ∨ (o = none ∧ ∀ x : AW, o ≠ some (nums x)) := by
  cases o with
  | none => exact .inr (.inr ⟨rfl, fun x h => by cases h⟩)
  | some ls =>
    by_cases h : ls.length = 6
    · obtain ⟨x, h1, h2⟩ := six h a
      exact .inl ⟨x, h1, by rw [h2]⟩
    · exact .inr (.inl ⟨ls, rfl, h, fun x e => h (by injection e with e; rw [e]; rfl)⟩)
theorem nums_ne (x : AW) : nums x ≠ [] := by unfold nums; simp
theorem splS_cut (b : UInt8) (x r : List UInt8) (h : b ∉ x) : splS b (toB (x ++ b :: r)) = toB x :: splS b (toB r) := by
  unfold splS; rw [toB_data, splL_cut b x r h]; rfl
theorem splS_no (b : UInt8) (r : List UInt8) (h : b ∉ r) : splS b (toB r) = [toB r] := by
  unfold splS; rw [toB_data, splL_no b r h]; rfl
theorem rlO_empty : rlO (toB []) = none := by
  unfold rlO
  rw [if_neg (by intro h; exact absurd (congrArg (fun b : ByteArray => b.size) h) (by decide))]
  rw [empty_spl 44 _ rfl]
  have h : okR (toB []) = false := by unfold okR; rw [empty_num _ rfl]; rfl
  rw [if_neg (by simp [h])]
def WayHit (s : ByteArray) (y : AW) : Prop := y.a.size ≤ s.size ∧ (y.okB = true → awT y = s ∧ rwO s = some y) ∧ (y.okB = false → awT y ≠ s ∧ rwO s = none)
/-- what the program cuts: the text ahead of the first blank, the text behind it -/
theorem cut_way (s : ByteArray) : ∃ (x r : List UInt8) (b : Bool), Lib.cut s.data.toList [32] = (x, r, b) ∧ (toB x).size ≤ s.size ∧ (toB r).size ≤ s.size ∧
    (∀ y : AW, y.a = toB x → rlO (toB r) = some (nums y) → WayHit s y) ∧ ((∀ y : AW, rlO (toB r) ≠ some (nums y)) → rwO s = none) := by
  by_cases hm : 32 ∈ s.data.toList
  · obtain ⟨x, r, e, hx⟩ := cut_at 32 _ hm
    have hs : s = toB (x ++ 32 :: r) := by rw [← toB_of s, e]
    have hc : Lib.cut s.data.toList [32] = (x, r, true) := by
      unfold Lib.cut
      rw [e, idx_cut 32 x r hx, if_pos (by omega), Int.toNat_natCast]
      have e1 : (x ++ 32 :: r).take x.length = x := by rw [List.take_left']; rfl
      have e2 : (x ++ 32 :: r).drop (x.length + [(32 : UInt8)].length) = r := by
        show (x ++ 32 :: r).drop (x.length + 1) = r
        rw [List.drop_append, List.drop_of_length_le (by omega)]
        have : x.length + 1 - x.length = 1 := by omega
        rw [this]; rfl
      rw [e1, e2]
    have hsz : s.size = x.length + (r.length + 1) := by rw [hs]; show (x ++ 32 :: r).toArray.size = _; simp
    have hxz : (toB x).size = x.length := by show x.toArray.size = _; simp
    have hrz : (toB r).size = r.length := by show r.toArray.size = _; simp
    refine ⟨x, r, true, hc, by omega, by omega, fun y hy hr => ?_, fun hno => ?_⟩
    · have hr' : rlO (toB r) = some (nums y) := hr
      have h32 : (32 : UInt8) ∉ r := rlO_no 32 ⟨by decide, by decide, by decide⟩ hr' (nums_ne y)
      have hw : rwO s = if y.okB then some y else none := by
        unfold rwO
        rw [hs, splS_cut 32 x r hx, splS_no 32 r h32]
        show wayO (toB x) (rlO (toB r)) = _
        rw [hr', ← hy]; exact way_six y
      refine ⟨by rw [hy]; omega, fun ho => ⟨?_, by rw [hw, ho, if_pos rfl]⟩, fun ho => ⟨fun hh => ?_, by rw [hw, ho]; rfl⟩⟩
      · unfold awT
        rw [if_pos ho, ← (nums_fit ho).1, (rlO_text hr' (nums_ne y)).1, hy, hs]
        apply ByteArray.ext
        rw [ByteArray.data_append, ByteArray.data_append]
        show (x.toArray ++ #[32]) ++ r.toArray = (x ++ 32 :: r).toArray
        simp
      · unfold awT at hh
        rw [ho] at hh
        have := congrArg (fun b : ByteArray => b.size) hh
        have e0 : (if false = true then (y.a ++ (⟨#[32]⟩ : ByteArray)) ++ listT (nums y) else ⟨#[]⟩ : ByteArray).size = 0 := rfl
        simp only [e0] at this
        omega
    · have hno' : ∀ y : AW, rlO (toB r) ≠ some (nums y) := hno
      unfold rwO
      rw [hs, splS_cut 32 x r hx]
      by_cases h32 : (32 : UInt8) ∈ r
      · obtain ⟨x2, r2, e2, hx2⟩ := cut_at 32 _ h32
        rw [e2, splS_cut 32 x2 r2 hx2]
        cases hq : splS 32 (toB r2) with
        | nil => exact absurd hq (splS_ne 32 _)
        | cons _ _ => rfl
      · rw [splS_no 32 r h32]
        show wayO (toB x) (rlO (toB r)) = _
        exact way_none hno'
  · have hc : Lib.cut s.data.toList [32] = (s.data.toList, [], false) := by
      unfold Lib.cut
      rw [idx_no 32 _ hm, if_neg (by omega)]
    refine ⟨s.data.toList, [], false, hc, Nat.le_of_eq rfl, Nat.zero_le _, fun y hy hr => ?_, fun _ => ?_⟩
    · rw [rlO_empty] at hr; cases hr
    · unfold rwO
      have : splS 32 s = [s] := by rw [← toB_of s, splS_no 32 _ hm]
      rw [this]
end Go.Proofs.YtcfcmpblemagiaaGreatDoor
