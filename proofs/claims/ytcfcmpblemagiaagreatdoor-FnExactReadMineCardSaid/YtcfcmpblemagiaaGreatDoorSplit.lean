/-
  The contract of the reference's l01Split.
-/
import Derived.Test.YtcfcmpblemagiaaGreatDoorSpl
import Derived.Test.YtcfcmpblemagiaaGreatDoorOwnS
import Derived.Test.YtcfcmpblemagiaaGreatDoorNumb
namespace Go.Proofs.YtcfcmpblemagiaaGreatDoor
open Go.RowKit
set_option linter.unusedVariables false

def splS (b : UInt8) (s : ByteArray) : List ByteArray := (splL b s.data.toList).map toB
theorem splS_len (b : UInt8) (s : ByteArray) : (splS b s).length ≤ s.size + 1 := by
  unfold splS; rw [List.length_map]; have := splL_len b s.data.toList; rw [len_is] at this; exact this
def SplPost (xs : List ByteArray) (w : World) (e : Ending) (w' : World) : Prop := ∃ v, e = .returned v ∧ OwnS w' w.heap.size v xs ∧ Below w.heap.size w w'
theorem ext_is (s : ByteArray) (f i : Nat) : s.extract f i = toB ((s.data.toList.drop f).take (i - f)) := by
  rw [← Lib.extract_data]; rfl
theorem ext_end (s : ByteArray) (f : Nat) : s.extract f s.size = toB (s.data.toList.drop f) := by
  rw [ext_is, List.take_of_length_le (by rw [List.length_drop, len_is]; exact Nat.le_refl _)]
theorem drop_at (s : ByteArray) (f i : Nat) (h : f ≤ i) (hi : i < s.size) : s.data.toList.drop f = (s.data.toList.drop f).take (i - f) ++ s[i] :: s.data.toList.drop (i + 1) := by
  have hl : i < s.data.toList.length := by rw [len_is]; exact hi
  have e1 : s.data.toList.drop i = s[i] :: s.data.toList.drop (i + 1) := by
    rw [List.drop_eq_getElem_cons hl]; rfl
  have e2 : (s.data.toList.drop f).drop (i - f) = s.data.toList.drop i := by rw [List.drop_drop]; congr 1; omega
  rw [← e1, ← e2, List.take_append_drop]
theorem take_more (s : ByteArray) (f i : Nat) (h : f ≤ i) (hi : i < s.size) : (s.data.toList.drop f).take (i + 1 - f) = (s.data.toList.drop f).take (i - f) ++ [s[i]] := by
  have hl : i - f < (s.data.toList.drop f).length := by rw [List.length_drop, len_is]; omega
  have e : i + 1 - f = (i - f) + 1 := by omega
  rw [e, List.take_succ_eq_append_getElem hl]
  congr 2
  rw [List.getElem_drop]
  have : f + (i - f) = i := by omega
  simp only [this]
  rfl
set_option maxHeartbeats 1000000 in
theorem l01Split_any (s : ByteArray) (b : UInt8) (w : World) (hs : s.size ≤ 1048576) :
    Calls Tryz.prog 17 #[.string s, .int .u8 b.toNat] w (SplPost (splS b s) w) := by
  obtain ⟨l, hl⟩ : ∃ l, l = s.data.toList := ⟨_, rfl⟩
  have HL := Lib.hid hl
  go_enter Tryz.func17, Tryz.ntmps17
  go_wp2_with fail
  go_loopw [5, 6, 7] (fun v t u wr => ∃ (f i : Nat) (ps : List ByteArray), f ≤ i ∧ i ≤ s.size ∧ t = .int .i64 (f : Int) ∧ u = .int .i64 (i : Int) ∧ OwnS wr w.heap.size v ps ∧ ps ++ (splL b (l.drop f)).map toB = splS b s ∧ b ∉ (l.drop f).take (i - f) ∧ ps.length ≤ i ∧ Below w.heap.size w wr) (fun _ _ u _ => s.size - (intOf u).toNat)
  case atStart => exact ⟨0, 0, [], Nat.le_refl _, Nat.zero_le _, rfl, rfl, OwnS.lit _ _ (Nat.le_refl _), by rw [hl]; rfl, by simp, Nat.le_refl _, (Below.refl _ _).alloc (Nat.le_refl _) _⟩
  case round =>
    obtain ⟨f, i, ps, hfi, hi, rfl, rfl, ho, hps, hno, hpl, hb⟩ := hrel
    have HO := Lib.hid ho
    have HPS := Lib.hid hps
    have HNO := Lib.hid hno
    have HB := Lib.hid hb
    clear ho hps hno hb
    have hf0 : (0 : Int) ≤ f := by omega
    have hfii : (f : Int) ≤ i := by omega
    by_cases hlt : i < s.size
    · have hii : (i : Int) < s.size := by omega
      have hi0 : (0 : Int) ≤ i := by omega
      have hile : (i : Int) ≤ s.size := by omega
      by_cases hc : s[i] = b
      · have hcb : ((s[i].toNat : Int) == (b.toNat : Int)) = true := by rw [hc]; exact beq_self_eq_true _
        have HN2 := Lib.hid (show (ps ++ [s.extract f i]) ++ (splL b (l.drop (i + 1))).map toB = splS b s by
          rw [← HPS.out]
          have hd := drop_at s f i hfi hlt
          rw [← HL.out, hc] at hd
          have hno := HNO.out
          have he : splL b (l.drop f) = (l.drop f).take (i - f) :: splL b (l.drop (i + 1)) :=
            (congrArg (splL b) hd).trans (splL_cut b _ _ hno)
          rw [he, List.map_cons, ext_is, ← HL.out, List.append_assoc]
          rfl)
        clear hc hl
        go_wp2_with (at_builtin; refine push_str rfl (.tmp 20) (.tmp 25) rfl _ w.heap.size _ ps _ rfl HO.out rfl (by omega) HB.out.size ?_; intro v' w4 ho4 hg4 hl4; have HO4 := Lib.hid ho4; have HB4 := Lib.hid (below_grown (HB.out.alloc HB.out.size _) hg4 (fun g e => (HO.out.lt e).1) (by have := HB.out.size; simp; omega)); clear ho4 hg4 hl4)
        go_roundw
        case rel => exact ⟨i + 1, i + 1, _, by omega, by omega, by go_num, by go_num, HO4.out, HN2.out, by rw [Nat.sub_self]; simp, by simp; omega, HB4.out⟩
        case measure => simp [intOf]; omega
      · have hcb : ((s[i].toNat : Int) == (b.toNat : Int)) = false := beq_eq_false_iff_ne.2 (fun h => hc (UInt8.toNat.inj (by omega)))
        have HN2 := Lib.hid (show b ∉ (l.drop f).take (i + 1 - f) by
          rw [HL.out, take_more s f i hfi hlt]
          intro hm
          rcases List.mem_append.1 hm with h | h
          · exact HNO.out (by rw [HL.out]; exact h)
          · exact hc (List.mem_singleton.1 h).symm)
        clear hc hl
        go_wp2_with fail
        go_roundw
        case rel => exact ⟨f, i + 1, ps, by omega, by omega, rfl, by go_num, HO.out, HPS.out, HN2.out, by omega, HB.out⟩
        case measure => simp [intOf]; omega
    · obtain rfl : i = s.size := by omega
      have hii : ¬ (s.size : Int) < s.size := by omega
      have HE := Lib.hid (show ps ++ [s.extract f s.size] = splS b s by
        have hno := HNO.out
        rw [List.take_of_length_le (by rw [List.length_drop, HL.out, len_is]; exact Nat.le_refl _)] at hno
        rw [← HPS.out, splL_no b _ hno, ext_end, ← HL.out]
        rfl)
      clear hl
      go_wp2_with (at_builtin; refine push_str rfl (.tmp 29) (.tmp 33) rfl _ w.heap.size _ ps _ rfl HO.out rfl (by omega) HB.out.size ?_; intro v' w4 ho4 hg4 hl4; have HO4 := Lib.hid ho4; have HB4 := Lib.hid (below_grown (HB.out.alloc HB.out.size _) hg4 (fun g e => (HO.out.lt e).1) (by have := HB.out.size; simp; omega)); clear ho4 hg4 hl4)
      go_ret
      exact ⟨_, rfl, by rw [← HE.out]; exact HO4.out, HB4.out⟩
end Go.Proofs.YtcfcmpblemagiaaGreatDoor
