/-
  SplitWords: both sides' contracts: the pieces between blanks that are not empty.
-/
import Derived.Test.YtfgfoggnhjchiaaDoorReadList
import Derived.Test.YtfgfoggnhjchiaaDoorMarkStr
import Derived.Lib.SplitLaws
import Derived.Test.YtfgfoggnhjchiaaDoorNum
import Derived.RowKit3
import Derived.ProofKit
import Derived.OpenShut
import Derived.Lib.SmallJoins
namespace Go.Proofs.YtfgfoggnhjchiaaDoor
open Go.RowKit
set_option linter.unusedVariables false

def neB (p : ByteArray) : Bool := !(p.toList == [])
def words (s : ByteArray) : List ByteArray := (splS 32 s).filter neB
theorem filter_yes (ps : List ByteArray) (k : Nat) (h : k < ps.length) (hn : neB ps[k] = true) : (ps.take (k + 1)).filter neB = (ps.take k).filter neB ++ [ps[k]] := by
  rw [List.take_succ_eq_append_getElem h, List.filter_append]; simp [hn]
theorem filter_no (ps : List ByteArray) (k : Nat) (h : k < ps.length) (hn : neB ps[k] = false) : (ps.take (k + 1)).filter neB = (ps.take k).filter neB := by
  rw [List.take_succ_eq_append_getElem h, List.filter_append]; simp [hn]
theorem splL_count (b : UInt8) (l : List UInt8) : (splL b l).length = l.count b + 1 := by
  induction l with
  | nil => rfl
  | cons c r ih =>
    unfold splL
    by_cases hc : c = b
    · subst hc; rw [if_pos rfl, List.length_cons, ih, List.count_cons_self]
    · rw [if_neg hc, List.count_cons_of_ne (by simpa using hc)]
      cases hs : splL b r with
      | nil => exact absurd hs (splL_ne b r)
      | cons x t => rw [hs] at ih; simpa using ih
theorem count_is (s : ByteArray) : Lib.countB s ⟨#[32]⟩ + 1 = (splS 32 s).length := by
  unfold splS
  rw [List.length_map, splL_count]
  show Lib.count s.data.toList [32] + 1 = _
  rw [Lib.count_one]
theorem split_is (s : ByteArray) : Lib.splitB ⟨#[32]⟩ 0 (Lib.countB s ⟨#[32]⟩) s = splS 32 s := by
  have hc := count_is s
  rw [splitB_is]
  unfold splS at hc ⊢
  rw [List.length_map] at hc
  rw [splitK_all _ _ _ (by omega)]
theorem words_len (s : ByteArray) : (words s).length ≤ s.size + 1 :=
  Nat.le_trans (List.length_filter_le _ _) (splS_len 32 s)

set_option maxHeartbeats 1000000 in
theorem swS_any (s : ByteArray) (w : World) (hs : s.size ≤ 1048576) : Calls Tryd.prog 15 #[.string s] w (SplPost (words s) w) := by
  have HW := Lib.hid (show words s = (splS 32 s).filter neB from rfl)
  have hpl := splS_len 32 s
  go_enter Tryd.func15, Tryd.ntmps15
  go_wp2_with fail
  refine (l01Split_any s 32 _ hs).mono ?_; rintro e w1 ⟨v, rfl, ho, b1⟩
  obtain ⟨A1, c1, ev, _, hst⟩ := ho.reads
  subst ev
  generalize splS 32 s = ps at hst HW hpl
  obtain ⟨n, hn⟩ : ∃ n, n = ps.length := ⟨_, rfl⟩
  rw [← hn] at hpl ⊢
  have HN := Lib.hid hn
  have HST := Lib.hid hst
  have HB1 := Lib.hid b1
  have HZ := Lib.hid b1.size
  clear ho hst b1 hn
  go_wp2_with fail
  go_loopw [4, 5] (fun v t wr => ∃ k : Nat, k ≤ n ∧ t = .int .i64 (k : Int) ∧ OwnS wr w1.heap.size v ((ps.take k).filter neB) ∧ Below w1.heap.size w1 wr) (fun _ t _ => n - (intOf t).toNat)
  case atStart => exact ⟨0, Nat.zero_le _, rfl, OwnS.lit _ _ (Nat.le_refl _), (Below.refl _ _).alloc (Nat.le_refl _) _⟩
  case round =>
    obtain ⟨k, hk, rfl, ho, hb⟩ := hrel
    have HO := Lib.hid ho
    have HB := Lib.hid hb
    clear ho hb
    have hlen2 : ((ps.take k).filter neB).length ≤ 1048577 := by
      have := List.length_filter_le neB (ps.take k)
      rw [List.length_take] at this; have := HN.out; omega
    by_cases hlt : k < n
    · have hki : (k : Int) < n := by omega
      have hk0 : (0 : Int) ≤ k := by omega
      have hkl : k < ps.length := by have := HN.out; omega
      obtain ⟨b, off, eA, _, hc⟩ := (HST.out.next HB.out).at_ hkl
      subst eA
      rw [atS_is ps k hkl] at hc
      have HY := Lib.hid (filter_yes ps k hkl)
      have HNO := Lib.hid (filter_no ps k hkl)
      generalize ps[k] = p at hc HY HNO
      cases hq : p.toList == [] with
      | true =>
        have HF := Lib.hid (HNO.out (by unfold neB; rw [hq]; rfl))
        go_wp2_with fail
        go_roundw
        case rel => exact ⟨k + 1, by omega, by go_num, by rw [HF.out]; exact HO.out, HB.out⟩
        case measure => simp [intOf]; omega
      | false =>
        have HF := Lib.hid (HY.out (by unfold neB; rw [hq]; rfl))
        go_wp2_with (at_builtin; refine push_str rfl (.tmp 20) (.tmp 25) rfl _ w1.heap.size _ ((ps.take k).filter neB) _ rfl HO.out rfl (by omega) HB.out.size ?_; intro v' w4 ho4 hg4 hl4; have HO4 := Lib.hid ho4; have HB4 := Lib.hid (below_grown (HB.out.alloc HB.out.size _) hg4 (fun g e => (HO.out.lt e).1) (by have := HB.out.size; simp; omega)); clear ho4 hg4 hl4)
        go_roundw
        case rel => exact ⟨k + 1, by omega, by go_num, by rw [HF.out]; exact HO4.out, HB4.out⟩
        case measure => simp [intOf]; omega
    · obtain rfl : k = n := by omega
      have hki : ¬ (k : Int) < k := by omega
      have ht : ps.take k = ps := List.take_of_length_le (by have := HN.out; omega)
      rw [ht] at HO
      clear hlen2 ht
      go_wp2_with fail
      go_ret
      exact ⟨_, rfl, by rw [HW.out]; exact World.ownsRow.mono HO.out HZ.out, stepB HB1.out HB.out⟩

theorem cells_all (w : World) (ps : List ByteArray) (t : TypeId) : Strs (w.alloc (.cells (ps.map Value.string).toArray t)) (some ⟨w.heap.size, 0, none⟩) ps := by
  refine .inr ⟨w.heap.size, 0, rfl, by simp, fun k hk => ?_⟩
  rw [World.cell?_alloc_at _ _ _ _ rfl, Nat.zero_add]
  rw [List.getElem?_toArray, List.getElem?_map, List.getElem?_eq_getElem hk, atS_is ps k hk]
  rfl
theorem split_any (s : ByteArray) (w : World) (hs : s.size ≤ 1048576) (mx : MaxI w) :
    Calls Tryd.prog 51 #[.string s, .string ⟨#[32]⟩] w fun e w' => ∃ c, e = .returned (.slice (some ⟨w.heap.size, 0, none⟩) (splS 32 s).length c) ∧ Strs w' (some ⟨w.heap.size, 0, none⟩) (splS 32 s) ∧ Below w.heap.size w w' := by
  obtain ⟨m, hm⟩ := mx
  refine (Tryd.strings_Split s ⟨#[32]⟩ m w (by omega) hm (by decide)).mono ?_
  rintro e w' ⟨rfl, rfl⟩
  rw [split_is, count_is]
  exact ⟨_, rfl, cells_all w _ _, (Below.refl _ _).alloc (Nat.le_refl _) _⟩

set_option maxHeartbeats 1000000 in
theorem swP_any (s : ByteArray) (w : World) (hs : s.size ≤ 1048576) (mx : MaxI w) : Calls Tryd.prog 16 #[.string s] w (SplPost (words s) w) := by
  have HW := Lib.hid (show words s = (splS 32 s).filter neB from rfl)
  have hpl := splS_len 32 s
  go_enter Tryd.func16, Tryd.ntmps16
  go_wp2_with fail
  refine (split_any s _ hs mx).mono ?_; rintro e w1 ⟨c1, rfl, hst, b1⟩
  generalize splS 32 s = ps at hst HW hpl
  obtain ⟨n, hn⟩ : ∃ n, n = ps.length := ⟨_, rfl⟩
  rw [← hn] at hpl ⊢
  have HN := Lib.hid hn
  have HST := Lib.hid hst
  have HB1 := Lib.hid b1
  have HZ := Lib.hid b1.size
  clear hst b1 hn
  go_wp2_with fail
  go_loopw [3, 9] (fun v t wr => ∃ k : Nat, k ≤ n ∧ t = .int .i64 (k : Int) ∧ OwnS wr w1.heap.size v ((ps.take k).filter neB) ∧ Below w1.heap.size w1 wr) (fun _ t _ => n - (intOf t).toNat)
  case atStart => exact ⟨0, Nat.zero_le _, rfl, OwnS.nil _ _, Below.refl _ _⟩
  case round =>
    obtain ⟨k, hk, rfl, ho, hb⟩ := hrel
    have HO := Lib.hid ho
    have HB := Lib.hid hb
    clear ho hb
    have hlen2 : ((ps.take k).filter neB).length ≤ 1048577 := by
      have := List.length_filter_le neB (ps.take k)
      rw [List.length_take] at this; have := HN.out; omega
    by_cases hlt : k < n
    · have hki : (k : Int) < n := by omega
      have hk0 : (0 : Int) ≤ k := by omega
      have hkl : k < ps.length := by have := HN.out; omega
      obtain ⟨b, off, eA, _, hc⟩ := (HST.out.next HB.out).at_ hkl
      injection eA with eA; injection eA with e1 e2
      subst e1 e2
      rw [atS_is ps k hkl, Nat.zero_add] at hc
      have HY := Lib.hid (filter_yes ps k hkl)
      have HNO := Lib.hid (filter_no ps k hkl)
      generalize ps[k] = p at hc HY HNO
      cases hq : p.toList == [] with
      | true =>
        have HF := Lib.hid (HNO.out (by unfold neB; rw [hq]; rfl))
        go_wp2_with fail
        go_roundw
        case rel => exact ⟨k + 1, by omega, by go_num, by rw [HF.out]; exact HO.out, HB.out⟩
        case measure => simp [intOf]; omega
      | false =>
        have HF := Lib.hid (HY.out (by unfold neB; rw [hq]; rfl))
        go_wp2_with (at_builtin; refine push_str rfl (.tmp 15) (.tmp 17) rfl _ w1.heap.size _ ((ps.take k).filter neB) _ rfl HO.out rfl (by omega) HB.out.size ?_; intro v' w4 ho4 hg4 hl4; have HO4 := Lib.hid ho4; have HB4 := Lib.hid (below_grown (HB.out.alloc HB.out.size _) hg4 (fun g e => (HO.out.lt e).1) (by have := HB.out.size; simp; omega)); clear ho4 hg4 hl4)
        go_roundw
        case rel => exact ⟨k + 1, by omega, by go_num, by rw [HF.out]; exact HO4.out, HB4.out⟩
        case measure => simp [intOf]; omega
    · obtain rfl : k = n := by omega
      have hki : ¬ (k : Int) < k := by omega
      have ht : ps.take k = ps := List.take_of_length_le (by have := HN.out; omega)
      rw [ht] at HO
      clear hlen2 ht
      go_wp2_with fail
      go_ret
      exact ⟨_, rfl, by rw [HW.out]; exact World.ownsRow.mono HO.out HZ.out, stepB HB1.out HB.out⟩
end Go.Proofs.YtfgfoggnhjchiaaDoor
