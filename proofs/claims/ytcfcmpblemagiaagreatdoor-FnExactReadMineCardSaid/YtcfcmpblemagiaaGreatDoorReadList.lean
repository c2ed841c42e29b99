/-
  FnExactReadList: for every text the program's ReadList returns what the reference's returns; the lists stay the caller's own.
-/
import Derived.Test.YtcfcmpblemagiaaGreatDoorReadListT
import Derived.Test.YtcfcmpblemagiaaGreatDoorReadDecimal
import Derived.Test.YtcfcmpblemagiaaGreatDoorBoth
import Derived.Test.YtcfcmpblemagiaaGreatDoorListLaw
import Derived.Deep.Onto
import Derived.Test.YtcfcmpblemagiaaGreatDoorNum
import Derived.RowKit3
import Derived.ProofKit
import Derived.OpenShut
import Derived.Lib.SmallJoins
namespace Go.Proofs.YtcfcmpblemagiaaGreatDoor
open Go.RowKit
set_option linter.unusedVariables false

def RlPost (o : Option (List Int)) (w : World) (e : Ending) (w' : World) : Prop := ∃ v, e = .returned (.tuple #[v, .bool o.isSome]) ∧ OwnI w' w.heap.size v (o.getD []) ∧ Below w.heap.size w w'
theorem OwnI.mono {w : World} {B B' : Nat} {v : Value} {xs : List Int} (h : OwnI w B v xs) (hb : B' ≤ B) : OwnI w B' v xs := World.ownsRow.mono h hb
theorem OwnI.nil (w : World) (B : Nat) : OwnI w B (.slice none 0 0) [] := World.ownsRow_nil _ _ _ _
theorem rl_ret {o : Option (List Int)} {ls : List Int} {b : Bool} {w w' : World} {v : Value} (h : o.getD [] = ls ∧ o.isSome = b) (ho : OwnI w' w.heap.size v ls) (hb : Below w.heap.size w w') : RlPost o w (.returned (.tuple #[v, .bool b])) w' := by
  rw [← h.1] at ho; rw [← h.2]; exact ⟨v, rfl, ho, hb⟩
theorem rl_none {o : Option (List Int)} {w w' : World} (h : o = none) (hb : Below w.heap.size w w') : RlPost o w (.returned (.tuple #[.slice none 0 0, .bool false])) w' :=
  rl_ret (by rw [h]; exact ⟨rfl, rfl⟩) (OwnI.nil _ _) hb
theorem resV_is (p : ByteArray) : resV (numO p.data.toList) = .tuple #[.int .i64 (nv p), .bool (okN p)] := rfl
theorem all_take_at (ps : List ByteArray) (q : ByteArray → Bool) (k : Nat) (h : k < ps.length) : (ps.take (k + 1)).all q = ((ps.take k).all q && q ps[k]) := by
  rw [List.take_succ_eq_append_getElem h, List.all_append]; simp
theorem all_no (ps : List ByteArray) (q : ByteArray → Bool) (k : Nat) (h : k < ps.length) (hn : q ps[k] = false) : ps.all q = false := by
  rw [List.all_eq_false]; exact ⟨ps[k], List.getElem_mem h, by simp [hn]⟩
theorem map_take (ps : List ByteArray) (k : Nat) (h : k < ps.length) : (ps.take (k + 1)).map nv = (ps.take k).map nv ++ [nv ps[k]] := by
  rw [List.take_succ_eq_append_getElem h, List.map_append]; rfl
theorem spl_size (b : UInt8) (s : ByteArray) (p : ByteArray) (h : p ∈ splS b s) : p.size ≤ s.size := by
  have key : ∀ n, ∀ l : List UInt8, l.length = n → ∀ q, q ∈ splL b l → q.length ≤ l.length := by
    intro n
    induction n using Nat.strongRecOn with
    | _ n ih =>
      intro l hl q hq
      by_cases hm : b ∈ l
      · obtain ⟨x, r, rfl, hx⟩ := cut_at b l hm
        have hr : r.length < n := by rw [← hl]; simp; omega
        rw [splL_cut b x r hx] at hq
        rcases List.mem_cons.1 hq with rfl | hq
        · simp
        · have := ih r.length hr r rfl q hq
          simp; omega
      · rw [splL_no b l hm] at hq
        have := List.mem_singleton.1 hq
        rw [this]; exact Nat.le_refl _
  unfold splS at h
  obtain ⟨q, hq, rfl⟩ := List.mem_map.1 h
  have := key _ _ rfl q hq
  rw [len_is] at this
  exact this

set_option maxHeartbeats 2000000 in
theorem rlS_any (s : ByteArray) (w : World) (hs : s.size ≤ 1048576) : Calls Tryz.prog 31 #[.string s] w (RlPost (rlO s) w) := by
  by_cases h45 : s = ⟨#[45]⟩
  · subst h45
    go_enter Tryz.func31, Tryz.ntmps31
    go_wp2_with fail
    go_ret2
    exact rl_ret (show _ ∧ _ from ⟨rfl, rfl⟩) (OwnI.lit _ _ (Nat.le_refl _)) ((Below.refl _ _).alloc (Nat.le_refl _) _)
  · have hcmp : (s.toList == [45]) = false := beq_eq_false_iff_ne.2 (fun h => h45 (by
      rw [ByteArray.toList_eq] at h
      rw [← toB_of s, h]; rfl))
    have HRL := Lib.hid (show rlO s = if decide ((splS 44 s).length ≤ 64) && (splS 44 s).all okR then some ((splS 44 s).map nv) else none by unfold rlO; rw [if_neg h45])
    have HSZ := Lib.hid (spl_size 44 s)
    have hne := splS_ne 44 s
    clear h45
    go_enter Tryz.func31, Tryz.ntmps31
    go_wp2_with fail
    refine (l01Split_any s 44 _ hs).mono ?_; rintro e w1 ⟨v, rfl, ho, b1⟩
    obtain ⟨A1, c1, ev, _, hst⟩ := ho.reads
    subst ev
    generalize splS 44 s = ps at hst HRL HSZ hne
    obtain ⟨n, hn⟩ : ∃ n, n = ps.length := ⟨_, rfl⟩
    rw [← hn] at HRL ⊢
    have HN := Lib.hid hn
    have HST := Lib.hid hst
    have HB1 := Lib.hid b1
    have HZ := Lib.hid b1.size
    clear ho hst b1 hn
    by_cases h64 : n ≤ 64
    · have h64i : ¬ (64 : Int) < n := by omega
      go_wp2_with fail
      go_loopw [5, 6] (fun v t wr => ∃ k : Nat, k ≤ n ∧ t = .int .i64 (k : Int) ∧ OwnI wr w1.heap.size v ((ps.take k).map nv) ∧ (ps.take k).all okR = true ∧ Below w1.heap.size w1 wr) (fun _ t _ => n - (intOf t).toNat)
      case atStart => exact ⟨0, Nat.zero_le _, rfl, OwnI.lit _ _ (Nat.le_refl _), rfl, (Below.refl _ _).alloc (Nat.le_refl _) _⟩
      case round =>
        obtain ⟨k, hk, rfl, ho, ha, hb⟩ := hrel
        have HO := Lib.hid ho
        have HA := Lib.hid ha
        have HB := Lib.hid hb
        clear ho ha hb
        have hlen : ((ps.take k).map nv).length ≤ 64 := by rw [List.length_map, List.length_take]; omega
        by_cases hlt : k < n
        · have hki : (k : Int) < n := by omega
          have hk0 : (0 : Int) ≤ k := by omega
          have hkl : k < ps.length := by have := HN.out; omega
          obtain ⟨b, off, rfl, _, hc⟩ := (HST.out.next HB.out).at_ hkl
          rw [atS_is ps k hkl] at hc
          have hps := HSZ.out ps[k] (List.getElem_mem hkl)
          have HT := Lib.hid (map_take ps k hkl)
          have HAT := Lib.hid (all_take_at ps okR k hkl)
          have HNO := Lib.hid (all_no ps okR k hkl)
          generalize ps[k] = p at hc hps HT HAT HNO
          have hpm : p.size ≤ maxLen := by unfold maxLen; omega
          have hvb := nv_bd p
          cases hq : okN p with
          | false =>
            have HQ := Lib.hid hq
            have HE := Lib.hid (show rlO s = none by rw [HRL.out, HNO.out (by unfold okR; rw [hq]; rfl), Bool.and_false, if_neg (by simp)])
            clear hq
            go_wp2_with (go_at_call 18; refine (l01Number_any p _ hpm).mono ?_; rw [resV_is, HQ.out]; rintro e w2 ⟨rfl, b2⟩; have HB2 := Lib.hid (stepB HB.out b2); clear b2)
            go_ret2
            exact rl_none HE.out (stepB HB1.out HB2.out)
          | true =>
            have HQ := Lib.hid hq
            clear hq
            cases hr : inB (nv p) (-1000000000000) 1000000000000 with
            | false =>
              have HE := Lib.hid (show rlO s = none by rw [HRL.out, HNO.out (by unfold okR; rw [HQ.out, hr]; rfl), Bool.and_false, if_neg (by simp)])
              have HR := Lib.hid hr
              clear hr
              go_wp2_with (first | (go_at_call 18; refine (l01Number_any p _ hpm).mono ?_; rw [resV_is, HQ.out]; rintro e w2 ⟨rfl, b2⟩; have HB2 := Lib.hid (stepB HB.out b2); clear b2) | (go_at_call 33; refine (l00In_is _ _ _ _ _ HR.out).mono ?_; rintro e w' ⟨rfl, rfl⟩))
              go_ret2
              exact rl_none HE.out (stepB HB1.out HB2.out)
            | true =>
              have HR := Lib.hid hr
              have HAK := Lib.hid (show (ps.take (k + 1)).all okR = true by rw [HAT.out, HA.out]; unfold okR; rw [HQ.out, hr]; rfl)
              clear hr
              go_wp2_with (first | (go_at_call 18; refine (l01Number_any p _ hpm).mono ?_; rw [resV_is, HQ.out]; rintro e w2 ⟨rfl, b2⟩; have HB2 := Lib.hid (stepB HB.out b2); have HO2 := Lib.hid (HO.out.below b2); clear b2) | (go_at_call 33; refine (l00In_is _ _ _ _ _ HR.out).mono ?_; rintro e w' ⟨rfl, rfl⟩) | (at_builtin; refine push_law rfl (.tmp 39) (.tmp 41) rfl _ w1.heap.size _ ((ps.take k).map nv) _ rfl HO2.out rfl (by omega) HB2.out.size ?_; intro v' w4 ho4 hg4 hl4; have HO4 := Lib.hid ho4; have HB4 := Lib.hid (below_grown (HB2.out.alloc HB2.out.size _) hg4 (fun g e => (HO2.out.lt e).1) (by have := HB2.out.size; simp; omega)); clear ho4 hg4 hl4))
              go_roundw
              case rel => exact ⟨k + 1, by omega, by go_num, by rw [HT.out]; exact HO4.out, HAK.out, HB4.out⟩
              case measure => simp [intOf]; omega
        · obtain rfl : k = n := by omega
          have hki : ¬ (k : Int) < k := by omega
          have HE := Lib.hid (show rlO s = some (ps.map nv) by
            have := HA.out
            rw [List.take_of_length_le (by have := HN.out; omega)] at this
            rw [HRL.out, this, decide_eq_true h64, Bool.and_true, if_pos rfl])
          have HO3 := Lib.hid (show OwnI wr w1.heap.size u5 (ps.map nv) by
            have := HO.out
            rwa [List.take_of_length_le (by have := HN.out; omega)] at this)
          go_wp2_with fail
          go_ret2
          exact rl_ret (by rw [HE.out]; exact ⟨rfl, rfl⟩) (HO3.out.mono HZ.out) (stepB HB1.out HB.out)
    · have h64i : (64 : Int) < n := by omega
      have HE := Lib.hid (show rlO s = none by rw [HRL.out, decide_eq_false h64, Bool.false_and, if_neg (by simp)])
      go_wp2_with fail
      go_ret2
      exact rl_none HE.out HB1.out

theorem splitK_size (b : UInt8) (k : Nat) (l q : List UInt8) (h : q ∈ Lib.splitK [b] 0 k l) : q.length ≤ l.length := by
  induction k generalizing l with
  | zero => have := List.mem_singleton.1 h; rw [this]; exact Nat.le_refl _
  | succ k ih =>
    by_cases hm : b ∈ l
    · obtain ⟨x, r, rfl, hx⟩ := cut_at b l hm
      rw [splitK_cut b k x r hx] at h
      rcases List.mem_cons.1 h with rfl | h
      · simp
      · have := ih r h
        simp; omega
    · rw [splitK_no b _ l hm] at h
      have := List.mem_singleton.1 h; rw [this]; exact Nat.le_refl _
theorem cutN_size (s p : ByteArray) (h : p ∈ cutN s) : p.size ≤ s.size := by
  unfold cutN at h
  rw [splitB_is] at h
  obtain ⟨q, hq, rfl⟩ := List.mem_map.1 h
  have := splitK_size _ _ _ _ hq
  rw [len_is] at this
  exact this
theorem cells_strs (w : World) (ps : List ByteArray) (N : Nat) (t : TypeId) : Strs (w.alloc (.cells (Lib.cellsOf ps N) t)) (some ⟨w.heap.size, 0, none⟩) ps := by
  refine .inr ⟨w.heap.size, 0, rfl, by simp, fun k hk => ?_⟩
  rw [World.cell?_alloc_at _ _ _ _ rfl, Nat.zero_add]
  unfold Lib.cellsOf
  rw [List.getElem?_toArray, List.getElem?_append_left (by simpa using hk), List.getElem?_map, List.getElem?_eq_getElem hk, atS_is ps k hk]
  rfl
theorem cutN_any (s : ByteArray) (w : World) (hs : s.size ≤ 1048576) (mx : MaxI w) :
    Calls Tryz.prog 10 #[.string s, .string ⟨#[44]⟩, .int .i64 65] w fun e w' => ∃ c, e = .returned (.slice (some ⟨w.heap.size, 0, none⟩) (cutN s).length c) ∧ Strs w' (some ⟨w.heap.size, 0, none⟩) (cutN s) ∧ Below w.heap.size w w' := by
  obtain ⟨m, hm⟩ := mx
  refine (Tryz.strings_SplitN s ⟨#[44]⟩ 65 m w (by omega) hm (by decide) (by omega) (by omega)).mono ?_
  rintro e w' ⟨rfl, rfl⟩
  exact ⟨_, rfl, cells_strs w _ _ _, (Below.refl _ _).alloc (Nat.le_refl _) _⟩

set_option maxHeartbeats 2000000 in
theorem rlP_any (s : ByteArray) (w : World) (hs : s.size ≤ 1048576) (he : Env7 w) : Calls Tryz.prog 43 #[.string s] w (RlPost (rlO s) w) := by
  by_cases h45 : s = ⟨#[45]⟩
  · subst h45
    go_enter Tryz.func43, Tryz.ntmps43
    go_wp2_with fail
    go_ret2
    exact rl_ret (show _ ∧ _ from ⟨rfl, rfl⟩) (OwnI.nil _ _) (Below.refl _ _)
  · have hcmp : (s.toList == [45]) = false := beq_eq_false_iff_ne.2 (fun h => h45 (by
      rw [ByteArray.toList_eq] at h
      rw [← toB_of s, h]; rfl))
    have HE := Lib.hid he
    have HNO := Lib.hid (cut_some_no s h45)
    have HYES := Lib.hid (cut_all s h45)
    have HSZ := Lib.hid (cutN_size s)
    have hlen := cutN_len s
    clear h45 he
    go_enter Tryz.func43, Tryz.ntmps43
    go_wp2_with fail
    refine (cutN_any s _ hs HE.out.mx).mono ?_; rintro e w1 ⟨c1, rfl, hst, b1⟩
    generalize cutN s = ps at hst HNO HYES HSZ hlen
    obtain ⟨n, hn⟩ : ∃ n, n = ps.length := ⟨_, rfl⟩
    rw [← hn] at hlen ⊢
    have HN := Lib.hid hn
    have HST := Lib.hid hst
    have HB1 := Lib.hid b1
    have HZ := Lib.hid b1.size
    have HE1 := Lib.hid (HE.out.step b1)
    clear hst b1 hn
    go_wp2_with fail
    go_loopw [4, 14] (fun v t wr => ∃ k : Nat, k ≤ n ∧ t = .int .i64 (k : Int) ∧ OwnI wr w1.heap.size v ((ps.take k).map nv) ∧ (ps.take k).all okN = true ∧ Below w1.heap.size w1 wr) (fun _ t _ => n - (intOf t).toNat)
    case atStart => exact ⟨0, Nat.zero_le _, rfl, OwnI.nil _ _, rfl, Below.refl _ _⟩
    case round =>
      obtain ⟨k, hk, rfl, ho, ha, hb⟩ := hrel
      have HO := Lib.hid ho
      have HA := Lib.hid ha
      have HB := Lib.hid hb
      have HEW := Lib.hid (HE1.out.step hb)
      clear ho ha hb
      have hlen2 : ((ps.take k).map nv).length ≤ 65 := by rw [List.length_map, List.length_take]; omega
      by_cases hlt : k < n
      · have hki : (k : Int) < n := by omega
        have hk0 : (0 : Int) ≤ k := by omega
        have hkl : k < ps.length := by have := HN.out; omega
        obtain ⟨b, off, eA, _, hc⟩ := (HST.out.next HB.out).at_ hkl
        injection eA with eA; injection eA with e1 e2
        subst e1 e2
        rw [atS_is ps k hkl, Nat.zero_add] at hc
        have hps := HSZ.out ps[k] (List.getElem_mem hkl)
        have HT := Lib.hid (map_take ps k hkl)
        have HAT := Lib.hid (all_take_at ps okN k hkl)
        have HNK := Lib.hid (all_no ps okN k hkl)
        generalize ps[k] = p at hc hps HT HAT HNK
        have hp20 : p.size ≤ 1048576 := by omega
        have hvb := nv_bd p
        cases hq : okN p with
        | false =>
          have HQ := Lib.hid hq
          have HR := Lib.hid (HNO.out (HNK.out hq))
          clear hq
          go_wp2_with (go_at_call 11; refine (rdP_any p _ hp20 HEW.out.env).mono ?_; rw [resV_is, HQ.out]; rintro e w2 ⟨rfl, b2⟩; have HB2 := Lib.hid (stepB HB.out b2); clear b2)
          go_ret2
          exact rl_none HR.out (stepB HB1.out HB2.out)
        | true =>
          have HQ := Lib.hid hq
          have HAK := Lib.hid (show (ps.take (k + 1)).all okN = true by rw [HAT.out, HA.out, hq]; rfl)
          clear hq
          go_wp2_with (first | (go_at_call 11; refine (rdP_any p _ hp20 HEW.out.env).mono ?_; rw [resV_is, HQ.out]; rintro e w2 ⟨rfl, b2⟩; have HB2 := Lib.hid (stepB HB.out b2); have HO2 := Lib.hid (HO.out.below b2); clear b2) | (at_builtin; refine push_law rfl (.tmp 25) (.tmp 27) rfl _ w1.heap.size _ ((ps.take k).map nv) _ rfl HO2.out rfl (by omega) HB2.out.size ?_; intro v' w4 ho4 hg4 hl4; have HO4 := Lib.hid ho4; have HB4 := Lib.hid (below_grown (HB2.out.alloc HB2.out.size _) hg4 (fun g e => (HO2.out.lt e).1) (by have := HB2.out.size; simp; omega)); clear ho4 hg4 hl4))
          go_roundw
          case rel => exact ⟨k + 1, by omega, by go_num, by rw [HT.out]; exact HO4.out, HAK.out, HB4.out⟩
          case measure => simp [intOf]; omega
      · obtain rfl : k = n := by omega
        have hki : ¬ (k : Int) < k := by omega
        have ht : ps.take k = ps := List.take_of_length_le (by have := HN.out; omega)
        rw [ht] at HO HA
        have HY := Lib.hid (HYES.out HA.out)
        obtain ⟨A4, c4, ev, hi4⟩ := HO.out.reads
        have hll : (ps.map nv).length = k := by rw [List.length_map]; exact HN.out.symm
        rw [hll] at ev
        subst ev
        have HI4 := Lib.hid hi4
        have HIB := Lib.hid (map_ib ps)
        have HLL := Lib.hid hll
        clear hi4 ht hll
        generalize ps.map nv = ls at HO HY HI4 HIB HLL
        by_cases heq : listText ls = s
        · have hne : ((listText ls).toList == s.toList) = true := by rw [heq]; exact beq_self_eq_true _
          have HR := Lib.hid (HY.out.1 heq)
          clear heq
          go_wp2_with (go_at_call 61; refine (ltP_any A4 c4 ls k _ HLL.out (by omega) HIB.out HI4.out HEW.out.env.pow).mono ?_; rintro e w5 ⟨rfl, b5⟩; have HB5 := Lib.hid (stepB HB.out b5); have HO5 := Lib.hid (HO.out.below b5); clear b5)
          go_ret2
          exact rl_ret (by rw [HR.out]; exact ⟨rfl, rfl⟩) (HO5.out.mono HZ.out) (stepB HB1.out HB5.out)
        · have hne : ((listText ls).toList == s.toList) = false := beq_eq_false_iff_ne.2 (fun h => heq (by
            rw [ByteArray.toList_eq, ByteArray.toList_eq] at h
            rw [← toB_of (listText ls), ← toB_of s, h]))
          have HR := Lib.hid (HY.out.2 heq)
          clear heq
          go_wp2_with (go_at_call 61; refine (ltP_any A4 c4 ls k _ HLL.out (by omega) HIB.out HI4.out HEW.out.env.pow).mono ?_; rintro e w5 ⟨rfl, b5⟩; have HB5 := Lib.hid (stepB HB.out b5); clear b5)
          go_ret2
          exact rl_none HR.out (stepB HB1.out HB5.out)

theorem rlO_len (s : ByteArray) : ((rlO s).getD []).length ≤ 64 := by
  unfold rlO
  split
  · simp
  · split
    · rename_i h
      simp only [Bool.and_eq_true, decide_eq_true_eq] at h
      show ((splS 44 s).map nv).length ≤ 64
      rw [List.length_map]; exact h.1
    · simp
end Go.Proofs.YtcfcmpblemagiaaGreatDoor
