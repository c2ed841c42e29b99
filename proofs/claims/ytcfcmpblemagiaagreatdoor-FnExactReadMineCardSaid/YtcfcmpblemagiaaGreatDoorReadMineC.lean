/-
  ReadMine: both sides' contracts.
-/
import Derived.Test.YtcfcmpblemagiaaGreatDoorReadMineT
import Derived.Test.YtcfcmpblemagiaaGreatDoorReadAirway
import Derived.Test.YtcfcmpblemagiaaGreatDoorMarkWay

import Derived.Test.YtcfcmpblemagiaaGreatDoorNum
import Derived.RowKit3
import Derived.ProofKit
import Derived.OpenShut
import Derived.Lib.SmallJoins
namespace Go.Proofs.YtcfcmpblemagiaaGreatDoor
open Go.RowKit
set_option linter.unusedVariables false

def RmPost (o : Option (Int × List AW)) (w : World) (e : Ending) (w' : World) : Prop :=
  ∃ v, e = .returned (.tuple #[.agg #[.int .i64 (o.getD (0, [])).1, v], .bool o.isSome]) ∧ OwnA w' w.heap.size v (o.getD (0, [])).2 ∧ Below w.heap.size w w'
theorem rm_ret {o : Option (Int × List AW)} {j : Int} {xs : List AW} {b : Bool} {v : Value} {w w' : World} (h : o.getD (0, []) = (j, xs) ∧ o.isSome = b) (ho : OwnA w' w.heap.size v xs) (hb : Below w.heap.size w w') :
    RmPost o w (.returned (.tuple #[.agg #[.int .i64 j, v], .bool b])) w' :=
  ⟨v, by rw [h.1, h.2], by rw [h.1]; exact ho, hb⟩
theorem rm_zero {o : Option (Int × List AW)} {w w' : World} (h : o = none) (hb : Below w.heap.size w w') : RmPost o w (.returned (.tuple #[.agg #[.int .i64 0, .slice none 0 0], .bool false])) w' :=
  rm_ret (by rw [h]; exact ⟨rfl, rfl⟩) (OwnA.nil _ _) hb
/-- the cell of a mine that is being built: its number, its row of airways -/
structure MSt (w2 wr : World) (j : Int) (v : Value) (xs : List AW) : Prop where
  bel : Below w2.heap.size w2 wr
  c0 : wr.cell? ⟨w2.heap.size, 0, none⟩ = some (.int .i64 j)
  c1 : wr.cell? ⟨w2.heap.size, 1, none⟩ = some v
  fz : ∀ o, wr.frozen? ⟨w2.heap.size, o, none⟩ = false
  own : OwnA wr (w2.heap.size + 1) v xs
  sz : w2.heap.size + 1 ≤ wr.heap.size
theorem mst_new (w2 : World) (j : Int) (t : TypeId) : MSt w2 (w2.alloc (.cells #[.int .i64 j, .slice none 0 0] t)) j (.slice none 0 0) [] :=
  ⟨(Below.refl _ _).alloc (Nat.le_refl _) _, by simp [go_sem], by simp [go_sem], fun o => by simp [go_sem], OwnA.nil _ _, by simp⟩
theorem MSt.next {w2 wr w1 : World} {j : Int} {v : Value} {xs : List AW} (h : MSt w2 wr j v xs) (hb : Below wr.heap.size wr w1) : MSt w2 w1 j v xs :=
  have hl : w2.heap.size < wr.heap.size := h.sz
  ⟨stepB h.bel hb, (hb.cell hl).trans h.c0, (hb.cell hl).trans h.c1, fun o => (hb.frozen (p := ⟨w2.heap.size, o, none⟩) hl).trans (h.fz o), h.own.below hb, Nat.le_trans h.sz hb.size⟩
theorem MSt.push {w2 wr w4 : World} {j : Int} {v v' : Value} {xs xs' : List AW} (h : MSt w2 wr j v xs) (hg : wr.grownBy w4 v.ownBlock) (ho : OwnA w4 (w2.heap.size + 1) v' xs') :
    w4.cell? ⟨w2.heap.size, 1, none⟩ = some v ∧ (∀ o, w4.frozen? ⟨w2.heap.size, o, none⟩ = false) ∧ MSt w2 (w4.setCell ⟨w2.heap.size, 1, none⟩ v') j v' xs' := by
  have hl : w2.heap.size < wr.heap.size := h.sz
  have hne : ∀ k, k < w2.heap.size + 1 → v.ownBlock ≠ some k := fun k hk e => by have := (h.own.lt e).1; omega
  have hbl : ∀ k, k < w2.heap.size + 1 → w4.heap[k]? = wr.heap[k]? := fun k hk => hg.block k (by omega) (fun e => hne k hk e.symm)
  have hc : ∀ o, w4.cell? ⟨w2.heap.size, o, none⟩ = wr.cell? ⟨w2.heap.size, o, none⟩ := fun o => by
    unfold World.cell?; rw [hbl w2.heap.size (by omega)]
  have hf : ∀ o, w4.frozen? ⟨w2.heap.size, o, none⟩ = false := fun o => by
    have := h.fz o
    unfold World.frozen? at this ⊢; rw [hbl w2.heap.size (by omega)]; exact this
  have e1 := (hc 1).trans h.c1
  have e0 := (hc 0).trans h.c0
  refine ⟨e1, hf, ?_⟩
  have hB4 : Below w2.heap.size w2 w4 := ⟨hg.os.trans h.bel.os, hg.tape.trans h.bel.tape, hg.output.trans h.bel.output, Nat.le_trans h.bel.size hg.size, fun k hk => (hbl k (by omega)).trans (h.bel.block k hk)⟩
  refine ⟨hB4.setCell (Nat.le_refl _) _, ?_, World.cell?_setCell_same _ _ _ e1, fun o => ?_, ho.set (by omega), by simpa using Nat.le_trans h.sz hg.size⟩
  · rw [World.cell?_setCell_other]
    · exact e0
    · simp
  · rw [World.frozen?_setCell]; exact hf o
/-- the result cell of a mine -/
structure ResM (w : World) (g : Nat) : Prop where
  r0 : ∃ x, w.cell? ⟨g, 0, none⟩ = some x
  r1 : ∃ x, w.cell? ⟨g, 1, none⟩ = some x
  fz : ∀ o, w.frozen? ⟨g, o, none⟩ = false
theorem ResM.next {w w' : World} {g : Nat} (h : ResM w g) (hb : Below w.heap.size w w') : ResM w' g := by
  obtain ⟨⟨x0, h0⟩, ⟨x1, h1⟩, hf⟩ := h
  have hg : g < w.heap.size := World.block_lt_of_cell? w _ h0
  exact ⟨⟨x0, (hb.cell hg).trans h0⟩, ⟨x1, (hb.cell hg).trans h1⟩, fun o => (hb.frozen (p := ⟨g, o, none⟩) hg).trans (hf o)⟩
theorem resM_new (w : World) (t : TypeId) : ResM (w.alloc (.cells #[.int .i64 0, .slice none 0 0] t)) w.heap.size :=
  ⟨⟨.int .i64 0, by simp [go_sem]⟩, ⟨.slice none 0 0, by simp [go_sem]⟩, fun o => by simp [go_sem]⟩
theorem mcells2 {w : World} {b : Nat} {v0 v1 x0 x1 : Value} (h0 : w.cell? ⟨b, 0, none⟩ = some x0) (h1 : w.cell? ⟨b, 1, none⟩ = some x1) :
    (w.setCell ⟨b, 0, none⟩ v0).cell? ⟨b, 0, none⟩ = some v0 ∧ ((w.setCell ⟨b, 0, none⟩ v0).setCell ⟨b, 1, none⟩ v1).cell? ⟨b, 1, none⟩ = some v1 := by
  obtain ⟨y1, e1⟩ := cell?_setCell_some (p := ⟨b, 0, none⟩) (x := v0) h1
  exact ⟨World.cell?_setCell_same _ _ _ h0, World.cell?_setCell_same _ _ _ e1⟩
theorem set2_below {B : Nat} {w w' : World} {g : Nat} {v0 v1 : Value} (h : Below B w w') (hg : B ≤ g) : Below B w ((w'.setCell ⟨g, 0, none⟩ v0).setCell ⟨g, 1, none⟩ v1) := (h.setCell hg _).setCell hg _
def fx (ps : List ByteArray) (k : Nat) : List ByteArray := (ps.take k).drop 1
theorem fx_succ (ps : List ByteArray) (k : Nat) (h1 : 1 ≤ k) (h : k < ps.length) : fx ps (k + 1) = fx ps k ++ [ps[k]] := by
  unfold fx
  rw [List.take_succ_eq_append_getElem h, List.drop_append_of_le_length (by rw [List.length_take]; omega)]
theorem fx_all (p : ByteArray) (qs : List ByteArray) : fx (p :: qs) (qs.length + 1) = qs := by
  unfold fx; rw [List.take_of_length_le (by simp)]; rfl
theorem fx_len (ps : List ByteArray) (k : Nat) : (fx ps k).length ≤ ps.length := by unfold fx; simp; omega
theorem fx_bad (p : ByteArray) (qs : List ByteArray) (k : Nat) (h : (fx (p :: qs) k).all okW = false) : qs.all okW = false := by
  cases hq : qs.all okW with
  | false => rfl
  | true =>
    have : (fx (p :: qs) k).all okW = true := by
      rw [List.all_eq_true] at hq ⊢
      intro q hm
      unfold fx at hm
      refine hq q ?_
      cases k with
      | zero => simp at hm
      | succ k => exact List.mem_of_mem_take (show q ∈ qs.take k from by simpa using hm)
    rw [h] at this; cases this
theorem way_size (q : ByteArray) : (wayD q).a.size ≤ q.size := by
  unfold wayD
  cases hr : rwO q with
  | none => exact Nat.zero_le _
  | some y => exact (rwO_text hr).2.2

set_option maxHeartbeats 2000000 in
theorem rmS_any (s : ByteArray) (w : World) (hs : s.size ≤ 1048576) : Calls Tryz.prog 9 #[.string s] w (RmPost (rmO s) w) := by
  have b0 : Below w.heap.size w (w.alloc (.cells #[.int .i64 0, .slice none 0 0] 24)) := (Below.refl _ _).alloc (Nat.le_refl _) _
  have RS0 := Lib.hid (resM_new w 24)
  obtain ⟨p, qs, qc, hps, _, _, hpz, _, hqz, hql, _⟩ := cut_mine s
  have HPS := Lib.hid hps
  have HQZ := Lib.hid hqz
  have hp64 : p.size ≤ maxLen := by unfold maxLen; omega
  clear hqz
  go_enter Tryz.func9, Tryz.ntmps9
  go_wp2_with fail
  refine (l01Split_any s 47 _ hs).mono ?_; rw [hps]; rintro e w1 ⟨v, rfl, ho, b1⟩
  obtain ⟨A1, c1, ev, _, hst⟩ := ho.reads
  subst ev
  obtain ⟨b, off, rfl, hbl, hc0⟩ := hst.at_ (k := 0) (by simp)
  rw [atS_is _ 0 (by simp), Nat.add_zero] at hc0
  dsimp only [List.getElem_cons_zero] at hc0
  obtain ⟨n, hn⟩ : ∃ n, n = (p :: qs).length := ⟨_, rfl⟩
  rw [← hn]
  have HN := Lib.hid hn
  have hn1 : 1 ≤ n := by rw [hn]; simp
  have hn2 : n ≤ 1048577 := by rw [hn, List.length_cons]; omega
  have HST := Lib.hid hst
  have HB1 := Lib.hid (stepB b0 b1)
  have RS1 := Lib.hid (RS0.out.next b1)
  clear ho hst b0 b1 RS0 hps hn
  go_wp2_with fail
  refine (l01Number_any p _ hp64).mono ?_; rw [resV_is]; rintro e w2 ⟨rfl, b2⟩
  have HST2 := Lib.hid (HST.out.next b2)
  have HB2 := Lib.hid (stepB HB1.out b2)
  have RS2 := Lib.hid (RS1.out.next b2)
  have HM0 := Lib.hid (mst_new w2 (nv p) 24)
  obtain ⟨ok0, hok0⟩ : ∃ ok0, ok0 = okN p := ⟨_, rfl⟩
  rw [← hok0]
  have HOK0 := Lib.hid hok0
  generalize hj : nv p = j at HM0 ⊢
  have HJ := Lib.hid hj
  clear b2 hc0 HST HB1 RS1 hok0 hj
  go_wp2_with fail
  go_loopw [6, 8] (fun ok t wr => ∃ (k : Nat) (v : Value), 1 ≤ k ∧ k ≤ n ∧ t = .int .i64 (k : Int) ∧ ok = .bool (ok0 && (fx (p :: qs) k).all okW) ∧ MSt w2 wr j v ((fx (p :: qs) k).map wayD)) (fun _ t _ => n - (intOf t).toNat)
  case atStart => exact ⟨1, _, Nat.le_refl _, hn1, rfl, by simp [fx], HM0.out⟩
  case round =>
    obtain ⟨k, v, hk1, hk, rfl, rfl, hm⟩ := hrel
    obtain ⟨A3, c3, ev3, hair⟩ := hm.own.reads
    have HAI := Lib.hid hair
    clear hair
    obtain ⟨m3, hm3⟩ : ∃ m3, m3 = ((fx (p :: qs) k).map wayD).length := ⟨_, rfl⟩
    rw [← hm3] at ev3
    subst ev3
    have HM := Lib.hid hm
    have HL3 := Lib.hid hm3
    clear hm hm3
    by_cases hlt : k < n
    · cases hok : (ok0 && (fx (p :: qs) k).all okW) with
      | false =>
        have HRR := Lib.hid (show rmO s = none from rm_bad HPS.out (by
          cases h0 : ok0 with
          | false => exact .inl (by rw [← HOK0.out, h0])
          | true => rw [h0, Bool.true_and] at hok; exact .inr (.inl (fx_bad p qs k hok))))
        have hki : (k : Int) < n := by omega
        clear hok
        obtain ⟨⟨x0, r0⟩, ⟨x1, r1⟩, hfz⟩ := RS2.out.next HM.out.bel
        have HB := Lib.hid (stepB HB2.out HM.out.bel)
        go_wp2_with fail
        obtain ⟨g0, g1⟩ := mcells2 r0 r1 (v0 := .int .i64 0) (v1 := .slice none 0 0)
        simp [bodyPost, results, Tryz.results9, go_sem, g0, g1]
        exact rm_zero HRR.out (set2_below HB.out (Nat.le_refl _))
      | true =>
        have hki : (k : Int) < n := by omega
        have hk0 : (0 : Int) ≤ k := by omega
        have hkl : k < (p :: qs).length := by have := HN.out; omega
        obtain ⟨b', off', eA, _, hc⟩ := (HST2.out.next HM.out.bel).at_ hkl
        injection eA with eA; injection eA with e1 e2
        subst e1 e2
        rw [atS_is _ k hkl] at hc
        have HF := Lib.hid (fx_succ (p :: qs) k hk1 hkl)
        have hqm : (p :: qs)[k] ∈ qs := by
          cases k with
          | zero => omega
          | succ k => simp
        have hqs := HQZ.out _ hqm
        have hwz := way_size (p :: qs)[k]
        generalize (p :: qs)[k] = q at hc HF hqs hwz
        clear hqm
        have hq20 : q.size ≤ 1048576 := by omega
        have HOK := Lib.hid hok
        clear hok
        go_wp2_with fail
        refine (rwS_any q _ hq20).mono ?_
        rintro e w3 ⟨rfl, b3⟩
        rw [show wV (rwO q) = (wayD q).val from rfl, show (rwO q).isSome = okW q from rfl]
        have HM3 := Lib.hid (HM.out.next b3)
        obtain ⟨y, hy⟩ : ∃ y, y = wayD q := ⟨_, rfl⟩
        rw [← hy]
        have HY := Lib.hid hy
        unfold AW.val
        obtain ⟨okq, hokq⟩ : ∃ okq, okq = okW q := ⟨_, rfl⟩
        rw [← hokq]
        have HOQ := Lib.hid hokq
        have d1 := HM3.out.c1
        have hM3 : w2.heap.size < w3.heap.size := HM3.out.sz
        have hM3n : w2.heap.size ≠ w3.heap.size := by omega
        have hlen3 : ((fx (p :: qs) k).map wayD).length ≤ 1048577 := by rw [List.length_map]; have := fx_len (p :: qs) k; have := HN.out; omega
        clear b3 hc hy hokq
        go_wp2_with (at_builtin; go_must (refine push_air rfl (.tmp 41) (.tmp 43) rfl _ (w2.heap.size + 1) _ ((fx (p :: qs) k).map wayD) _ rfl (HM3.out.own.alloc _) _ rfl (by simp) (by omega) (by simp; omega) ?_; intro v' w4 ho4 hg4 hl4; obtain ⟨A5, c5, ev5, _⟩ := ho4.reads; subst ev5; have HP4 := Lib.hid ((MSt.next HM3.out (((Below.refl _ _).alloc (Nat.le_refl _) _).alloc (by simp) _)).push hg4 ho4); obtain ⟨e4, f4, _⟩ := HP4.out; clear ho4 hg4 hl4))
        have HM5 := Lib.hid (show MSt w2 (w4.setCell ⟨w2.heap.size, 1, none⟩ (.slice A5 ((fx (p :: qs) k).length + 1) c5)) j (.slice A5 ((fx (p :: qs) k).length + 1) c5) ((fx (p :: qs) k).map wayD ++ [y]) by
          have h := HP4.out.2.2
          rw [List.length_append, List.length_map] at h
          exact h)
        go_roundw
        case rel => exact ⟨k + 1, _, by omega, by omega, by go_num, by rw [HF.out, List.all_append]; simp only [List.all_cons, List.all_nil, Bool.and_true]; rw [← HOQ.out, ← Bool.and_assoc, HOK.out, Bool.true_and], by rw [HF.out, List.map_append, List.map_cons, List.map_nil, ← HY.out]; exact HM5.out⟩
        case measure => simp [intOf]; omega
    · obtain rfl : k = n := by omega
      have hki : ¬ (k : Int) < k := by omega
      have hfa : fx (p :: qs) k = qs := by rw [HN.out, List.length_cons]; exact fx_all p qs
      rw [hfa] at HM HL3 HAI ⊢
      clear hfa
      cases hok : (ok0 && qs.all okW) with
      | false =>
        have HRR := Lib.hid (show rmO s = none from rm_bad HPS.out (by
          cases h0 : ok0 with
          | false => exact .inl (by rw [← HOK0.out, h0])
          | true => rw [h0, Bool.true_and] at hok; exact .inr (.inl hok)))
        clear hok
        obtain ⟨⟨x0, r0⟩, ⟨x1, r1⟩, hfz⟩ := RS2.out.next HM.out.bel
        have HB := Lib.hid (stepB HB2.out HM.out.bel)
        go_wp2_with fail
        obtain ⟨g0, g1⟩ := mcells2 r0 r1 (v0 := .int .i64 0) (v1 := .slice none 0 0)
        simp [bodyPost, results, Tryz.results9, go_sem, g0, g1]
        exact rm_zero HRR.out (set2_below HB.out (Nat.le_refl _))
      | true =>
        have hoo : okN p = true ∧ qs.all okW = true := by rw [← HOK0.out]; simpa using hok
        have HIS := Lib.hid (show rmO s = if mineB j (qs.map wayD) then some (j, qs.map wayD) else none by
          rw [rm_is HPS.out, hoo.1, hoo.2, HJ.out]; simp)
        have HB := Lib.hid (stepB HB2.out HM.out.bel)
        have RSr := Lib.hid (RS2.out.next HM.out.bel)
        have hsz : ∀ i, i < m3 → (atA (qs.map wayD) i).a.size ≤ maxLen := fun i hi => by
          have hl := HL3.out
          rw [List.length_map] at hl
          rw [atA_is _ _ (by rw [List.length_map]; omega), List.getElem_map]
          have h1 := way_size (qs[i]'(by omega))
          have h2 := HQZ.out _ (List.getElem_mem (show i < qs.length by omega))
          unfold maxLen; omega
        have hm20 : m3 ≤ 1048576 := by rw [HL3.out, List.length_map]; omega
        clear hok hoo
        go_wp2_with fail
        refine (l04Ok_any w2.heap.size j A3 c3 (qs.map wayD) m3 _ HL3.out.symm hm20 hsz HAI.out HM.out.c0 HM.out.c1).mono ?_
        cases hmb : mineB j (qs.map wayD) with
        | false =>
          rintro e w3 ⟨rfl, q, rfl⟩
          have b3 : Below wr.heap.size wr (wr.drewN q) := below_drewN (Below.refl _ _) q
          have HRR := Lib.hid (show rmO s = none by rw [HIS.out, hmb]; rfl)
          obtain ⟨⟨x0, r0⟩, ⟨x1, r1⟩, hfz⟩ := RSr.out.next b3
          have HB3 := Lib.hid (stepB HB.out b3)
          clear b3 hmb
          generalize wr.drewN q = w3 at r0 r1 hfz HB3 ⊢
          go_wp2_with fail
          obtain ⟨g0, g1⟩ := mcells2 r0 r1 (v0 := .int .i64 0) (v1 := .slice none 0 0)
          simp [bodyPost, results, Tryz.results9, go_sem, g0, g1]
          exact rm_zero HRR.out (set2_below HB3.out (Nat.le_refl _))
        | true =>
          rintro e w3 ⟨rfl, q, rfl⟩
          have b3 : Below wr.heap.size wr (wr.drewN q) := below_drewN (Below.refl _ _) q
          have HRR := Lib.hid (show (rmO s).getD (0, []) = (j, qs.map wayD) ∧ (rmO s).isSome = true by rw [HIS.out, hmb]; exact ⟨rfl, rfl⟩)
          obtain ⟨⟨x0, r0⟩, ⟨x1, r1⟩, hfz⟩ := RSr.out.next b3
          have HB3 := Lib.hid (stepB HB.out b3)
          have HM3 := Lib.hid (HM.out.next b3)
          clear b3 hmb
          generalize wr.drewN q = w3 at r0 r1 hfz HB3 HM3 ⊢
          have c0 := HM3.out.c0
          have c1' := HM3.out.c1
          go_wp2_with fail
          obtain ⟨g0, g1⟩ := mcells2 r0 r1 (v0 := .int .i64 j) (v1 := .slice A3 m3 c3)
          simp [bodyPost, results, Tryz.results9, go_sem, g0, g1]
          have hlt2 : w.heap.size < w2.heap.size + 1 := by have := HB2.out.size; omega
          exact rm_ret HRR.out (((HM3.out.own.set hlt2).set hlt2).mono (by omega)) (set2_below HB3.out (Nat.le_refl _))
end Go.Proofs.YtcfcmpblemagiaaGreatDoor
