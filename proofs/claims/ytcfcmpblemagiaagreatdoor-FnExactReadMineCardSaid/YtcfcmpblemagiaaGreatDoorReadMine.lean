/-
  FnExactReadMine: for every text the program's ReadMine returns what the reference's returns; the airways stay the caller's own.
-/
import Derived.Test.YtcfcmpblemagiaaGreatDoorReadMineC
import Derived.Test.YtcfcmpblemagiaaGreatDoorNum
import Derived.RowKit3
import Derived.ProofKit
import Derived.OpenShut
import Derived.Lib.SmallJoins
namespace Go.Proofs.YtcfcmpblemagiaaGreatDoor
open Go.RowKit
set_option linter.unusedVariables false

set_option maxHeartbeats 1000000 in
theorem rmT_any (s : ByteArray) (w : World) (hs : s.size ≤ 1048576) : Calls Tryz.prog 4 #[.string s] w (RmPost (rmO s) w) := by
  have b0 : Below w.heap.size w (w.alloc (.cells #[.int .i64 0, .slice none 0 0] 24)) := (Below.refl _ _).alloc (Nat.le_refl _) _
  have RS0 := Lib.hid (resM_new w 24)
  go_enter Tryz.func4, Tryz.ntmps4
  go_wp2_with fail
  refine (rmS_any s _ hs).mono ?_
  rintro e w1 ⟨v, rfl, ho, b1⟩
  obtain ⟨A3, c3, ev3, _⟩ := ho.reads
  subst ev3
  have HB1 := Lib.hid (stepB b0 b1)
  have HO := Lib.hid ho
  have hlt2 : w.heap.size < (w.alloc (.cells #[.int .i64 0, .slice none 0 0] 24)).heap.size := by simp
  have HL := Lib.hid hlt2
  obtain ⟨⟨x0, r0⟩, ⟨x1, r1⟩, hfz⟩ := RS0.out.next b1
  obtain ⟨j, hj⟩ : ∃ j, j = ((rmO s).getD (0, [])).1 := ⟨_, rfl⟩
  obtain ⟨m, hm⟩ : ∃ m, m = ((rmO s).getD (0, [])).2.length := ⟨_, rfl⟩
  obtain ⟨B, hB⟩ : ∃ B, B = (rmO s).isSome := ⟨_, rfl⟩
  rw [← hj, ← hm, ← hB]
  have HJ := Lib.hid hj
  have HMM := Lib.hid hm
  have HBB := Lib.hid hB
  clear b0 b1 RS0 ho hj hm hB hlt2
  go_wp2_with fail
  obtain ⟨g0, g1⟩ := mcells2 r0 r1 (v0 := .int .i64 j) (v1 := .slice A3 m c3)
  simp [bodyPost, results, Tryz.results4, go_sem, g0, g1]
  have h := HO.out
  rw [← HMM.out] at h
  exact rm_ret (xs := ((rmO s).getD (0, [])).2) (by rw [HJ.out, HBB.out]; exact ⟨rfl, rfl⟩) (((h.set HL.out).set HL.out).mono (Nat.le_of_lt HL.out)) (set2_below HB1.out (Nat.le_refl _))

theorem splitK_len (b : UInt8) (k : Nat) (l : List UInt8) : (Lib.splitK [b] 0 k l).length ≤ k + 1 := by
  induction k generalizing l with
  | zero => simp [Lib.splitK]
  | succ k ih =>
    by_cases hm : b ∈ l
    · obtain ⟨x, r, rfl, hx⟩ := cut_at b l hm
      rw [splitK_cut b k x r hx, List.length_cons]; have := ih r; omega
    · rw [splitK_no b _ l hm]; simp
theorem cutM_any (s : ByteArray) (w : World) (hs : s.size ≤ 1048576) (mx : MaxI w) :
    Calls Tryz.prog 10 #[.string s, .string ⟨#[47]⟩, .int .i64 26] w fun e w' => ∃ c, e = .returned (.slice (some ⟨w.heap.size, 0, none⟩) (cutM s).length c) ∧ (cutM s).length ≤ c ∧ Strs w' (some ⟨w.heap.size, 0, none⟩) (cutM s) ∧ Below w.heap.size w w' := by
  obtain ⟨m, hm⟩ := mx
  refine (Tryz.strings_SplitN s ⟨#[47]⟩ 26 m w (by omega) hm (by decide) (by omega) (by omega)).mono ?_
  rintro e w' ⟨rfl, rfl⟩
  refine ⟨_, rfl, ?_, cells_strs w _ _ _, (Below.refl _ _).alloc (Nat.le_refl _) _⟩
  unfold cutM
  rw [splitB_is, List.length_map]
  have := splitK_len 47 (min 26 (s.size + 1) - 1) s.data.toList
  omega

theorem tail_strs {w : World} {b : Nat} {p : ByteArray} {qc : List ByteArray} (h : Strs w (some ⟨b, 0, none⟩) (p :: qc)) : Strs w (some ⟨b, 1, none⟩) qc := by
  rcases h with h | ⟨b', off, h1, h2, h3⟩
  · cases h
  · injection h1 with h1; injection h1 with e1 e2
    subst e1 e2
    refine .inr ⟨b, 1, rfl, h2, fun k hk => ?_⟩
    have := h3 (k + 1) (by simpa using hk)
    rw [show 0 + (k + 1) = 1 + k by omega] at this
    rw [this]
    congr 2
theorem take_succ_map (qs : List ByteArray) (k : Nat) (h : k < qs.length) : (qs.take (k + 1)).map wayD = (qs.take k).map wayD ++ [wayD qs[k]] := by
  rw [List.take_succ_eq_append_getElem h, List.map_append]; rfl
theorem take_succ_all (qs : List ByteArray) (k : Nat) (h : k < qs.length) : (qs.take (k + 1)).all okW = ((qs.take k).all okW && okW qs[k]) := all_take_at qs okW k h

set_option maxHeartbeats 2000000 in
theorem rmP_any (s : ByteArray) (w : World) (hs : s.size ≤ 1048576) (he : Env7 w) : Calls Tryz.prog 5 #[.string s] w (RmPost (rmO s) w) := by
  have b0 : Below w.heap.size w (w.alloc (.cells #[.int .i64 0, .slice none 0 0] 24)) := (Below.refl _ _).alloc (Nat.le_refl _) _
  have RS0 := Lib.hid (resM_new w 24)
  obtain ⟨p, qs, qc, hps, hcm, hq25, hpz, hqcz, _, _, hor⟩ := cut_mine s
  have HPS := Lib.hid hps
  have HQZ := Lib.hid hqcz
  have HOR := Lib.hid hor
  have HE := Lib.hid he
  have hp20 : p.size ≤ 1048576 := by omega
  have hec := he.step b0
  clear hqcz hor he
  go_enter Tryz.func5, Tryz.ntmps5
  go_wp2_with fail
  refine (cutM_any s _ hs hec.mx).mono ?_; rw [hcm]; rintro e w1 ⟨c1, rfl, hlc, hst, b1⟩
  obtain ⟨b, hb⟩ : ∃ b, b = (w.alloc (.cells #[.int .i64 0, .slice none 0 0] 24)).heap.size := ⟨_, rfl⟩
  rw [← hb] at hst ⊢
  obtain ⟨b', off', eA, _, hc0⟩ := hst.at_ (k := 0) (by simp)
  injection eA with eA; injection eA with e1 e2
  subst e1 e2
  rw [atS_is _ 0 (by simp)] at hc0
  dsimp only [List.getElem_cons_zero] at hc0
  obtain ⟨n, hn⟩ : ∃ n, n = qc.length := ⟨_, rfl⟩
  rw [List.length_cons, ← hn] at hlc ⊢
  rw [← hn] at hq25
  have HN := Lib.hid hn
  have HST := Lib.hid (tail_strs hst)
  have HS0 := Lib.hid (show n = 0 → Strs w1 (some ⟨b, 0, none⟩) qc from fun h0 => .inl (List.length_eq_zero_iff.1 (by omega)))
  have HB1 := Lib.hid (stepB b0 b1)
  have RS1 := Lib.hid (RS0.out.next b1)
  have HE1 := Lib.hid (HE.out.step HB1.out)
  clear hst b0 b1 RS0 hps hn hcm hec hb
  go_wp2_with fail
  refine (rdP_any p _ hp20 HE1.out.env).mono ?_; rw [resV_is]; rintro e w2 ⟨rfl, b2⟩
  have HST2 := Lib.hid (HST.out.next b2)
  have HB2 := Lib.hid (stepB HB1.out b2)
  have RS2 := Lib.hid (RS1.out.next b2)
  have HM0 := Lib.hid (mst_new w2 (nv p) 24)
  obtain ⟨ok0, hok0⟩ : ∃ ok0, ok0 = okN p := ⟨_, rfl⟩
  rw [← hok0]
  have HOK0 := Lib.hid hok0
  generalize hj : nv p = j at HM0 ⊢
  have HJ := Lib.hid hj
  have HS02 := Lib.hid (show n = 0 → Strs w2 (some ⟨b, 0, none⟩) qc from fun h0 => (HS0.out h0).next b2)
  have HE2 := Lib.hid (HE1.out.step b2)
  clear b2 hc0 HST HB1 RS1 HE1 hok0 hj HS0 HE
  go_wp2_with fail
  all_goals first
    | (obtain ⟨o, hO⟩ : ∃ o, (⟨b, 0, none⟩ : Addr) = ⟨b, o, none⟩ := ⟨0, rfl⟩
       have HT := Lib.hid (show Strs w2 (some ⟨b, o, none⟩) qc by rw [← hO]; exact HS02.out (by omega))
       rw [hO])
    | (obtain ⟨o, hO⟩ : ∃ o, (⟨b, 1, none⟩ : Addr) = ⟨b, o, none⟩ := ⟨1, rfl⟩
       have HT := Lib.hid (show Strs w2 (some ⟨b, o, none⟩) qc by rw [← hO]; exact HST2.out)
       rw [hO])
  all_goals
    clear hO HST2 HS02 hlc
    go_loopw [26] (fun t wr => ∃ (k : Nat) (v : Value), k ≤ n ∧ t = .int .i64 (k : Int) ∧ (qc.take k).all okW = true ∧ MSt w2 wr j v ((qc.take k).map wayD)) (fun t _ => n - (intOf t).toNat)
    case atStart => exact ⟨0, _, Nat.zero_le _, rfl, by simp, HM0.out⟩
    case round =>
      obtain ⟨k, v, hk, rfl, hok, hm⟩ := hrel
      obtain ⟨A3, c3, ev3, hair⟩ := hm.own.reads
      have HAI := Lib.hid hair
      clear hair
      obtain ⟨m3, hm3⟩ : ∃ m3, m3 = ((qc.take k).map wayD).length := ⟨_, rfl⟩
      rw [← hm3] at ev3
      subst ev3
      have HM := Lib.hid hm
      have HL3 := Lib.hid hm3
      have HOK := Lib.hid hok
      clear hm hm3 hok
      by_cases hlt : k < n
      · have hki : (k : Int) < n := by omega
        have hk0 : (0 : Int) ≤ k := by omega
        have hkl : k < qc.length := by have := HN.out; omega
        obtain ⟨b', off', eA, _, hc⟩ := (HT.out.next HM.out.bel).at_ hkl
        injection eA with eA; injection eA with e1 e2
        subst e1 e2
        rw [atS_is _ k hkl] at hc
        have HF := Lib.hid (take_succ_map qc k hkl)
        have HFA := Lib.hid (take_succ_all qc k hkl)
        have hqs := HQZ.out _ (List.getElem_mem hkl)
        have HBAD := Lib.hid (show okW qc[k] = false → rmO s = none from fun h => by
          have hbad : qc.all okW = false := by
            cases hq : qc.all okW with
            | false => rfl
            | true => rw [List.all_eq_true.1 hq _ (List.getElem_mem hkl)] at h; cases h
          rcases HOR.out with h1 | ⟨_, h1⟩
          · exact rm_bad HPS.out (.inr (.inl (by rw [← h1]; exact hbad)))
          · exact rm_many HPS.out h1)
        generalize qc[k] = q at hc HF HFA HBAD hqs
        have hq20 : q.size ≤ 1048576 := by omega
        have HEr := Lib.hid (HE2.out.step HM.out.bel)
        go_wp2_with fail
        refine (rwP_any q _ hq20 HEr.out).mono ?_
        rintro e w3 ⟨rfl, b3⟩
        rw [show wV (rwO q) = (wayD q).val from rfl, show (rwO q).isSome = okW q from rfl]
        have HM3 := Lib.hid (HM.out.next b3)
        obtain ⟨y, hy⟩ : ∃ y, y = wayD q := ⟨_, rfl⟩
        rw [← hy] at HF ⊢
        unfold AW.val
        clear b3 hc hy
        have d1 := HM3.out.c1
        have hM3 : w2.heap.size < w3.heap.size := HM3.out.sz
        have hM3n : w2.heap.size ≠ w3.heap.size := by omega
        have hlen3 : ((qc.take k).map wayD).length ≤ 1048577 := by rw [List.length_map, List.length_take]; omega
        cases hokq : okW q with
        | false =>
          have HRR := Lib.hid (HBAD.out hokq)
          have RS3 := RS2.out.next HM3.out.bel
          have HB := Lib.hid (stepB HB2.out HM3.out.bel)
          obtain ⟨⟨x0, r0⟩, ⟨x1, r1⟩, hfz⟩ := RS3
          have hz : w.heap.size < w3.heap.size := World.block_lt_of_cell? _ _ r0
          have hzn : w.heap.size ≠ w3.heap.size := by omega
          clear hokq
          go_wp2_with fail
          obtain ⟨g0, g1⟩ := mcells2 r0 r1 (v0 := .int .i64 0) (v1 := .slice none 0 0)
          have h0 := (World.cell?_setCell_other (w3.setCell ⟨w.heap.size, 0, none⟩ (.int .i64 0)) ⟨w.heap.size, 1, none⟩ ⟨w.heap.size, 0, none⟩ (.slice none 0 0) (by simp)).trans g0
          have G0 := (((Below.refl _ _).alloc (Nat.le_refl _) (.cells #[.string y.a, .int .i64 y.u, .int .i64 y.v, .int .i64 y.l, .int .i64 y.s, .int .i64 y.f, .int .i64 y.k] 35)).cell (World.block_lt_of_cell? _ _ h0)).trans h0
          have G1 := (((Below.refl _ _).alloc (Nat.le_refl _) (.cells #[.string y.a, .int .i64 y.u, .int .i64 y.v, .int .i64 y.l, .int .i64 y.s, .int .i64 y.f, .int .i64 y.k] 35)).cell (World.block_lt_of_cell? _ _ g1)).trans g1
          simp [bodyPost, results, Tryz.results5, go_sem, G0, G1]
          exact rm_zero HRR.out ((set2_below HB.out (Nat.le_refl _)).alloc (by simp; omega) _)
        | true =>
          rw [hokq] at HFA
          have HA4 := HFA.out
          rw [HOK.out] at HA4
          clear hokq
          go_wp2_with (at_builtin; go_must (refine push_air rfl (.tmp 39) (.tmp 41) rfl _ (w2.heap.size + 1) _ ((qc.take k).map wayD) _ rfl (HM3.out.own.alloc _) _ rfl (by simp) (by omega) (by simp; omega) ?_; intro v' w4 ho4 hg4 hl4; obtain ⟨A5, c5, ev5, _⟩ := ho4.reads; subst ev5; have HP4 := Lib.hid ((MSt.next HM3.out (((Below.refl _ _).alloc (Nat.le_refl _) _).alloc (by simp) _)).push hg4 ho4); obtain ⟨e4, f4, _⟩ := HP4.out; clear ho4 hg4 hl4))
          have HM5 := Lib.hid (show MSt w2 (w4.setCell ⟨w2.heap.size, 1, none⟩ (.slice A5 (min k qc.length + 1) c5)) j (.slice A5 (min k qc.length + 1) c5) ((qc.take k).map wayD ++ [y]) by
            have h := HP4.out.2.2
            rw [List.length_append, List.length_map, List.length_take] at h
            exact h)
          go_roundw
          case rel => exact ⟨k + 1, _, by omega, by go_num, by rw [HFA.out, HOK.out]; rfl, by rw [HF.out]; exact HM5.out⟩
          case measure => simp [intOf]; omega
      · obtain rfl : k = n := by omega
        have hki : ¬ (k : Int) < k := by omega
        have hfa : qc.take k = qc := List.take_of_length_le (by have := HN.out; omega)
        rw [hfa] at HM HL3 HAI HOK
        clear hfa
        have hqq : qc = qs := by
          rcases HOR.out with h1 | ⟨h1, _⟩
          · exact h1
          · rw [HOK.out] at h1; cases h1
        subst hqq
        have HB := Lib.hid (stepB HB2.out HM.out.bel)
        have RSr := Lib.hid (RS2.out.next HM.out.bel)
        have HEr := Lib.hid (HE2.out.step HM.out.bel)
        cases hok : ok0 with
        | false =>
          have HRR := Lib.hid (show rmO s = none from rm_bad HPS.out (.inl (by rw [← HOK0.out, hok])))
          obtain ⟨⟨x0, r0⟩, ⟨x1, r1⟩, hfz⟩ := RSr.out
          go_wp2_with fail
          obtain ⟨g0, g1⟩ := mcells2 r0 r1 (v0 := .int .i64 0) (v1 := .slice none 0 0)
          simp [bodyPost, results, Tryz.results5, go_sem, g0, g1]
          exact rm_zero HRR.out (set2_below HB.out (Nat.le_refl _))
        | true =>
          have hoo : okN p = true := by rw [← HOK0.out, hok]
          have HIS := Lib.hid (show rmO s = if mineB j (qc.map wayD) then some (j, qc.map wayD) else none by
            rw [rm_is HPS.out, hoo, HOK.out, HJ.out]; simp)
          have HMT := Lib.hid (show (mineB j (qc.map wayD) = true → mnT j (qc.map wayD) = s) ∧ (mineB j (qc.map wayD) = false → mnT j (qc.map wayD) ≠ s) by
            have h := mine_text HPS.out hoo HOK.out
            rw [HJ.out] at h; exact h)
          have hsz : ∀ i, i < m3 → (atA (qc.map wayD) i).a.size ≤ maxLen := fun i hi => by
            have hl := HL3.out
            rw [List.length_map] at hl
            rw [atA_is _ _ (by rw [List.length_map]; omega), List.getElem_map]
            have h1 := way_size (qc[i]'(by omega))
            have h2 := HQZ.out _ (List.getElem_mem (show i < qc.length by omega))
            unfold maxLen; omega
          have hm20 : m3 ≤ 1048576 := by rw [HL3.out, List.length_map, ← HN.out]; omega
          have c0 := HM.out.c0
          have c1' := HM.out.c1
          clear hok hoo
          go_wp2_with fail
          refine (mnP_any j A3 c3 (qc.map wayD) m3 _ HL3.out.symm hm20 hsz HAI.out HEr.out.env.pow).mono ?_
          rintro e w3 ⟨rfl, b3⟩
          clear c0 c1'
          obtain ⟨⟨x0, r0⟩, ⟨x1, r1⟩, hfz⟩ := RSr.out.next b3
          have HB3 := Lib.hid (stepB HB.out b3)
          have HM3 := Lib.hid (HM.out.next b3)
          clear b3
          have c0 := HM3.out.c0
          have c1' := HM3.out.c1
          cases hmb : mineB j (qc.map wayD) with
          | false =>
            have HRR := Lib.hid (show rmO s = none by rw [HIS.out, hmb]; rfl)
            have heq : ((mnT j (qc.map wayD)).toList == s.toList) = false := beq_eq_false_iff_ne.2 (fun h => HMT.out.2 hmb (by
              rw [ByteArray.toList_eq, ByteArray.toList_eq] at h
              rw [← toB_of (mnT j (qc.map wayD)), ← toB_of s, h]))
            clear hmb
            go_wp2_with fail
            obtain ⟨g0, g1⟩ := mcells2 r0 r1 (v0 := .int .i64 0) (v1 := .slice none 0 0)
            simp [bodyPost, results, Tryz.results5, go_sem, g0, g1]
            exact rm_zero HRR.out (set2_below HB3.out (Nat.le_refl _))
          | true =>
            have HRR := Lib.hid (show (rmO s).getD (0, []) = (j, qc.map wayD) ∧ (rmO s).isSome = true by rw [HIS.out, hmb]; exact ⟨rfl, rfl⟩)
            have heq : ((mnT j (qc.map wayD)).toList == s.toList) = true := by rw [HMT.out.1 hmb]; exact beq_self_eq_true _
            clear hmb
            go_wp2_with fail
            obtain ⟨g0, g1⟩ := mcells2 r0 r1 (v0 := .int .i64 j) (v1 := .slice A3 m3 c3)
            simp [bodyPost, results, Tryz.results5, go_sem, g0, g1]
            have hlt2 : w.heap.size < w2.heap.size + 1 := by have := HB2.out.size; omega
            exact rm_ret HRR.out (((HM3.out.own.set hlt2).set hlt2).mono (by omega)) (set2_below HB3.out (Nat.le_refl _))
end Go.Proofs.YtcfcmpblemagiaaGreatDoor
