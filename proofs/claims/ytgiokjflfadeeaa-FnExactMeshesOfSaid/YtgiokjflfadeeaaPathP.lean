/-
  The contract of the program's path: the first shortest walk.
-/
import Derived.Test.YtgiokjflfadeeaaPathL
import Derived.Test.YtgiokjflfadeeaaWalkS
import Derived.Deep.LoopGhost
namespace Go.Proofs.Ytgiokjflfadeeaa
open Go.RowKit
set_option linter.unusedVariables false

set_option maxHeartbeats 4000000 in
set_option maxRecDepth 100000 in
theorem path_any (J : Nat) (A : Option Addr) (c : Nat) (xs : List AW) (n : Nat) (E : Option Addr) (ce : Nat) (es : List Int) (m fr to : Nat) (w : World) (hn : xs.length = n) (h20 : n ≤ 1048576) (hJ : 1 ≤ J ∧ J ≤ 16)
    (hends : ∀ k, k < n → (0 ≤ (atA xs k).u ∧ (atA xs k).u < J) ∧ (0 ≤ (atA xs k).v ∧ (atA xs k).v < J) ∧ (atA xs k).u ≠ (atA xs k).v) (hm : es.length = m) (hm20 : m ≤ 1048576) (hes : ∀ i, i < m → 0 ≤ atI es i ∧ atI es i < n) (hfr : fr < J) (hto : to < J)
    (hx : Airs w A xs) (he : Ints w w.heap.size E es) :
    Calls Try.prog 43 #[.agg #[.int .i64 (J : Int), .slice A n c], .int .i64 (fr : Int), .int .i64 (to : Int), .slice E m ce] w (WalkPost (okF xs es m J to fr) (walkF xs es m J to fr) w) := by
  have b0 : Below w.heap.size w (w.alloc (.cells #[.int .i64 (J : Int), .slice A n c] 28)) := (Below.refl _ _).alloc (Nat.le_refl _) _
  have HX := Lib.hid (hx.next b0)
  have HE := Lib.hid (he.next b0)
  have HN := Lib.hid hn
  have HM := Lib.hid hm
  have HED := Lib.hid (fun i hi => edge_at hends (hes i hi) : ∀ i, i < m → ∃ i0 : Nat, atI es i = (i0 : Int) ∧ i0 < n ∧ (atA xs i0).u = (edgeU xs es i : Int) ∧ (atA xs i0).v = (edgeV xs es i : Int) ∧ edgeU xs es i < J ∧ edgeV xs es i < J ∧ edgeU xs es i ≠ edgeV xs es i)
  have HB0 := Lib.hid b0
  have HMADE := Lib.hid (show MapIs ((w.alloc (.cells #[.int .i64 (J : Int), .slice A n c] 28)).alloc (.map #[] 0)) (w.heap.size + 1) J 0 (fun _ => -1) by
    have h := MapIs.made (w.alloc (.cells #[.int .i64 (J : Int), .slice A n c] 28)) J
    simpa using h)
  obtain ⟨W0, hW0⟩ : ∃ W0, W0 = w.alloc (.cells #[.int .i64 (J : Int), .slice A n c] 28) := ⟨_, rfl⟩
  have M1 := Lib.hid (show W0.cell? ⟨w.heap.size, 1, none⟩ = some (.slice A n c) by rw [hW0]; simp [go_sem])
  have M0 := Lib.hid (show W0.cell? ⟨w.heap.size, 0, none⟩ = some (.int .i64 (J : Int)) by rw [hW0]; simp [go_sem])
  have HSZ := Lib.hid (show W0.heap.size = w.heap.size + 1 by rw [hW0]; simp)
  have HW := Lib.hid hW0
  rw [← hW0] at HX HE HB0
  have hmm := @run_makeMap Try.prog
  clear hx he hn hm hends hes b0 hW0
  go_enter Try.func43, Try.ntmps43
  go_wp2_with (refine insertq rfl _ _ _ rfl _ (w.heap.size + 1) J 0 (fun _ => -1) rfl HMADE.out (by omega) (to : Int) to rfl rfl hto (by omega) 0 rfl (by omega) ?_; intro w1 hm1 hg1; have HM1 := Lib.hid hm1; have HG1 := Lib.hid hg1; clear hm1 hg1)
  clear hmm
  go_loopg [11] J (fun gk v wr => ∃ (k : Nat) (P : List Nat) (F : Nat → Int), gk = J - k ∧ k ≤ P.length ∧ Win wr (w.heap.size + 2) v (qL P k) ∧ Bfs xs es m J to F P k 0 ∧ MapIs wr (w.heap.size + 1) J P.length F ∧ Below W0.heap.size W0 wr)
  case atStart =>
    have hs := HG1.out.size
    exact ⟨0, [to], _, rfl, by simp, Win.lit1 w1 _ _ (by simp at hs; omega), Bfs.start xs es m J to hto, HM1.out.alloc _, by
      have h1 : Below W0.heap.size W0 w1 := below_grown (by rw [HW.out]; exact (Below.refl _ _).alloc (Nat.le_refl _) _) HG1.out (fun g e => by cases e; rw [HSZ.out]; exact Nat.le_refl _) (by rw [HSZ.out]; simp)
      exact h1.alloc h1.size _⟩
  case round =>
    obtain ⟨k, P, F, hgk, hk, hwin, hbfs, hmap, hbl⟩ := hrel
    have HGK := Lib.hid hgk
    have HWN := Lib.hid hwin
    have HBF := Lib.hid hbfs
    have HMP := Lib.hid hmap
    have HBL := Lib.hid hbl
    clear hgk hwin hbfs hmap hbl
    obtain ⟨gv, ov, cv, ev, hgv1, hgv2, _⟩ := HWN.out.is
    rw [qL_len] at ev
    obtain ⟨L, hL⟩ : ∃ L, L = P.length - k := ⟨_, rfl⟩
    rw [← hL] at ev
    subst ev
    have HL := Lib.hid hL
    clear hL
    by_cases hlt : 0 < L
    · have hli : (0 : Int) < L := by omega
      go_wp2_with fail
      go_loopw [11, 38] (fun v t wy => ∃ (i : Nat) (P' : List Nat) (F' : Nat → Int), i ≤ m ∧ t = .int .i64 (i : Int) ∧ k < P'.length ∧ Win wy (w.heap.size + 2) v (qL P' k) ∧ Bfs xs es m J to F' P' k i ∧ MapIs wy (w.heap.size + 1) J P'.length F' ∧ Below W0.heap.size W0 wy) (fun _ t _ => m - (intOf t).toNat)
      case atStart => exact ⟨0, P, F, by omega, rfl, by have := HL.out; omega, HWN.out, HBF.out, HMP.out, HBL.out⟩
      case round =>
        obtain ⟨i, P', F', hi, rfl, hk', hwin, hbfs, hmap, hbl⟩ := hrel
        have HW' := Lib.hid hwin
        have HF' := Lib.hid hbfs
        have HP' := Lib.hid hmap
        have HB' := Lib.hid hbl
        have hlen' := hbfs.len
        clear hwin hbfs hmap hbl
        obtain ⟨gw, ow, cw, ev, hgw1, hgw2, hcells⟩ := HW'.out.is
        have hql := qL_len P' k
        obtain ⟨c0, hc0, hc0J, hc00⟩ := HF'.out.front hk'
        have hcq0 := hcells 0 (by rw [hql]; omega)
        rw [qL_cons hk', hc0, Nat.add_zero, show atI ((c0 : Int) :: qL P' (k + 1)) 0 = (c0 : Int) from rfl] at hcq0
        rw [hql] at ev
        obtain ⟨L', hL'⟩ : ∃ L', L' = P'.length - k := ⟨_, rfl⟩
        rw [← hL'] at ev
        have hL0 : 0 < L' := by omega
        subst ev
        have HL' := Lib.hid hL'
        have HC0 := Lib.hid (show ∀ hk : k < P'.length, P'[k] = c0 from fun _ => hc0)
        clear hL' hql hcells hc0
        by_cases hlt2 : i < m
        · obtain ⟨i0, hi0, hi0n, hcu, hcv, hUJ, hVJ, huv⟩ := HED.out i hlt2
          have hi0i : (i0 : Int) < n := by omega
          have hii : (i : Int) < m := by omega
          have hL0i : (0 : Int) < L' := by omega
          obtain ⟨be, offe, rfl, _, hce⟩ := (HE.out.next HB'.out).at_ (k := i) (by rw [HM.out]; exact hlt2)
          rw [hi0] at hce
          obtain ⟨b, off, rfl, _, hc⟩ := (HX.out.next HB'.out).at_ (k := i0) (by rw [HN.out]; exact hi0n)
          obtain ⟨x, hxe⟩ : ∃ x, x = atA xs i0 := ⟨_, rfl⟩
          rw [← hxe] at hc hcu hcv
          obtain ⟨d0, d1, d2, d3, d4, d5, d6⟩ := hc
          obtain ⟨ux, hux⟩ : ∃ ux, ux = edgeU xs es i := ⟨_, rfl⟩
          obtain ⟨vx, hvx⟩ : ∃ vx, vx = edgeV xs es i := ⟨_, rfl⟩
          rw [← hux] at hcu hUJ huv
          rw [← hvx] at hcv hVJ huv
          have mb : wr.cell? ⟨w.heap.size, 1, none⟩ = some (.slice (some ⟨b, off, none⟩) n c) := (HB'.out.cell (World.block_lt_of_cell? W0 _ M1.out)).trans M1.out
          have HF := Lib.hid (show _ ∧ _ ∧ _ ∧ _ ∧ _ ∧ _ ∧ _ ∧ _ ∧ _ from ⟨mb, d0, d1, d2, d3, d4, d5, d6, hcq0⟩)
          have HUV := Lib.hid (show edgeU xs es i = ux ∧ edgeV xs es i = vx ∧ ux ≠ vx ∧ ux < J ∧ vx < J from ⟨hux.symm, hvx.symm, huv, hUJ, hVJ⟩)
          have HXU := Lib.hid (show x.u = (ux : Int) ∧ x.v = (vx : Int) from ⟨hcu, hcv⟩)
          have HNE := Lib.hid (show edgeU xs es i ≠ edgeV xs es i by rw [← hux, ← hvx]; exact huv)
          clear hux hvx hcu hcv hxe hi0
          go_wp2_with fail
          go_region_held3 (fun w' => w'.cell? ⟨w.heap.size, 1, none⟩ = some (.slice (some ⟨b, off, none⟩) n c) ∧ w'.cell? ⟨b, off + i0 * 7, none⟩ = some (.string x.a) ∧ w'.cell? ⟨b, off + i0 * 7 + 1, none⟩ = some (.int .i64 x.u) ∧ w'.cell? ⟨b, off + i0 * 7 + 2, none⟩ = some (.int .i64 x.v) ∧ w'.cell? ⟨b, off + i0 * 7 + 3, none⟩ = some (.int .i64 x.l) ∧ w'.cell? ⟨b, off + i0 * 7 + 4, none⟩ = some (.int .i64 x.s) ∧ w'.cell? ⟨b, off + i0 * 7 + 5, none⟩ = some (.int .i64 x.f) ∧ w'.cell? ⟨b, off + i0 * 7 + 6, none⟩ = some (.int .i64 x.k) ∧ w'.cell? ⟨gw, ow, none⟩ = some (.int .i64 (c0 : Int))) (first | exact HF.out | exact r_next bo HF.out) ((go_at_call 60; refine (otherV_any x (c0 : Int) _).mono ?_; rintro e w2 ⟨rfl, bo⟩))
          have HB5 := Lib.hid (show Below W0.heap.size W0 w2 from stepB HB'.out (by first | exact below_undrew bo | exact bo))
          have HW5 := Lib.hid (show Win w2 (w.heap.size + 2) (.slice (some ⟨gw, ow, none⟩) L' cw) (qL P' k) from HW'.out.below (by first | exact below_undrew bo | exact bo))
          have HP5 := Lib.hid (show MapIs w2 (w.heap.size + 1) J P'.length F' from HP'.out.below (by first | exact below_undrew bo | exact bo))
          clear bo
          by_cases hinc : c0 = ux ∨ c0 = vx
          · obtain ⟨nx, e1, e2, hh⟩ := oth_yes HXU.out.1 HXU.out.2 hinc
            obtain ⟨hoth, htch⟩ := oth_other HUV.out.1 HUV.out.2.1 hh HUV.out.2.2.1
            have hnxJ : nx < J := by obtain ⟨_, _, _, h4, h5⟩ := HUV.out; omega
            have HOT := Lib.hid hoth
            have HTC := Lib.hid htch
            rw [e1, e2]
            clear e1 e2 hh hinc hoth htch
            obtain ⟨p, hp⟩ : ∃ p, F' c0 = p := ⟨_, rfl⟩
            have hp0 : 0 ≤ p := by rw [← hp]; exact hc00
            have hp1 : p + 1 ≤ J := by rw [← hp]; exact HF'.out.hi hc0J
            have hpw : IntKind.i64.wrap (p + 1) = p + 1 := by rw [IntKind.wrap_i64]; omega
            have HPP := Lib.hid hp
            clear hp hc00
            by_cases hnew : 0 ≤ F' nx
            · have HD := Lib.hid (decide_eq_true hnew)
              have HG2 := Lib.hid (HF'.out.seen HC0.out HOT.out hnew HNE.out)
              clear hnew
              go_wp2_with (at_lookup; refine lookq_ok rfl _ _ rfl _ (w.heap.size + 1) J P'.length F' rfl HP5.out (nx : Int) nx rfl rfl hnxJ (by omega) true HD.out ?_; intro cz)
              go_roundw
              case rel => exact ⟨i + 1, P', F', by omega, by go_num, hk', HW5.out, HG2.out, HP5.out, HB5.out⟩
              case measure => simp [intOf]; omega
            · have HD := Lib.hid (decide_eq_false hnew)
              have HG2 := Lib.hid (HF'.out.newN hk' (HC0.out hk') HTC.out HOT.out hlt2 hnxJ (by omega) HNE.out)
              rw [HPP.out] at HG2
              clear hnew
              go_wp2_with (first | (at_lookup; refine lookq_ok rfl _ _ rfl _ (w.heap.size + 1) J P'.length F' rfl HP5.out (nx : Int) nx rfl rfl hnxJ (by omega) false HD.out ?_; intro cz) | (at_lookup; refine lookq rfl _ _ rfl _ (w.heap.size + 1) J P'.length F' rfl HP5.out (c0 : Int) c0 rfl rfl hc0J (by omega) p HPP.out hp0 ?_) | (at_mapUpdate; refine storeq rfl _ _ _ rfl _ (w.heap.size + 1) J P'.length F' rfl HP5.out (by omega) (nx : Int) nx rfl rfl hnxJ (by omega) (p + 1) rfl (by omega) ?_; intro w3 hm3 hg3; have HM3 := Lib.hid hm3; have HW3 := Lib.hid (HW5.out.kept hg3 (fun g e => by cases e; omega)); have HB3 := Lib.hid (below_grown HB5.out hg3 (fun g e => by cases e; rw [HSZ.out]; exact Nat.le_refl _) HB5.out.size); clear hm3 hg3) | (at_builtin; refine pushq_law rfl (.tmp 73) (.tmp 75) rfl _ (w.heap.size + 2) _ (qL P' k) (nx : Int) rfl HW3.out rfl (by rw [qL_len]; omega) (by have := HM3.out.lt; omega) ?_; intro v' w4 hp4; have HP4 := Lib.hid hp4; clear hp4))
              obtain ⟨hw4, row, hg4, hrow⟩ := HP4.out
              have HQ4 := Lib.hid (show Win w4 (w.heap.size + 2) v' (qL (P' ++ [nx]) k) by rw [qL_snoc nx (by omega)]; exact hw4)
              have HM4 := Lib.hid ((HM3.out.alloc _).kept hg4 (fun g e => by have := hrow g e; omega))
              have HB4 := Lib.hid (below_grown (HB3.out.alloc HB3.out.size _) hg4 (fun g e => by have := hrow g e; rw [HSZ.out]; omega) (by have := HB3.out.size; simp; omega))
              clear hw4 hg4 hrow
              go_roundw
              case rel => exact ⟨i + 1, P' ++ [nx], _, by omega, by go_num, by simp; omega, HQ4.out, HG2.out, by have := HM4.out; simpa using this, HB4.out⟩
              case measure => simp [intOf]; omega
          · have e2 := oth_no HXU.out.1 HXU.out.2 hinc
            have e1 := oth_zero HXU.out.1 HXU.out.2 hinc
            have HG2 := Lib.hid (HF'.out.skipN HC0.out (oth_touch HUV.out.1 HUV.out.2.1 hinc) HNE.out)
            rw [e1, e2]
            obtain ⟨r, hr⟩ : ∃ r, decide (0 ≤ F' 0) = r := ⟨_, rfl⟩
            have HR := Lib.hid hr
            clear e1 e2 hinc hr
            go_wp2_with (at_lookup; refine lookq_ok rfl _ _ rfl _ (w.heap.size + 1) J P'.length F' rfl HP5.out _ 0 rfl rfl (by omega) (by omega) r HR.out ?_; intro cz)
            go_roundw
            case rel => exact ⟨i + 1, P', F', by omega, by go_num, hk', HW5.out, HG2.out, HP5.out, HB5.out⟩
            case measure => simp [intOf]; omega
        · obtain rfl : i = m := by omega
          have HWT := Lib.hid HW'.out
          rw [qL_cons hk', HC0.out hk'] at HWT
          go_wp2_with (refine tail_law rfl _ rfl _ (w.heap.size + 2) _ (c0 : Int) (qL P' (k + 1)) rfl HWT.out ?_; intro v' hv'; have HV' := Lib.hid hv'; clear hv')
          go_roundg (J - (k + 1))
          case measure => have := HGK.out; have := HF'.out.len; omega
          case rel => exact ⟨k + 1, P', F', rfl, by omega, HV'.out, HF'.out.up, HP'.out, HB'.out⟩
    · have hli : ¬ (0 : Int) < L := by omega
      have hLz : L = 0 := by omega
      have hID := HBF.out.fin (show k = P.length by have := HL.out; omega)
      have hDF : ∀ b, b < J → F b = distF xs es m J to b := fun b hb => distF_eq hto hID hb
      have HID := Lib.hid hID
      have HHI := Lib.hid (fun b hb => HBF.out.hi hb : ∀ b, b < J → F b + 1 ≤ J)
      have HOKF := Lib.hid (show okF xs es m J to fr = decide (0 ≤ F fr) by unfold okF; rw [← hDF fr hfr])
      have HWF := Lib.hid (show walkF xs es m J to fr = if 0 ≤ F fr then walkL xs es m F (F fr).toNat fr else [] by
        unfold walkF
        rw [← hDF fr hfr, walkL_ext (fun b hb => (hDF b hb).symm) (fun i hi => by obtain ⟨_, _, _, _, _, h1, h2, _⟩ := HED.out i hi; exact ⟨h1, h2⟩) _ fr hfr])
      clear hID hDF
      by_cases hpos : 0 ≤ F fr
      · have HD := Lib.hid (decide_eq_true hpos)
        have HTG := Lib.hid (show walkF xs es m J to fr = walkL xs es m F (F fr).toNat fr by rw [HWF.out, if_pos hpos])
        have HOT := Lib.hid (show okF xs es m J to fr = true by rw [HOKF.out]; exact decide_eq_true hpos)
        have HFR0 := Lib.hid hpos
        clear hpos
        go_wp2_with (at_lookup; refine lookq_ok rfl _ _ rfl _ (w.heap.size + 1) J P.length F rfl HMP.out (fr : Int) fr rfl rfl hfr (by omega) true HD.out ?_; intro cz)
        go_loopw [20, 21] (fun v t wx => ∃ (q : Nat) (ws : List Int), q < J ∧ t = .int .i64 (q : Int) ∧ 0 ≤ F q ∧ OwnI wx (w.heap.size + 2) v ws ∧ ws.length + (F q).toNat = (F fr).toNat ∧ ws ++ walkL xs es m F (F q).toNat q = walkL xs es m F (F fr).toNat fr ∧ MapIs wx (w.heap.size + 1) J P.length F ∧ Below W0.heap.size W0 wx) (fun _ t _ => (F (intOf t).toNat).toNat)
        case atStart => exact ⟨fr, [], hfr, rfl, HFR0.out, World.ownsRow_nil _ _ _ _, by simp, rfl, HMP.out, HBL.out⟩
        case round =>
          obtain ⟨q, ws, hq, rfl, hq0, ho, hwl, hws, hmp, hb⟩ := hrel
          have HOW := Lib.hid ho
          have HWS := Lib.hid hws
          have HMQ := Lib.hid hmp
          have HB6 := Lib.hid hb
          have HWL := Lib.hid hwl
          have HQ0 := Lib.hid hq0
          clear ho hws hmp hb hwl hq0
          obtain ⟨A5, c5, ev5, _⟩ := HOW.out.reads
          by_cases hqt : q = to
          · subst hqt
            have hqz : F q = 0 := HID.out.zero
            have hnil : walkL xs es m F (F q).toNat q = [] := walk_end hqz
            have HW2 := Lib.hid (show walkF xs es m J q fr = ws by rw [HTG.out, ← HWS.out, hnil, List.append_nil])
            subst ev5
            clear hqz hnil
            go_wp2_with fail
            go_ret2
            exact ⟨_, by rw [HOT.out]; rfl, by rw [HW2.out]; exact HOW.out.mono (by omega), stepB HB0.out HB6.out⟩
          · have hqti : ¬ (q : Int) = to := by omega
            have hqpos : 0 < F q := by
              have h1 := HQ0.out
              rcases Int.lt_or_le 0 (F q) with h | h
              · exact h
              · exact absurd (HID.out.only q hq (by omega)) hqt
            have HQP := Lib.hid hqpos
            clear hqpos
            obtain ⟨L5, hL5⟩ : ∃ L5, L5 = ws.length := ⟨_, rfl⟩
            rw [← hL5] at ev5
            subst ev5
            have HL5 := Lib.hid hL5
            clear hL5
            have hqtb : ((q : Int) != (to : Int)) = true := by simp; omega
            go_wp2_with fail
            go_loopw [20, 21, 92] (fun v t i wy => ∃ i' : Nat, i' ≤ m ∧ v = .slice A5 L5 c5 ∧ t = .int .i64 (q : Int) ∧ i = .int .i64 (i' : Int) ∧ (∀ k, k < i' → hopB xs es F q k = false) ∧ Below wr.heap.size wr wy) (fun _ _ i _ => m - (intOf i).toNat)
            case atStart => exact ⟨0, Nat.zero_le _, rfl, rfl, rfl, fun k hk => absurd hk (by omega), Below.refl _ _⟩
            case round =>
              obtain ⟨i, hi, rfl, rfl, rfl, hnb, hbo⟩ := hrel
              have HNB := Lib.hid hnb
              have HBO := Lib.hid hbo
              clear hnb hbo
              by_cases him : i < m
              · obtain ⟨i0, hi0, hi0n, hcu, hcv, hUJ, hVJ, huv⟩ := HED.out i him
                have hi0i : (i0 : Int) < n := by omega
                have hii : (i : Int) < m := by omega
                have HB7 := Lib.hid (stepB HB6.out HBO.out)
                have HM7 := Lib.hid (HMQ.out.below HBO.out)
                have HO7 := Lib.hid (HOW.out.below HBO.out)
                obtain ⟨be, offe, rfl, _, hce⟩ := (HE.out.next HB7.out).at_ (k := i) (by rw [HM.out]; exact him)
                rw [hi0] at hce
                obtain ⟨b, off, rfl, hbw, hc⟩ := (HX.out.next HB7.out).at_ (k := i0) (by rw [HN.out]; exact hi0n)
                have HI0 := Lib.hid hi0
                obtain ⟨x, hxe⟩ : ∃ x, x = atA xs i0 := ⟨_, rfl⟩
                rw [← hxe] at hc hcu hcv
                obtain ⟨d0, d1, d2, d3, d4, d5, d6⟩ := hc
                obtain ⟨ux, hux⟩ : ∃ ux, ux = edgeU xs es i := ⟨_, rfl⟩
                obtain ⟨vx, hvx⟩ : ∃ vx, vx = edgeV xs es i := ⟨_, rfl⟩
                rw [← hux] at hcu hUJ huv
                rw [← hvx] at hcv hVJ huv
                have m1 : wr.cell? ⟨w.heap.size, 1, none⟩ = some (.slice (some ⟨b, off, none⟩) n c) := (HB7.out.cell (World.block_lt_of_cell? W0 _ M1.out)).trans M1.out
                have m0 : wr.cell? ⟨w.heap.size, 0, none⟩ = some (.int .i64 (J : Int)) := (HB7.out.cell (World.block_lt_of_cell? W0 _ M0.out)).trans M0.out
                have HUV := Lib.hid (show edgeU xs es i = ux ∧ edgeV xs es i = vx ∧ ux ≠ vx ∧ ux < J ∧ vx < J from ⟨hux.symm, hvx.symm, huv, hUJ, hVJ⟩)
                have HXU := Lib.hid (show x.u = (ux : Int) ∧ x.v = (vx : Int) from ⟨hcu, hcv⟩)
                have HD1 := Lib.hid d1
                have HM11 := Lib.hid m1
                have HM00 := Lib.hid m0
                have HQJ := Lib.hid (HHI.out q hq)
                clear hux hvx hcu hcv hxe hi0
                by_cases hinc : q = ux ∨ q = vx
                · obtain ⟨nx, e1, e2, hh⟩ := oth_yes HXU.out.1 HXU.out.2 hinc
                  obtain ⟨hoth, htch⟩ := oth_other HUV.out.1 HUV.out.2.1 hh HUV.out.2.2.1
                  have hnxJ : nx < J := by obtain ⟨_, _, _, h4, h5⟩ := HUV.out; omega
                  have hnear : Near xs es m q nx := by rw [← hoth]; exact other_near him htch
                  have hn0 := (HID.out.step q nx hq hnxJ hnear HQ0.out).1
                  have HE1 := Lib.hid e1
                  have HE2 := Lib.hid e2
                  obtain ⟨sv, hsv⟩ : ∃ sv, stepV xs es i q = sv := ⟨_, rfl⟩
                  have HSV := Lib.hid (show (if x.u = (q : Int) then (i0 : Int) + 1 else -(i0 : Int) - 1) = sv by
                    rw [← hsv]; unfold stepV; rw [HXU.out.1, HUV.out.1, HI0.out]
                    by_cases e : q = ux
                    · rw [if_pos (by omega), if_pos e]
                    · rw [if_neg (by omega), if_neg e])
                  have HSW := Lib.hid hsv
                  have hsvb : -1048577 ≤ sv ∧ sv ≤ 1048577 := by have h := HSV.out; split at h <;> omega
                  obtain ⟨p, hp⟩ : ∃ p, F q = p := ⟨_, rfl⟩
                  obtain ⟨s, hs⟩ : ∃ s, F nx = s := ⟨_, rfl⟩
                  have HPP := Lib.hid hp
                  have HSS := Lib.hid hs
                  have hp0 : 0 < p := by have := HQP.out; omega
                  have hs0 : 0 ≤ s := by omega
                  have hpJ : p + 1 ≤ J := by have := HQJ.out; omega
                  have hpw : IntKind.i64.wrap (p - 1) = p - 1 := by rw [IntKind.wrap_i64]; omega
                  have HOTN := Lib.hid hoth
                  have HTC := Lib.hid htch
                  clear e1 e2 hh hinc hoth htch hnear hn0 hsv hp hs
                  by_cases hA : s = p - 1
                  · have HHOP := Lib.hid (show hopB xs es F q i = true by unfold hopB; rw [HTC.out, HOTN.out, HPP.out, HSS.out, hA]; simp)
                    go_wp2_with (first
                      | (go_at_call 60; refine (otherV_any x (q : Int) _).mono ?_; rw [HE1.out, HE2.out]; rintro e w2 ⟨rfl, bo⟩; have HB8 := Lib.hid (stepB HB7.out bo); have HM8 := Lib.hid (HM7.out.below bo); have HO8 := Lib.hid (HO7.out.below bo); have n1 := (bo.cell (World.block_lt_of_cell? _ _ HM11.out)).trans HM11.out; have n0 := (bo.cell (World.block_lt_of_cell? _ _ HM00.out)).trans HM00.out; have HC8 := Lib.hid ((bo.cell (World.block_lt_of_cell? _ _ HD1.out)).trans HD1.out); have l1 := look_run HM8.out hnxJ hJ.2 HSS.out hs0; have l2 := look_run HM8.out hq hJ.2 HPP.out (by omega); clear bo)
                      | (go_at_call 61; refine (step_any (J : Int) b off n c i0 x.u (q : Int) _ hi0n h20 (World.block_lt_of_cell? _ _ HC8.out) HC8.out sv HSV.out).mono ?_; rintro e w3 ⟨rfl, bo3⟩; have HB9 := Lib.hid (stepB HB8.out bo3); have HM9 := Lib.hid (HM8.out.below bo3); have HO9 := Lib.hid (HO8.out.below bo3); clear bo3)
                      | (at_builtin; refine push_law rfl (.tmp 117) (.tmp 122) rfl _ (w.heap.size + 2) (.slice A5 L5 c5) ws sv rfl HO9.out rfl (by have h1 := HWL.out; have h2 := HHI.out fr hfr; omega) (by have := HM9.out.lt; omega) ?_; intro v' w4 ho4 hg4 hl4; have HO4 := Lib.hid ho4; have HG4 := Lib.hid hg4; clear ho4 hg4 hl4))
                    have HROW := Lib.hid (fun (g : Nat) (e : (Value.slice A5 L5 c5).ownBlock = some g) => (HO9.out.lt e).1)
                    have HB4 := Lib.hid (below_grown (HB9.out.alloc HB9.out.size _) HG4.out (fun g e => by have := HROW.out g e; rw [HSZ.out]; omega) (by have := HB9.out.size; simp; omega))
                    have HM4 := Lib.hid ((HM9.out.alloc _).kept HG4.out (fun g e => by have := HROW.out g e; omega))
                    have HWK := Lib.hid (walk_step HQP.out him HHOP.out HNB.out)
                    have HHO := Lib.hid (hop_other HHOP.out).2
                    rw [HSW.out, HOTN.out] at HWK
                    rw [HOTN.out] at HHO
                    go_roundw
                    case rel => exact ⟨nx, ws ++ [sv], hnxJ, rfl, by rw [HSS.out]; exact hs0, HO4.out, by have h1 := HHO.out; have h2 := HQP.out; have h3 := HWL.out; simp; omega, by rw [List.append_assoc, List.singleton_append, ← HWK.out]; exact HWS.out, HM4.out, HB4.out⟩
                    case measure => have h1 := HHO.out; have h2 := HQP.out; simp [intOf]; omega
                  · have HNOP := Lib.hid (show hopB xs es F q i = false by unfold hopB; rw [HTC.out, HOTN.out, HPP.out, HSS.out, decide_eq_false hA]; rfl)
                    go_wp2_with (go_at_call 60; refine (otherV_any x (q : Int) _).mono ?_; rw [HE1.out, HE2.out]; rintro e w2 ⟨rfl, bo⟩; have HBO8 := Lib.hid (stepB HBO.out bo); have HM8 := Lib.hid (HM7.out.below bo); have l1 := look_run HM8.out hnxJ hJ.2 HSS.out hs0; have l2 := look_run HM8.out hq hJ.2 HPP.out (by omega); clear bo)
                    go_roundw
                    case rel => exact ⟨i + 1, by omega, rfl, rfl, by go_num, fun k hk => by
                        rcases Nat.lt_or_ge k i with h | h
                        · exact HNB.out k h
                        · obtain rfl : k = i := by omega
                          exact HNOP.out, HBO8.out⟩
                    case measure => simp [intOf]; omega
                · have e2 := oth_no HXU.out.1 HXU.out.2 hinc
                  have e1 := oth_zero HXU.out.1 HXU.out.2 hinc
                  have HE1 := Lib.hid e1
                  have HE2 := Lib.hid e2
                  have HNOP := Lib.hid (show hopB xs es F q i = false by unfold hopB; rw [oth_touch HUV.out.1 HUV.out.2.1 hinc]; rfl)
                  clear e1 e2 hinc
                  go_wp2_with (go_at_call 60; refine (otherV_any x (q : Int) _).mono ?_; rw [HE1.out, HE2.out]; rintro e w2 ⟨rfl, bo⟩; have HBO8 := Lib.hid (stepB HBO.out bo); have HM8 := Lib.hid (HM7.out.below bo); clear bo)
                  go_roundw
                  case rel => exact ⟨i + 1, by omega, rfl, rfl, by go_num, fun k hk => by
                      rcases Nat.lt_or_ge k i with h | h
                      · exact HNB.out k h
                      · obtain rfl : k = i := by omega
                        exact HNOP.out, HBO8.out⟩
                  case measure => simp [intOf]; omega
              · obtain ⟨i9, hi9, hh9⟩ := hop_has HID.out (fun i hi => by obtain ⟨_, _, _, _, _, _, _, h⟩ := HED.out i hi; exact h) hq HQP.out
                exact absurd (HNB.out i9 (by omega)) (by rw [hh9]; simp)
      · have HD := Lib.hid (decide_eq_false hpos)
        have HOT := Lib.hid (show okF xs es m J to fr = false by rw [HOKF.out]; exact decide_eq_false hpos)
        have HTG := Lib.hid (show walkF xs es m J to fr = [] by rw [HWF.out, if_neg hpos])
        clear hpos
        go_wp2_with (at_lookup; refine lookq_ok rfl _ _ rfl _ (w.heap.size + 1) J P.length F rfl HMP.out (fr : Int) fr rfl rfl hfr (by omega) false HD.out ?_; intro cz)
        go_ret2
        exact ⟨_, by rw [HOT.out]; rfl, by rw [HTG.out]; exact World.ownsRow_nil _ _ _ _, stepB HB0.out HBL.out⟩
end Go.Proofs.Ytgiokjflfadeeaa
