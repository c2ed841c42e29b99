/-
  The contract of the reference's l04Walk: the first shortest walk.
-/
import Derived.Test.YtgiokjflfadeeaaDist
import Derived.Test.YtgiokjflfadeeaaAll
namespace Go.Proofs.Ytgiokjflfadeeaa
open Go.RowKit
set_option linter.unusedVariables false

noncomputable def okF (xs : List AW) (es : List Int) (m J to fr : Nat) : Bool := decide (0 ≤ distF xs es m J to fr)
noncomputable def walkF (xs : List AW) (es : List Int) (m J to fr : Nat) : List Int := if 0 ≤ distF xs es m J to fr then walkL xs es m (distF xs es m J to) (distF xs es m J to fr).toNat fr else []
def WalkPost (ok : Bool) (ls : List Int) (w : World) (e : Ending) (w' : World) : Prop := ∃ v, e = .returned (.tuple #[v, .bool ok]) ∧ OwnI w' w.heap.size v ls ∧ Below w.heap.size w w'
theorem edge_at {xs : List AW} {es : List Int} {n J i : Nat} (hends : ∀ k, k < n → (0 ≤ (atA xs k).u ∧ (atA xs k).u < J) ∧ (0 ≤ (atA xs k).v ∧ (atA xs k).v < J) ∧ (atA xs k).u ≠ (atA xs k).v) (he : 0 ≤ atI es i ∧ atI es i < n) :
    ∃ i0 : Nat, atI es i = (i0 : Int) ∧ i0 < n ∧ (atA xs i0).u = (edgeU xs es i : Int) ∧ (atA xs i0).v = (edgeV xs es i : Int) ∧ edgeU xs es i < J ∧ edgeV xs es i < J ∧ edgeU xs es i ≠ edgeV xs es i := by
  obtain ⟨i0, hi0⟩ := Int.eq_ofNat_of_zero_le he.1
  obtain ⟨⟨h1, h2⟩, ⟨h3, h4⟩, h5⟩ := hends i0 (by omega)
  have hU : edgeU xs es i = (atA xs i0).u.toNat := by unfold edgeU; rw [hi0, Int.toNat_natCast]
  have hV : edgeV xs es i = (atA xs i0).v.toNat := by unfold edgeV; rw [hi0, Int.toNat_natCast]
  exact ⟨i0, hi0, by omega, by omega, by omega, by omega, by omega, by omega⟩
theorem labL_setF (f : Nat → Int) (J q : Nat) (z : Int) : (labL f J).set q z = labL (setF f q z) J := labL_set f J q z
theorem ne_new {v v' : Value} {gg k : Nat} (hn : v.ownBlock ≠ some gg) (hl : v'.ownBlock = v.ownBlock ∨ v'.ownBlock = some (k + 1)) (hg : gg < k) : v'.ownBlock ≠ some gg :=
  fun h => hl.elim (fun e => hn (e.symm.trans h)) (fun e => absurd (Option.some.inj (e.symm.trans h)) (by omega))
set_option maxHeartbeats 4000000 in
set_option maxRecDepth 100000 in
theorem l04Walk_any (g J : Nat) (A : Option Addr) (c : Nat) (xs : List AW) (n : Nat) (E : Option Addr) (ce : Nat) (es : List Int) (m fr to : Nat) (w : World) (hn : xs.length = n) (h20 : n ≤ 1048576) (hJ : 1 ≤ J ∧ J ≤ 16)
    (hends : ∀ k, k < n → (0 ≤ (atA xs k).u ∧ (atA xs k).u < J) ∧ (0 ≤ (atA xs k).v ∧ (atA xs k).v < J) ∧ (atA xs k).u ≠ (atA xs k).v) (hm : es.length = m) (hm20 : m ≤ 1048576) (hes : ∀ i, i < m → 0 ≤ atI es i ∧ atI es i < n) (hfr : fr < J) (hto : to < J)
    (hx : Airs w A xs) (he : Ints w w.heap.size E es) (m0 : w.cell? ⟨g, 0, none⟩ = some (.int .i64 (J : Int))) (m1 : w.cell? ⟨g, 1, none⟩ = some (.slice A n c)) :
    Calls Try.prog 40 #[.pointer (some ⟨g, 0, none⟩), .slice E m ce, .int .i64 (fr : Int), .int .i64 (to : Int)] w (WalkPost (okF xs es m J to fr) (walkF xs es m J to fr) w) := by
  have HX := Lib.hid hx
  have HE := Lib.hid he
  have HN := Lib.hid hn
  have HM := Lib.hid hm
  have HED := Lib.hid (fun i hi => edge_at hends (hes i hi) : ∀ i, i < m → ∃ i0 : Nat, atI es i = (i0 : Int) ∧ i0 < n ∧ (atA xs i0).u = (edgeU xs es i : Int) ∧ (atA xs i0).v = (edgeV xs es i : Int) ∧ edgeU xs es i < J ∧ edgeV xs es i < J ∧ edgeU xs es i ≠ edgeV xs es i)
  have M0 := Lib.hid m0
  have M1 := Lib.hid m1
  clear hx he hn hm hends hes m0 m1
  go_enter Try.func40, Try.ntmps40
  go_wp2_with fail
  go_loopw [10, 11] (fun v t wr => ∃ k : Nat, k ≤ J ∧ t = .int .i64 (k : Int) ∧ OwnI wr w.heap.size v (labL (fun _ => (-1 : Int)) k) ∧ Below w.heap.size w wr) (fun _ t _ => J - (intOf t).toNat)
  case atStart => exact ⟨0, Nat.zero_le _, rfl, OwnI.lit _ _ (Nat.le_refl _), (Below.refl _ _).alloc (Nat.le_refl _) _⟩
  case round =>
    obtain ⟨k, hk, rfl, ho, hb⟩ := hrel
    have HO := Lib.hid ho
    have HB := Lib.hid hb
    clear ho hb
    have n0 : wr.cell? ⟨g, 0, none⟩ = some (.int .i64 (J : Int)) := (HB.out.cell (World.block_lt_of_cell? w _ M0.out)).trans M0.out
    by_cases hlt : k < J
    · have hki : (k : Int) < J := by omega
      have HLEN := Lib.hid (labL_len (fun _ => (-1 : Int)) k)
      go_wp2_with (at_builtin; refine push_law rfl (.tmp 28) (.tmp 29) rfl _ w.heap.size _ (labL (fun _ => (-1 : Int)) k) (-1) rfl HO.out rfl (by rw [HLEN.out]; omega) HB.out.size ?_; intro v' w4 ho4 hg4 hl4; have HO4 := Lib.hid ho4; have HB4 := Lib.hid (below_grown (HB.out.alloc HB.out.size _) hg4 (fun g e => (HO.out.lt e).1) (Nat.le_trans HB.out.size (by simp))); clear ho4 hg4 hl4)
      go_roundw
      case rel => exact ⟨k + 1, by omega, by go_num, by rw [labL_snoc]; exact HO4.out, HB4.out⟩
      case measure => simp [intOf]; omega
    · obtain rfl : k = J := by omega
      obtain ⟨gg, cc, cur, ev, hg1, hg2, _, _, _⟩ := HO.out.block (by rw [labL_len]; omega)
      rw [labL_len] at ev
      subst ev
      have hki : ¬ (k : Int) < k := by omega
      have htoi : (to : Int) < k := by omega
      have dto := own_cell HO.out (a := to) hto
      have fto := own_free HO.out to
      have HST := Lib.hid (show OwnI (wr.setCell ⟨gg, to, none⟩ (.int .i64 0)) w.heap.size (.slice (some ⟨gg, 0, none⟩) k cc) (labL (setF (fun _ => (-1 : Int)) to 0) k) by
        have h := OwnI.store (xs := labL (fun _ => (-1 : Int)) k) (by rw [labL_len]; exact HO.out) to 0
        rw [labL_len, labL_setF] at h
        exact h)
      have HB1 := Lib.hid (HB.out.setCell (p := ⟨gg, to, none⟩) (by simpa using hg1) (.int .i64 0))
      go_wp2_with fail
      clear dto fto n0
      go_loopw [12] (fun t wr => ∃ (s : Nat) (F : Nat → Int), s ≤ k ∧ t = .int .i64 (s : Int) ∧ OwnI wr w.heap.size (.slice (some ⟨gg, 0, none⟩) k cc) (labL F k) ∧ Relax xs es m k to s 0 F ∧ Below w.heap.size w wr) (fun t _ => k - (intOf t).toNat)
      case atStart => exact ⟨0, _, Nat.zero_le _, rfl, HST.out, Relax.start xs es m k to, HB1.out⟩
      case round =>
        obtain ⟨s, F, hs, rfl, ho, hr, hb⟩ := hrel
        have HO2 := Lib.hid ho
        have HR2 := Lib.hid hr
        have HB2 := Lib.hid hb
        have n0 : wr.cell? ⟨g, 0, none⟩ = some (.int .i64 (k : Int)) := (hb.cell (World.block_lt_of_cell? w _ M0.out)).trans M0.out
        clear ho hr hb
        by_cases hsk : s < k
        · have hski : (s : Int) < k := by omega
          go_wp2_with fail
          go_loopw [13] (fun t wr => ∃ (i : Nat) (F : Nat → Int), i ≤ m ∧ t = .int .i64 (i : Int) ∧ OwnI wr w.heap.size (.slice (some ⟨gg, 0, none⟩) k cc) (labL F k) ∧ Relax xs es m k to s i F ∧ Below w.heap.size w wr) (fun t _ => m - (intOf t).toNat)
          case atStart => exact ⟨0, F, Nat.zero_le _, rfl, HO2.out, HR2.out, HB2.out⟩
          case round =>
            obtain ⟨i, F', hi, rfl, ho, hr, hb⟩ := hrel
            have HO3 := Lib.hid ho
            have HR3 := Lib.hid hr
            have HB3 := Lib.hid hb
            clear ho hr hb
            by_cases him : i < m
            · have hii : (i : Int) < m := by omega
              obtain ⟨i0, hi0, hi0n, hcu, hcv, hUJ, hVJ, huv⟩ := HED.out i him
              obtain ⟨be, offe, rfl, hbe, hce0⟩ := HE.out.at_ (k := i) (by rw [HM.out]; exact him)
              have hce := (HB3.out.cell (p := ⟨be, offe + i, none⟩) (by simpa using hbe)).trans hce0
              rw [hi0] at hce
              obtain ⟨b, off, rfl, hbw, hc0⟩ := HX.out.at_ (k := i0) (by rw [HN.out]; exact hi0n)
              obtain ⟨_, c1, c2, _, _, _, _⟩ := hc0.below HB3.out hbw
              rw [hcu] at c1
              rw [hcv] at c2
              have hi0i : (i0 : Int) < n := by omega
              have n1 : wr.cell? ⟨g, 1, none⟩ = some (.slice (some ⟨b, off, none⟩) n c) := (HB3.out.cell (World.block_lt_of_cell? w _ M1.out)).trans M1.out
              obtain ⟨U, hU⟩ : ∃ U, U = edgeU xs es i := ⟨_, rfl⟩
              obtain ⟨V, hV⟩ : ∃ V, V = edgeV xs es i := ⟨_, rfl⟩
              rw [← hU] at c1 hUJ huv
              rw [← hV] at c2 hVJ huv
              have hUi : (U : Int) < k := by omega
              have hVi : (V : Int) < k := by omega
              have hvu : V ≠ U := fun e => huv e.symm
              have hbg : b ≠ gg := by omega
              have hgb : gg ≠ b := by omega
              have HUV := Lib.hid (show U = edgeU xs es i ∧ V = edgeV xs es i from ⟨hU, hV⟩)
              have HNUV := Lib.hid (show Near xs es m U V from ⟨i, him, .inl ⟨hU, hV⟩⟩)
              have du := own_cell HO3.out (a := U) hUJ
              have dv := own_cell HO3.out (a := V) hVJ
              have fu := own_free HO3.out U
              have fv := own_free HO3.out V
              obtain ⟨pu, hpu⟩ : ∃ pu, pu = F' U := ⟨_, rfl⟩
              obtain ⟨pv, hpv⟩ : ∃ pv, pv = F' V := ⟨_, rfl⟩
              rw [← hpu] at du
              rw [← hpv] at dv
              have HPU := Lib.hid hpu
              have HPV := Lib.hid hpv
              clear hi0 hcu hcv hc0 hce0 hU hV hpu hpv
              go_wp2_with fail
              go_quiet (fail)
              by_cases hA : pu = s ∧ pv < 0
              · obtain ⟨rfl, hpv0⟩ := hA
                have HST2 := Lib.hid (show ∀ W : World, OwnI W w.heap.size (.slice (some ⟨gg, 0, none⟩) k cc) (labL F' k) → OwnI (W.setCell ⟨gg, V, none⟩ (.int .i64 ((s : Int) + 1))) w.heap.size (.slice (some ⟨gg, 0, none⟩) k cc) (labL (setF F' V ((s : Int) + 1)) k) from fun W hW => by
                  have h := OwnI.store (xs := labL F' k) (by rw [labL_len]; exact hW) V ((s : Int) + 1)
                  rw [labL_len, labL_setF] at h
                  exact h)
                go_wp2_with fail
                go_roundw
                case rel => exact ⟨i + 1, _, by omega, by go_num, HST2.out _ (HO3.out.drewN _), HR3.out.edgeA HUV.out hUJ hVJ HNUV.out HPU.out.symm (by rw [← HPV.out]; exact hpv0), (below_drewN HB3.out _).setCell (p := ⟨gg, V, none⟩) (by simpa using hg1) _⟩
                case measure => simp [intOf]; omega
              · by_cases hB : pv = s ∧ pu < 0
                · obtain ⟨rfl, hpu0⟩ := hB
                  have hpus : ¬ pu = (s : Int) := by omega
                  have HST2 := Lib.hid (show ∀ W : World, OwnI W w.heap.size (.slice (some ⟨gg, 0, none⟩) k cc) (labL F' k) → OwnI (W.setCell ⟨gg, U, none⟩ (.int .i64 ((s : Int) + 1))) w.heap.size (.slice (some ⟨gg, 0, none⟩) k cc) (labL (setF F' U ((s : Int) + 1)) k) from fun W hW => by
                    have h := OwnI.store (xs := labL F' k) (by rw [labL_len]; exact hW) U ((s : Int) + 1)
                    rw [labL_len, labL_setF] at h
                    exact h)
                  clear hA
                  go_wp2_with fail
                  go_roundw
                  case rel => exact ⟨i + 1, _, by omega, by go_num, HST2.out _ (HO3.out.drewN _), HR3.out.edgeB HUV.out hUJ hVJ HNUV.out HPV.out.symm (by rw [← HPU.out]; exact hpu0), (below_drewN HB3.out _).setCell (p := ⟨gg, U, none⟩) (by simpa using hg1) _⟩
                  case measure => simp [intOf]; omega
                · have HRC := Lib.hid (HR3.out.edgeC HUV.out (by rw [← HPU.out, ← HPV.out]; exact hA) (by rw [← HPU.out, ← HPV.out]; exact hB))
                  by_cases hus : pu = s
                  · have hpv0 : ¬ pv < 0 := fun h => hA ⟨hus, h⟩
                    by_cases hvs : pv = s
                    · have hpu0 : ¬ pu < 0 := fun h => hB ⟨hvs, h⟩
                      subst hus
                      subst hvs
                      clear hA hB
                      go_wp2_with fail
                      go_roundw
                      case rel => exact ⟨i + 1, _, by omega, by go_num, HO3.out.drewN _, HRC.out, below_drewN HB3.out _⟩
                      case measure => simp [intOf]; omega
                    · subst hus
                      clear hA hB
                      go_wp2_with fail
                      go_roundw
                      case rel => exact ⟨i + 1, _, by omega, by go_num, HO3.out.drewN _, HRC.out, below_drewN HB3.out _⟩
                      case measure => simp [intOf]; omega
                  · by_cases hvs : pv = s
                    · have hpu0 : ¬ pu < 0 := fun h => hB ⟨hvs, h⟩
                      subst hvs
                      clear hA hB
                      go_wp2_with fail
                      go_roundw
                      case rel => exact ⟨i + 1, _, by omega, by go_num, HO3.out.drewN _, HRC.out, below_drewN HB3.out _⟩
                      case measure => simp [intOf]; omega
                    · clear hA hB
                      go_wp2_with fail
                      go_roundw
                      case rel => exact ⟨i + 1, _, by omega, by go_num, HO3.out.drewN _, HRC.out, below_drewN HB3.out _⟩
                      case measure => simp [intOf]; omega
            · obtain rfl : i = m := by omega
              have hii : ¬ (i : Int) < i := by omega
              go_wp2_with fail
              go_roundw
              case rel => exact ⟨s + 1, F', by omega, by go_num, HO3.out, HR3.out.up, HB3.out⟩
              case measure => simp [intOf]; omega
        · obtain rfl : s = k := by omega
          have hID := HR2.out.fin
          have hDF : ∀ b, b < s → F b = distF xs es m s to b := fun b hb => distF_eq hto hID hb
          have HID := Lib.hid hID
          have hski : ¬ (s : Int) < s := by omega
          have hfri : (fr : Int) < s := by omega
          have dfr := own_cell HO2.out (a := fr) hfr
          have HOKF := Lib.hid (show okF xs es m s to fr = decide (0 ≤ F fr) by unfold okF; rw [← hDF fr hfr])
          have HWF := Lib.hid (show walkF xs es m s to fr = if 0 ≤ F fr then walkL xs es m F (F fr).toNat fr else [] by
            unfold walkF
            rw [← hDF fr hfr, walkL_ext (fun b hb => (hDF b hb).symm) (fun i hi => by obtain ⟨_, _, _, _, _, h1, h2, _⟩ := HED.out i hi; exact ⟨h1, h2⟩) _ fr hfr])
          obtain ⟨df, hdf⟩ : ∃ df, df = F fr := ⟨_, rfl⟩
          rw [← hdf] at dfr
          have HDF := Lib.hid hdf
          clear hID hDF hdf
          by_cases hneg : df < 0
          · go_wp2_with fail
            go_ret2
            exact ⟨_, by rw [HOKF.out, ← HDF.out]; rw [decide_eq_false (by omega)]; rfl, by rw [HWF.out, ← HDF.out, if_neg (by omega)]; exact World.ownsRow_nil _ _ _ _, HB2.out⟩
          · have hggr : gg < wr.heap.size := by
              have := (HO2.out.lt (g := gg) rfl).2; exact this
            have HTG := Lib.hid (show walkF xs es m s to fr = walkL xs es m F (F fr).toNat fr by rw [HWF.out, ← HDF.out, if_pos (by omega)])
            have HOT := Lib.hid (show okF xs es m s to fr = true by rw [HOKF.out, ← HDF.out]; exact decide_eq_true (by omega))
            have hfr0 : 0 ≤ F fr := by rw [← HDF.out]; omega
            have HFR0 := Lib.hid hfr0
            clear hfr0
            go_wp2_with fail
            clear dfr n0
            go_loopw [15, 16] (fun v t wx => ∃ (q : Nat) (ws : List Int), q < s ∧ t = .int .i64 (q : Int) ∧ 0 ≤ F q ∧ OwnI wx w.heap.size v ws ∧ v.ownBlock ≠ some gg ∧ ws.length + (F q).toNat = (F fr).toNat ∧ ws ++ walkL xs es m F (F q).toNat q = walkL xs es m F (F fr).toNat fr ∧ OwnI wx w.heap.size (.slice (some ⟨gg, 0, none⟩) s cc) (labL F s) ∧ Below w.heap.size w wx) (fun _ t _ => (F (intOf t).toNat).toNat)
            case atStart => exact ⟨fr, [], hfr, rfl, HFR0.out, OwnI.lit _ _ HB2.out.size, fun e => by (have h9 : wr.heap.size = gg := Option.some.inj e); omega, by simp, rfl, HO2.out.alloc _, HB2.out.alloc HB2.out.size _⟩
            case round =>
              obtain ⟨q, ws, hq, rfl, hq0, ho, hne, hwl, hws, hof, hb⟩ := hrel
              have HOW := Lib.hid ho
              have HNE := Lib.hid hne
              have HWS := Lib.hid hws
              have HOF := Lib.hid hof
              have HB5 := Lib.hid hb
              have HWL := Lib.hid hwl
              have HQ0 := Lib.hid hq0
              clear ho hne hws hof hb hwl hq0
              obtain ⟨A5, c5, ev5, _⟩ := HOW.out.reads
              by_cases hqt : q = to
              · subst hqt
                have hqz : F q = 0 := HID.out.zero
                have hnil : walkL xs es m F (F q).toNat q = [] := walk_end hqz
                have HW2 := Lib.hid (show walkF xs es m s q fr = ws by rw [HTG.out, ← HWS.out, hnil, List.append_nil])
                subst ev5
                clear hqz hnil
                go_wp2_with fail
                go_ret2
                exact ⟨_, by rw [HOT.out]; rfl, by rw [HW2.out]; exact HOW.out, HB5.out⟩
              · have hqti : ¬ (q : Int) = to := by omega
                have hqpos : 0 < F q := by
                  have h1 := HQ0.out
                  rcases Int.lt_or_le 0 (F q) with h | h
                  · exact h
                  · exact absurd (HID.out.only q hq (by omega)) hqt
                have HQP := Lib.hid hqpos
                clear hqpos
                obtain ⟨L5, hL5⟩ : ∃ L5, L5 = ws.length := ⟨_, rfl⟩
                rw [← hL5] at ev5
                subst ev5
                have HL5 := Lib.hid hL5
                clear hL5
                have hqtb : ((q : Int) != (to : Int)) = true := by simp; omega
                go_wp2_with fail
                (try rw [hqtb])
                go_loopw [15, 16, 17] (fun v t i wy => ∃ i' : Nat, i' ≤ m ∧ v = .slice A5 L5 c5 ∧ t = .int .i64 (q : Int) ∧ i = .int .i64 (i' : Int) ∧ (∀ k, k < i' → hopB xs es F q k = false) ∧ ∃ z, wy = wr.drewN z) (fun _ _ i _ => m - (intOf i).toNat)
                case atStart => exact ⟨0, Nat.zero_le _, rfl, rfl, rfl, fun k hk => absurd hk (by omega), 0, rfl⟩
                case round =>
                  obtain ⟨i, hi, rfl, rfl, rfl, hnb, z, rfl⟩ := hrel
                  have HNB := Lib.hid hnb
                  clear hnb
                  by_cases him : i < m
                  · have hii : (i : Int) < m := by omega
                    obtain ⟨i0, hi0, hi0n, hcu, hcv, hUJ, hVJ, huv⟩ := HED.out i him
                    obtain ⟨be, offe, rfl, hbe, hce0⟩ := HE.out.at_ (k := i) (by rw [HM.out]; exact him)
                    have hce := (HB5.out.cell (p := ⟨be, offe + i, none⟩) (by simpa using hbe)).trans hce0
                    rw [hi0] at hce
                    obtain ⟨b, off, rfl, hbw, hc0⟩ := HX.out.at_ (k := i0) (by rw [HN.out]; exact hi0n)
                    obtain ⟨_, c1, c2, _, _, _, _⟩ := hc0.below HB5.out hbw
                    rw [hcu] at c1
                    rw [hcv] at c2
                    have hi0i : (i0 : Int) < n := by omega
                    have n1 : wr.cell? ⟨g, 1, none⟩ = some (.slice (some ⟨b, off, none⟩) n c) := (HB5.out.cell (World.block_lt_of_cell? w _ M1.out)).trans M1.out
                    have HI0 := Lib.hid hi0
                    obtain ⟨U, hU⟩ : ∃ U, U = edgeU xs es i := ⟨_, rfl⟩
                    obtain ⟨V, hV⟩ : ∃ V, V = edgeV xs es i := ⟨_, rfl⟩
                    rw [← hU] at c1 hUJ huv
                    rw [← hV] at c2 hVJ huv
                    have hUi : (U : Int) < s := by omega
                    have hVi : (V : Int) < s := by omega
                    have hvu : V ≠ U := fun e => huv e.symm
                    have HUV := Lib.hid (show U = edgeU xs es i ∧ V = edgeV xs es i from ⟨hU, hV⟩)
                    have hqi : (q : Int) < s := by omega
                    have dq := own_cell HOF.out (a := q) hq
                    have du := own_cell HOF.out (a := U) hUJ
                    have dv := own_cell HOF.out (a := V) hVJ
                    obtain ⟨pq, hpq⟩ : ∃ pq, pq = F q := ⟨_, rfl⟩
                    obtain ⟨pu, hpu⟩ : ∃ pu, pu = F U := ⟨_, rfl⟩
                    obtain ⟨pv, hpv⟩ : ∃ pv, pv = F V := ⟨_, rfl⟩
                    rw [← hpq] at dq
                    rw [← hpu] at du
                    rw [← hpv] at dv
                    have HPQ := Lib.hid hpq
                    have HPU := Lib.hid hpu
                    have HPV := Lib.hid hpv
                    have hpqr : 1 ≤ pq ∧ pq ≤ 17 := by
                      have h1 := HQP.out
                      have h2 := HR2.out.high q hq
                      omega
                    have hpq1 : IntKind.i64.wrap (pq - 1) = pq - 1 := by rw [IntKind.wrap_i64]; omega
                    have HROW := Lib.hid (HWS.out)
                    have HC0 := Lib.hid hc0
                    have HCU := Lib.hid (hcu.trans (congrArg (fun x : Nat => (x : Int)) hU.symm))
                    have HCV := Lib.hid (hcv.trans (congrArg (fun x : Nat => (x : Int)) hV.symm))
                    have hggr4 := (HOF.out.lt (g := gg) rfl).2
                    clear hi0 hcu hcv hc0 hce0 hU hV hpu hpv hpq
                    by_cases hqU : q = U
                    · subst hqU
                      obtain rfl : pu = pq := HPU.out.trans HPQ.out.symm
                      have hvqi : ¬ (V : Int) = q := by omega
                      have hoth : otherN xs es i q = V := by unfold otherN; rw [if_pos HUV.out.1, HUV.out.2]
                      have htch : touchB xs es i q = true := by unfold touchB; rw [decide_eq_true HUV.out.1]; rfl
                      clear du
                      by_cases hA : pv = pu - 1
                      · have HHOP := Lib.hid (show hopB xs es F q i = true by unfold hopB; rw [htch, hoth, ← HPV.out, ← HPU.out, hA]; simp)
                        have HSTV := Lib.hid (show stepV xs es i q = (i0 : Int) + 1 by unfold stepV; rw [if_pos HUV.out.1, HI0.out])
                        have HOTH := Lib.hid hoth
                        clear hoth htch
                        go_wp2_with fail
                        go_quiet (fail)
                        go_wp2_with fail
                        go_quiet (fail)
                        go_wp2_with (at_builtin; refine push_law rfl (.tmp 157) (.tmp 163) rfl _ w.heap.size _ ws ((i0 : Int) + 1) rfl (HOW.out.drewN _) rfl (by have h1 := HWL.out; have h2 := HR2.out.high fr hfr; omega) (below_drewN HB5.out _).size ?_; intro v' w4 ho4 hg4 hl4; have HO4 := Lib.hid ho4; have HB4 := Lib.hid (below_grown ((below_drewN HB5.out _).alloc (below_drewN HB5.out _).size _) hg4 (fun g e => ((HOW.out.drewN 0).lt e).1) (by have := HB5.out.size; simp; omega)); have HF4 := Lib.hid (((HOF.out.drewN _).alloc _).kept hg4 (.inr (fun e => HNE.out e.symm))); have HN4 := Lib.hid (ne_new HNE.out hl4 hggr4); obtain ⟨_, d1, d2, _, _, _, _⟩ := HC0.out.below HB4.out hbw; rw [HCU.out] at d1; rw [HCV.out] at d2; clear ho4 hg4 hl4)
                        have HWK := Lib.hid (walk_step HQP.out him HHOP.out HNB.out)
                        have HHO := Lib.hid (hop_other HHOP.out).2
                        rw [HSTV.out, HOTH.out] at HWK
                        rw [HOTH.out] at HHO
                        go_roundw
                        case rel => exact ⟨V, ws ++ [(i0 : Int) + 1], hVJ, rfl, by have := HHO.out; have := HQP.out; omega, HO4.out, HN4.out, by have := HWL.out; have := HHO.out; have := HQP.out; simp; omega, by rw [List.append_assoc, List.singleton_append, ← HWK.out]; exact HWS.out, HF4.out, HB4.out⟩
                        case measure => have := HHO.out; have := HQP.out; simp [intOf]; omega
                      · have HNOP := Lib.hid (show hopB xs es F q i = false by unfold hopB; rw [htch, hoth, ← HPV.out, ← HPU.out, decide_eq_false hA]; rfl)
                        clear hoth htch
                        go_wp2_with fail
                        go_quiet (fail)
                        go_wp2_with fail
                        go_quiet (fail)
                        go_wp2_with fail
                        go_quiet (fail)
                        go_wp2_with fail
                        go_roundw
                        case rel => exact ⟨i + 1, by omega, rfl, rfl, by go_num, fun k hk => by
                            rcases Nat.lt_or_ge k i with h | h
                            · exact HNB.out k h
                            · obtain rfl : k = i := by omega
                              exact HNOP.out, _, rfl⟩
                        case measure => simp [intOf]; omega
                    · have hqUi : ¬ (U : Int) = q := by omega
                      by_cases hqV : q = V
                      · subst hqV
                        obtain rfl : pv = pq := HPV.out.trans HPQ.out.symm
                        have hoth : otherN xs es i q = U := by unfold otherN; rw [← HUV.out.1, if_neg hqU]
                        have htch : touchB xs es i q = true := by unfold touchB; rw [decide_eq_true HUV.out.2, Bool.or_true]
                        clear dv
                        by_cases hA : pu = pv - 1
                        · have HHOP := Lib.hid (show hopB xs es F q i = true by unfold hopB; rw [htch, hoth, ← HPU.out, ← HPV.out, hA]; simp)
                          have HSTV := Lib.hid (show stepV xs es i q = -(i0 : Int) - 1 by unfold stepV; rw [← HUV.out.1, if_neg hqU, HI0.out])
                          have HOTH := Lib.hid hoth
                          have hw1 : IntKind.i64.wrap (-(i0 : Int)) = -(i0 : Int) := by rw [IntKind.wrap_i64]; omega
                          have hw2 : IntKind.i64.wrap (-(i0 : Int) - 1) = -(i0 : Int) - 1 := by rw [IntKind.wrap_i64]; omega
                          clear hoth htch
                          go_wp2_with fail
                          go_quiet (fail)
                          go_wp2_with fail
                          go_quiet (fail)
                          go_wp2_with fail
                          go_quiet (fail)
                          go_wp2_with (at_builtin; refine push_law rfl (.tmp 190) (.tmp 197) rfl _ w.heap.size _ ws (-(i0 : Int) - 1) rfl (HOW.out.drewN _) rfl (by have h1 := HWL.out; have h2 := HR2.out.high fr hfr; omega) (below_drewN HB5.out _).size ?_; intro v' w4 ho4 hg4 hl4; have HO4 := Lib.hid ho4; have HB4 := Lib.hid (below_grown ((below_drewN HB5.out _).alloc (below_drewN HB5.out _).size _) hg4 (fun g e => ((HOW.out.drewN 0).lt e).1) (by have := HB5.out.size; simp; omega)); have HF4 := Lib.hid (((HOF.out.drewN _).alloc _).kept hg4 (.inr (fun e => HNE.out e.symm))); have HN4 := Lib.hid (ne_new HNE.out hl4 hggr4); obtain ⟨_, d1, d2, _, _, _, _⟩ := HC0.out.below HB4.out hbw; rw [HCU.out] at d1; rw [HCV.out] at d2; clear ho4 hg4 hl4)
                          have HWK := Lib.hid (walk_step HQP.out him HHOP.out HNB.out)
                          have HHO := Lib.hid (hop_other HHOP.out).2
                          rw [HSTV.out, HOTH.out] at HWK
                          rw [HOTH.out] at HHO
                          go_roundw
                          case rel => exact ⟨U, ws ++ [-(i0 : Int) - 1], hUJ, rfl, by have := HHO.out; have := HQP.out; omega, HO4.out, HN4.out, by have := HWL.out; have := HHO.out; have := HQP.out; simp; omega, by rw [List.append_assoc, List.singleton_append, ← HWK.out]; exact HWS.out, HF4.out, HB4.out⟩
                          case measure => have := HHO.out; have := HQP.out; simp [intOf]; omega
                        · have HNOP := Lib.hid (show hopB xs es F q i = false by unfold hopB; rw [htch, hoth, ← HPU.out, ← HPV.out, decide_eq_false hA]; rfl)
                          clear hoth htch
                          go_wp2_with fail
                          go_quiet (fail)
                          go_wp2_with fail
                          go_quiet (fail)
                          go_wp2_with fail
                          go_quiet (fail)
                          go_wp2_with fail
                          go_roundw
                          case rel => exact ⟨i + 1, by omega, rfl, rfl, by go_num, fun k hk => by
                              rcases Nat.lt_or_ge k i with h | h
                              · exact HNB.out k h
                              · obtain rfl : k = i := by omega
                                exact HNOP.out, _, rfl⟩
                          case measure => simp [intOf]; omega
                      · have hqVi : ¬ (V : Int) = q := by omega
                        have HNOP := Lib.hid (show hopB xs es F q i = false by unfold hopB touchB; rw [← HUV.out.1, ← HUV.out.2, decide_eq_false hqU, decide_eq_false hqV]; rfl)
                        go_wp2_with fail
                        go_quiet (fail)
                        go_wp2_with fail
                        go_quiet (fail)
                        go_wp2_with fail
                        go_quiet (fail)
                        go_wp2_with fail
                        go_roundw
                        case rel => exact ⟨i + 1, by omega, rfl, rfl, by go_num, fun k hk => by
                            rcases Nat.lt_or_ge k i with h | h
                            · exact HNB.out k h
                            · obtain rfl : k = i := by omega
                              exact HNOP.out, _, rfl⟩
                        case measure => simp [intOf]; omega
                  · obtain ⟨i9, hi9, hh9⟩ := hop_has HID.out (fun i hi => by obtain ⟨_, _, _, _, _, _, _, h⟩ := HED.out i hi; exact h) hq HQP.out
                    exact absurd (HNB.out i9 (by omega)) (by rw [hh9]; simp)
end Go.Proofs.Ytgiokjflfadeeaa
