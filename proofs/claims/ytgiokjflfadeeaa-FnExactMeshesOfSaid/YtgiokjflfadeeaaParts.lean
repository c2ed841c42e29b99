/-
  The contract of the reference's l04Parts: the labels of the classes.
-/
import Derived.Test.YtgiokjflfadeeaaHas
import Derived.Test.YtgiokjflfadeeaaConn
import Derived.Deep.Onto
namespace Go.Proofs.Ytgiokjflfadeeaa
open Go.RowKit
set_option linter.unusedVariables false

def minI (a b : Int) : Int := if a < b then a else b
def maxI (a b : Int) : Int := if b < a then a else b
theorem minI_is (a b : Int) : minI a b = min a b := by unfold minI; split <;> omega
theorem maxI_is (a b : Int) : maxI a b = max a b := by unfold maxI; split <;> omega
theorem l00Min_any (a b : Int) (w : World) : Calls Try.prog 79 #[.int .i64 a, .int .i64 b] w fun e w' => e = .returned (.int .i64 (minI a b)) ∧ w = w' := by
  go_enter Try.func79, Try.ntmps79
  go_wp2
  all_goals go_ret
  all_goals exact ⟨ret_int (by unfold minI; split <;> omega), rfl⟩
theorem l00Max_any (a b : Int) (w : World) : Calls Try.prog 80 #[.int .i64 a, .int .i64 b] w fun e w' => e = .returned (.int .i64 (maxI a b)) ∧ w = w' := by
  go_enter Try.func80, Try.ntmps80
  go_wp2
  all_goals go_ret
  all_goals exact ⟨ret_int (by unfold maxI; split <;> omega), rfl⟩

def labL (f : Nat → Int) (J : Nat) : List Int := (List.range J).map f
theorem labL_len (f : Nat → Int) (J : Nat) : (labL f J).length = J := by simp [labL]
theorem labL_at (f : Nat → Int) (J a : Nat) (h : a < J) : atI (labL f J) a = f a := by simp [labL, atI, h]
theorem labL_snoc (f : Nat → Int) (J : Nat) : labL f (J + 1) = labL f J ++ [f J] := by simp [labL, List.range_succ]
theorem labL_ext {f f' : Nat → Int} {J : Nat} (h : ∀ a, a < J → f a = f' a) : labL f J = labL f' J := by
  unfold labL; apply List.map_congr_left; intro a ha; exact h a (by simpa using ha)
theorem labL_set (f : Nat → Int) (J q : Nat) (z : Int) : (labL f J).set q z = labL (fun a => if a = q then z else f a) J := by
  apply List.ext_getElem?
  intro i
  simp only [labL, List.getElem?_set, List.length_map, List.length_range, List.getElem?_map]
  by_cases e : q = i
  · subst e
    by_cases h : q < J
    · simp [h]
    · simp [h]
  · by_cases h : i < J
    · simp [h, e, Ne.symm e]
    · simp [h, e]
theorem own_cell {wq : World} {B gg cc k a : Nat} {F : Nat → Int} (ho : OwnI wq B (.slice (some ⟨gg, 0, none⟩) k cc) (labL F k)) (ha : a < k) : wq.cell? ⟨gg, a, none⟩ = some (.int .i64 (F a)) := by
  obtain ⟨b', off', e, _, hcu⟩ := ho.ints.2.at_ (k := a) (by rw [labL_len]; exact ha)
  injection e with e; injection e with e1 e2
  subst e1 e2
  rw [labL_at F k a ha, Nat.zero_add] at hcu
  exact hcu
theorem own_free {wq : World} {B gg cc k : Nat} {xs : List Int} (ho : OwnI wq B (.slice (some ⟨gg, 0, none⟩) k cc) xs) (a : Nat) : wq.frozen? ⟨gg, a, none⟩ = false := by
  have h := ho.ints.1
  subst h
  exact World.ownsRow.frozenAt ho a
def mixF (f : Nat → Int) (u v q : Nat) (a : Nat) : Int := if a < q then relab f u v a else f a
theorem mix_keep (f : Nat → Int) (u v q J : Nat) (h : ¬ f q = max (f u) (f v)) : labL (mixF f u v q) J = labL (mixF f u v (q + 1)) J := by
  apply labL_ext; intro a ha
  unfold mixF relab
  by_cases e : a = q
  · subst e; rw [if_neg (by omega), if_pos (by omega), if_neg h]
  · by_cases l : a < q
    · rw [if_pos l, if_pos (show a < q + 1 by omega)]
    · rw [if_neg l, if_neg (show ¬ a < q + 1 by omega)]
theorem mix_set (f : Nat → Int) (u v q J : Nat) (h : f q = max (f u) (f v)) : (labL (mixF f u v q) J).set q (min (f u) (f v)) = labL (mixF f u v (q + 1)) J := by
  rw [labL_set]
  apply labL_ext; intro a ha
  unfold mixF relab
  by_cases e : a = q
  · subst e; rw [if_pos rfl, if_pos (by omega), if_pos h]
  · rw [if_neg e]
    by_cases l : a < q
    · rw [if_pos l, if_pos (show a < q + 1 by omega)]
    · rw [if_neg l, if_neg (show ¬ a < q + 1 by omega)]

def edgeU (xs : List AW) (es : List Int) (k : Nat) : Nat := (atA xs (atI es k).toNat).u.toNat
def edgeV (xs : List AW) (es : List Int) (k : Nat) : Nat := (atA xs (atI es k).toNat).v.toNat
def partsF (xs : List AW) (es : List Int) : Nat → Nat → Int
  | 0 => fun a => (a : Int)
  | k + 1 => relab (partsF xs es k) (edgeU xs es k) (edgeV xs es k)
def PartsPost (ps : List Int) (w : World) (e : Ending) (w' : World) : Prop := ∃ g c, e = .returned (.slice (some ⟨g, 0, none⟩) ps.length c) ∧ OwnI w' w.heap.size (.slice (some ⟨g, 0, none⟩) ps.length c) ps ∧ Below w.heap.size w w'

set_option maxHeartbeats 1000000 in
theorem l04Parts_any (g : Nat) (j : Int) (A : Option Addr) (c : Nat) (xs : List AW) (n : Nat) (E : Option Addr) (ce : Nat) (es : List Int) (m : Nat) (w : World) (hn : xs.length = n) (h20 : n ≤ 1048576) (hj : 1 ≤ j ∧ j ≤ 16)
    (hends : ∀ k, k < n → (0 ≤ (atA xs k).u ∧ (atA xs k).u < j) ∧ 0 ≤ (atA xs k).v ∧ (atA xs k).v < j) (hm : es.length = m) (hm20 : m ≤ 1048576) (hes : ∀ k, k < m → 0 ≤ atI es k ∧ atI es k < n)
    (hx : Airs w A xs) (he : Ints w w.heap.size E es) (m0 : w.cell? ⟨g, 0, none⟩ = some (.int .i64 j)) (m1 : w.cell? ⟨g, 1, none⟩ = some (.slice A n c)) :
    Calls Try.prog 72 #[.pointer (some ⟨g, 0, none⟩), .slice E m ce] w (PartsPost (labL (partsF xs es m) j.toNat) w) := by
  have HX := Lib.hid hx
  have HE := Lib.hid he
  have HN := Lib.hid hn
  have HM := Lib.hid hm
  have HEN := Lib.hid hends
  have HES := Lib.hid hes
  have M0 := Lib.hid m0
  have M1 := Lib.hid m1
  obtain ⟨J, rfl⟩ := Int.eq_ofNat_of_zero_le (show 0 ≤ j by omega)
  rw [Int.toNat_natCast]
  clear hx he hn hm hends hes m0 m1
  go_enter Try.func72, Try.ntmps72
  go_wp2_with fail
  go_loopw [5, 6] (fun v t wr => ∃ k : Nat, k ≤ J ∧ t = .int .i64 (k : Int) ∧ OwnI wr w.heap.size v (labL (fun a => (a : Int)) k) ∧ Below w.heap.size w wr) (fun _ t _ => J - (intOf t).toNat)
  case atStart => exact ⟨0, Nat.zero_le _, rfl, OwnI.lit _ _ (Nat.le_refl _), (Below.refl _ _).alloc (Nat.le_refl _) _⟩
  case round =>
    obtain ⟨k, hk, rfl, ho, hb⟩ := hrel
    have HO := Lib.hid ho
    have HB := Lib.hid hb
    clear ho hb
    have n0 : wr.cell? ⟨g, 0, none⟩ = some (.int .i64 (J : Int)) := (HB.out.cell (World.block_lt_of_cell? w _ M0.out)).trans M0.out
    by_cases hlt : k < J
    · have hki : (k : Int) < J := by omega
      have hlen := labL_len (fun a => (a : Int)) k
      have HLEN := Lib.hid hlen
      clear hlen
      go_wp2_with (at_builtin; refine push_law rfl (.tmp 21) (.tmp 23) rfl _ w.heap.size _ (labL (fun a => (a : Int)) k) (k : Int) rfl HO.out rfl (by rw [HLEN.out]; omega) HB.out.size ?_; intro v' w4 ho4 hg4 hl4; have HO4 := Lib.hid ho4; have HB4 := Lib.hid (below_grown (HB.out.alloc HB.out.size _) hg4 (fun g e => (HO.out.lt e).1) (by have := HB.out.size; simp; omega)); clear ho4 hg4 hl4)
      go_roundw
      case rel => exact ⟨k + 1, by omega, by go_num, by rw [labL_snoc]; exact HO4.out, HB4.out⟩
      case measure => simp [intOf]; omega
    · obtain rfl : k = J := by omega
      obtain ⟨gg, cc, cur, ev, hg1, _, _, _, _⟩ := HO.out.block (by rw [labL_len]; omega)
      rw [labL_len] at ev
      subst ev
      have hkn : ¬ (k : Int) < k := by omega
      go_wp2_with fail
      go_loopw [7] (fun t wr => ∃ i : Nat, i ≤ m ∧ t = .int .i64 (i : Int) ∧ OwnI wr w.heap.size (.slice (some ⟨gg, 0, none⟩) k cc) (labL (partsF xs es i) k) ∧ Below w.heap.size w wr) (fun t _ => m - (intOf t).toNat)
      case atStart => exact ⟨0, Nat.zero_le _, rfl, HO.out, HB.out⟩
      case round =>
        obtain ⟨i, hi, rfl, ho, hb⟩ := hrel
        have HO2 := Lib.hid ho
        have HB2 := Lib.hid hb
        clear ho hb
        by_cases hlt2 : i < m
        · have hes := HES.out i hlt2
          obtain ⟨i0, hi0⟩ := Int.eq_ofNat_of_zero_le hes.1
          have hi0n : i0 < n := by omega
          have hi0i : (i0 : Int) < n := by omega
          have hii : (i : Int) < m := by omega
          obtain ⟨be, offe, rfl, _, hce⟩ := (HE.out.next HB2.out).at_ (k := i) (by rw [HM.out]; exact hlt2)
          rw [hi0] at hce
          obtain ⟨b, off, rfl, _, hc⟩ := (HX.out.next HB2.out).at_ (k := i0) (by rw [HN.out]; exact hi0n)
          obtain ⟨⟨hu1, hu2⟩, hv1, hv2⟩ := HEN.out i0 hi0n
          obtain ⟨_, c1, c2, _, _, _, _⟩ := hc
          obtain ⟨u0, hu0⟩ := Int.eq_ofNat_of_zero_le hu1
          obtain ⟨v0, hv0⟩ := Int.eq_ofNat_of_zero_le hv1
          have hU : edgeU xs es i = u0 := by unfold edgeU; rw [hi0, Int.toNat_natCast, hu0, Int.toNat_natCast]
          have hV : edgeV xs es i = v0 := by unfold edgeV; rw [hi0, Int.toNat_natCast, hv0, Int.toNat_natCast]
          have HP := Lib.hid (show partsF xs es (i + 1) = relab (partsF xs es i) u0 v0 by show relab (partsF xs es i) (edgeU xs es i) (edgeV xs es i) = _; rw [hU, hV])
          rw [hu0] at c1
          rw [hv0] at c2
          have hu3 : (u0 : Int) < k := by omega
          have hv3 : (v0 : Int) < k := by omega
          clear hU hV hu0 hv0 hu1 hu2 hv1 hv2 hi0 hes
          generalize partsF xs es i = f at HO2 HP
          have du := own_cell HO2.out (a := u0) (by omega)
          have dv := own_cell HO2.out (a := v0) (by omega)
          have n1 : wr.cell? ⟨g, 1, none⟩ = some (.slice (some ⟨b, off, none⟩) n c) := (HB2.out.cell (World.block_lt_of_cell? w _ M1.out)).trans M1.out
          obtain ⟨pu, hpu⟩ : ∃ pu, pu = f u0 := ⟨_, rfl⟩
          obtain ⟨pv, hpv⟩ : ∃ pv, pv = f v0 := ⟨_, rfl⟩
          rw [← hpu] at du
          rw [← hpv] at dv
          have HPU := Lib.hid hpu
          have HPV := Lib.hid hpv
          clear hpu hpv
          go_wp2_with fail
          go_quiet (fail)
          go_wp2_with fail
          go_quiet ((go_at_call 79; exact quiet_add_left (l00Min_any _ _ _)))
          go_wp2_with fail
          go_quiet ((go_at_call 80; exact quiet_add_left (l00Max_any _ _ _)))
          go_wp2_with fail
          have HO3 := Lib.hid (show OwnI wr w.heap.size (.slice (some ⟨gg, 0, none⟩) k cc) (labL (mixF f u0 v0 0) k) by rw [labL_ext (f' := f) (fun a _ => by unfold mixF; rw [if_neg (by omega)])]; exact HO2.out)
          clear hce c1 c2 du dv n1 hii hi0i hu3 hv3
          go_loopw [11] (fun t wr => ∃ q : Nat, q ≤ k ∧ t = .int .i64 (q : Int) ∧ OwnI wr w.heap.size (.slice (some ⟨gg, 0, none⟩) k cc) (labL (mixF f u0 v0 q) k) ∧ Below w.heap.size w wr) (fun t _ => k - (intOf t).toNat)
          case atStart => exact ⟨0, Nat.zero_le _, rfl, HO3.out, by first | exact below_drewN HB2.out _ | exact below_drewN (below_drewN HB2.out _) _ | exact below_drewN (below_drewN (below_drewN HB2.out _) _) _⟩
          case round =>
            obtain ⟨q, hq, rfl, ho, hb⟩ := hrel
            have HO4 := Lib.hid ho
            have HB4 := Lib.hid hb
            clear ho hb
            by_cases hlt3 : q < k
            · have dq := own_cell HO4.out (a := q) hlt3
              have hfq := own_free HO4.out q
              have hqk : (q : Int) < k := by omega
              have hmq : mixF f u0 v0 q q = f q := by unfold mixF; rw [if_neg (by omega)]
              rw [hmq] at dq
              clear hmq
              obtain ⟨z, hz⟩ : ∃ z, z = f q := ⟨_, rfl⟩
              rw [← hz] at dq
              have HZ := Lib.hid hz
              clear hz
              by_cases he : z = maxI pu pv
              · have heb : (z == maxI pu pv) = true := by simpa using he
                have hst := OwnI.store (xs := labL (mixF f u0 v0 q) k) (by rw [labL_len]; exact HO4.out) q (minI pu pv)
                rw [labL_len, HPU.out, HPV.out, minI_is, mix_set f u0 v0 q k (by rw [← HZ.out, he, HPU.out, HPV.out, maxI_is]), ← minI_is, ← HPU.out, ← HPV.out] at hst
                have HST := Lib.hid hst
                have HB5 := Lib.hid (HB4.out.setCell (p := ⟨gg, q, none⟩) (by simpa using hg1) (.int .i64 (minI pu pv)))
                clear he hst
                go_wp2_with fail
                go_roundw
                case rel => exact ⟨q + 1, by omega, by go_num, HST.out, HB5.out⟩
                case measure => simp [intOf]; omega
              · have heb : (z == maxI pu pv) = false := by simpa using he
                have HK := Lib.hid (mix_keep f u0 v0 q k (by rw [← HZ.out, ← maxI_is, ← HPU.out, ← HPV.out]; exact he))
                clear he
                go_wp2_with fail
                go_roundw
                case rel => exact ⟨q + 1, by omega, by go_num, by rw [← HK.out]; exact HO4.out, HB4.out⟩
                case measure => simp [intOf]; omega
            · obtain rfl : q = k := by omega
              have HO5 := Lib.hid (show OwnI wr w.heap.size (.slice (some ⟨gg, 0, none⟩) q cc) (labL (partsF xs es (i + 1)) q) by rw [HP.out, labL_ext (f := relab f u0 v0) (f' := mixF f u0 v0 q) (fun a ha => by unfold mixF; rw [if_pos ha])]; exact HO4.out)
              go_wp2_with fail
              go_roundw
              case rel => exact ⟨i + 1, by omega, by go_num, HO5.out, HB4.out⟩
              case measure => simp [intOf]; omega
        · obtain rfl : i = m := by omega
          go_wp2_with fail
          go_ret
          exact ⟨gg, cc, by show Ending.returned (.slice (some ⟨gg, 0, none⟩) k cc) = _; rw [labL_len], by rw [labL_len]; exact HO2.out, HB2.out⟩
end Go.Proofs.Ytgiokjflfadeeaa
