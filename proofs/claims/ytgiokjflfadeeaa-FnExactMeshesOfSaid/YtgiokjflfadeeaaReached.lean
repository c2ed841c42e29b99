/-
  The contract of the program's reached: the class of a junction over some airways.
-/
import Derived.Test.YtgiokjflfadeeaaReach
namespace Go.Proofs.Ytgiokjflfadeeaa
open Go.RowKit
set_option linter.unusedVariables false

def othV (x : AW) (q : Int) : Int := if q = x.u then x.v else if q = x.v then x.u else 0
def othB (x : AW) (q : Int) : Bool := (q == x.u) || (q == x.v)
theorem otherV_any (x : AW) (q : Int) (w : World) :
    Calls Try.prog 60 #[x.val, .int .i64 q] w fun e w' => e = .returned (.tuple #[.int .i64 (othV x q), .bool (othB x q)]) ∧ Below w.heap.size w w' := by
  unfold AW.val othV othB
  by_cases h1 : q = x.u
  · have h1b : (q == x.u) = true := by simpa using h1
    rw [if_pos h1, h1b]
    clear h1
    go_enter Try.func60, Try.ntmps60
    go_wp2_with fail
    go_ret2
    exact ⟨rfl, by ((repeat (first | with_reducible exact Below.refl _ _ | with_reducible apply below_drewN | with_reducible apply Below.drew | (with_reducible refine Below.alloc ?_ ?_ _) | (with_reducible refine Below.setCell ?_ ?_ _) | (with_reducible refine Below.trans ?_ (hb4.mono ?_)) | (with_reducible refine Below.trans ?_ (hb3.mono ?_)) | (with_reducible refine Below.trans ?_ (hb2.mono ?_)))); all_goals (first | (simp <;> omega) | (have h2s := hb2.size; (try simp at h2s); (try simp); omega) | (have h2s := hb2.size; have h3s := hb3.size; (try simp at h2s); (try simp at h3s); (try simp); omega) | (have h2s := hb2.size; have h3s := hb3.size; have h4s := hb4.size; (try simp at h2s); (try simp at h3s); (try simp at h4s); (try simp); omega)))⟩
  · have h1b : (q == x.u) = false := by simpa using h1
    rw [if_neg h1, h1b]
    by_cases h2 : q = x.v
    · have h2b : (q == x.v) = true := by simpa using h2
      rw [if_pos h2, h2b]
      clear h1 h2
      go_enter Try.func60, Try.ntmps60
      go_wp2_with fail
      go_ret2
      exact ⟨rfl, by ((repeat (first | with_reducible exact Below.refl _ _ | with_reducible apply below_drewN | with_reducible apply Below.drew | (with_reducible refine Below.alloc ?_ ?_ _) | (with_reducible refine Below.setCell ?_ ?_ _) | (with_reducible refine Below.trans ?_ (hb4.mono ?_)) | (with_reducible refine Below.trans ?_ (hb3.mono ?_)) | (with_reducible refine Below.trans ?_ (hb2.mono ?_)))); all_goals (first | (simp <;> omega) | (have h2s := hb2.size; (try simp at h2s); (try simp); omega) | (have h2s := hb2.size; have h3s := hb3.size; (try simp at h2s); (try simp at h3s); (try simp); omega) | (have h2s := hb2.size; have h3s := hb3.size; have h4s := hb4.size; (try simp at h2s); (try simp at h3s); (try simp at h4s); (try simp); omega)))⟩
    · have h2b : (q == x.v) = false := by simpa using h2
      rw [if_neg h2, h2b]
      clear h1 h2
      go_enter Try.func60, Try.ntmps60
      go_wp2_with fail
      go_ret2
      exact ⟨rfl, by ((repeat (first | with_reducible exact Below.refl _ _ | with_reducible apply below_drewN | with_reducible apply Below.drew | (with_reducible refine Below.alloc ?_ ?_ _) | (with_reducible refine Below.setCell ?_ ?_ _) | (with_reducible refine Below.trans ?_ (hb4.mono ?_)) | (with_reducible refine Below.trans ?_ (hb3.mono ?_)) | (with_reducible refine Below.trans ?_ (hb2.mono ?_)))); all_goals (first | (simp <;> omega) | (have h2s := hb2.size; (try simp at h2s); (try simp); omega) | (have h2s := hb2.size; have h3s := hb3.size; (try simp at h2s); (try simp at h3s); (try simp); omega) | (have h2s := hb2.size; have h3s := hb3.size; have h4s := hb4.size; (try simp at h2s); (try simp at h3s); (try simp at h4s); (try simp); omega)))⟩
theorem oth_yes {x : AW} {ux vx c0 : Nat} (hu : x.u = ux) (hv : x.v = vx) (h : c0 = ux ∨ c0 = vx) : ∃ nx : Nat, othV x c0 = nx ∧ othB x c0 = true ∧ ((c0 = ux ∧ nx = vx) ∨ (c0 = vx ∧ nx = ux)) := by
  unfold othV othB
  rw [hu, hv]
  by_cases e : c0 = ux
  · subst e; exact ⟨vx, by simp, by simp, .inl ⟨rfl, rfl⟩⟩
  · have e2 : c0 = vx := by omega
    subst e2
    exact ⟨ux, by rw [if_neg (by omega), if_pos rfl], by simp, .inr ⟨rfl, rfl⟩⟩
theorem oth_no {x : AW} {ux vx c0 : Nat} (hu : x.u = ux) (hv : x.v = vx) (h : ¬ (c0 = ux ∨ c0 = vx)) : othB x c0 = false := by
  unfold othB
  rw [hu, hv]
  have e1 : ((c0 : Int) == (ux : Int)) = false := by simp; omega
  have e2 : ((c0 : Int) == (vx : Int)) = false := by simp; omega
  rw [e1, e2]; rfl
theorem OwnI.lit1 (w : World) (B : Nat) (z : Int) (hB : B ≤ w.heap.size) : OwnI (w.alloc (.cells #[.int .i64 z] 2)) B (.slice (some ⟨w.heap.size, 0, none⟩) 1 1) [z] :=
  World.ownsRow_lit w #[.int .i64 z] 1 hB (by simp [maxLen]) (by simp)
theorem r_next {w w1 : World} {x : AW} {A : Option Addr} {n c g b o gv kk : Nat} {q : Int} (hb : Below w.heap.size w w1) (hS : w.cell? ⟨g, 1, none⟩ = some (.slice A n c) ∧ w.cell? ⟨b, o, none⟩ = some (.string x.a) ∧ w.cell? ⟨b, o + 1, none⟩ = some (.int .i64 x.u) ∧ w.cell? ⟨b, o + 2, none⟩ = some (.int .i64 x.v) ∧ w.cell? ⟨b, o + 3, none⟩ = some (.int .i64 x.l) ∧ w.cell? ⟨b, o + 4, none⟩ = some (.int .i64 x.s) ∧ w.cell? ⟨b, o + 5, none⟩ = some (.int .i64 x.f) ∧ w.cell? ⟨b, o + 6, none⟩ = some (.int .i64 x.k) ∧ w.cell? ⟨gv, kk, none⟩ = some (.int .i64 q)) : w1.cell? ⟨g, 1, none⟩ = some (.slice A n c) ∧ w1.cell? ⟨b, o, none⟩ = some (.string x.a) ∧ w1.cell? ⟨b, o + 1, none⟩ = some (.int .i64 x.u) ∧ w1.cell? ⟨b, o + 2, none⟩ = some (.int .i64 x.v) ∧ w1.cell? ⟨b, o + 3, none⟩ = some (.int .i64 x.l) ∧ w1.cell? ⟨b, o + 4, none⟩ = some (.int .i64 x.s) ∧ w1.cell? ⟨b, o + 5, none⟩ = some (.int .i64 x.f) ∧ w1.cell? ⟨b, o + 6, none⟩ = some (.int .i64 x.k) ∧ w1.cell? ⟨gv, kk, none⟩ = some (.int .i64 q) := by
  obtain ⟨m1, x0, x1, x2, x3, x4, x5, x6, q⟩ := hS
  have f : ∀ {a : Addr} {v : Value}, w.cell? a = some v → w1.cell? a = some v := fun {a v} h => (hb.cell (World.block_lt_of_cell? w a h)).trans h
  exact ⟨f m1, f x0, f x1, f x2, f x3, f x4, f x5, f x6, f q⟩
def ReachPost (xs : List AW) (es : List Int) (m J u : Nat) (w : World) (e : Ending) (w' : World) : Prop :=
  ∃ v rs, e = .returned v ∧ OwnI w' w.heap.size v rs ∧ Below w.heap.size w w' ∧ Grow xs es m J u rs rs.length 0

set_option maxHeartbeats 2000000 in
set_option maxRecDepth 100000 in
theorem reached_any (J : Nat) (A : Option Addr) (c : Nat) (xs : List AW) (n : Nat) (u0 : Nat) (E : Option Addr) (ce : Nat) (es : List Int) (m : Nat) (w : World) (hn : xs.length = n) (h20 : n ≤ 1048576) (hJ : J ≤ 16) (hu0 : u0 < J)
    (hends : ∀ k, k < n → (0 ≤ (atA xs k).u ∧ (atA xs k).u < J) ∧ (0 ≤ (atA xs k).v ∧ (atA xs k).v < J) ∧ (atA xs k).u ≠ (atA xs k).v) (hm : es.length = m) (hm20 : m ≤ 1048576) (hes : ∀ k, k < m → 0 ≤ atI es k ∧ atI es k < n)
    (hx : Airs w A xs) (he : Ints w w.heap.size E es) :
    Calls Try.prog 73 #[.agg #[.int .i64 (J : Int), .slice A n c], .int .i64 (u0 : Int), .slice E m ce] w (ReachPost xs es m J u0 w) := by
  have b0 : Below w.heap.size w (w.alloc (.cells #[.int .i64 (J : Int), .slice A n c] 28)) := (Below.refl _ _).alloc (Nat.le_refl _) _
  have HX := Lib.hid (hx.next b0)
  have HE := Lib.hid (he.next b0)
  have HN := Lib.hid hn
  have HM := Lib.hid hm
  have HEN := Lib.hid hends
  have HES := Lib.hid hes
  have HB0 := Lib.hid b0
  have H0 := Lib.hid (OwnI.lit1 (w.alloc (.cells #[.int .i64 (J : Int), .slice A n c] 28)) (w.alloc (.cells #[.int .i64 (J : Int), .slice A n c] 28)).heap.size (u0 : Int) (Nat.le_refl _))
  obtain ⟨W0, hW0⟩ : ∃ W0, W0 = w.alloc (.cells #[.int .i64 (J : Int), .slice A n c] 28) := ⟨_, rfl⟩
  have M1 := Lib.hid (show W0.cell? ⟨w.heap.size, 1, none⟩ = some (.slice A n c) by rw [hW0]; simp [go_sem])
  have HW := Lib.hid hW0
  rw [← hW0] at HX HE HB0 H0
  clear hx he hn hm hends hes b0 hW0
  go_enter Try.func73, Try.ntmps73
  go_wp2_with fail
  go_loopw [7, 8] (fun v t wr => ∃ (k : Nat) (rs : List Int), t = .int .i64 (k : Int) ∧ k ≤ rs.length ∧ OwnI wr W0.heap.size v rs ∧ Grow xs es m J u0 rs k 0 ∧ Below W0.heap.size W0 wr) (fun _ t _ => J - (intOf t).toNat)
  case atStart => exact ⟨0, [(u0 : Int)], rfl, by simp, by have := H0.out; rw [HW.out] at this ⊢; simpa using this, Grow.start xs es m J u0 hu0, by rw [HW.out]; exact (Below.refl _ _).alloc (Nat.le_refl _) _⟩
  case round =>
    obtain ⟨k, rs, rfl, hk, ho, hg, hb⟩ := hrel
    have hlen := hg.len
    have HO := Lib.hid ho
    have HG := Lib.hid hg
    have HB := Lib.hid hb
    clear ho hg hb
    obtain ⟨A7, c7, ev, _⟩ := HO.out.reads
    obtain ⟨L, hL⟩ : ∃ L, L = rs.length := ⟨_, rfl⟩
    rw [← hL] at hk hlen ev
    subst ev
    have HL := Lib.hid hL
    clear hL
    by_cases hlt : k < L
    · have hki : (k : Int) < L := by omega
      go_wp2_with fail
      go_loopw [7, 23] (fun v t wr => ∃ (i : Nat) (rs' : List Int), i ≤ m ∧ t = .int .i64 (i : Int) ∧ k < rs'.length ∧ OwnI wr W0.heap.size v rs' ∧ Grow xs es m J u0 rs' k i ∧ Below W0.heap.size W0 wr) (fun _ t _ => m - (intOf t).toNat)
      case atStart => exact ⟨0, rs, by omega, rfl, by have := HL.out; omega, HO.out, HG.out, HB.out⟩
      case round =>
        obtain ⟨i, rs', hi, rfl, hk', ho, hg, hb⟩ := hrel
        have HO' := Lib.hid ho
        have HG' := Lib.hid hg
        have HB' := Lib.hid hb
        have hlen' := hg.len
        clear ho hg hb
        obtain ⟨gv, c8, _, ev, _, _, _, _, _⟩ := HO'.out.block (by omega)
        obtain ⟨L', hL'⟩ : ∃ L', L' = rs'.length := ⟨_, rfl⟩
        rw [← hL'] at hk' hlen' ev
        subst ev
        have HL' := Lib.hid hL'
        clear hL'
        by_cases hlt2 : i < m
        · have hes := HES.out i hlt2
          obtain ⟨i0, hi0⟩ := Int.eq_ofNat_of_zero_le hes.1
          have hi0n : i0 < n := by omega
          have hi0i : (i0 : Int) < n := by omega
          have hii : (i : Int) < m := by omega
          have hki2 : (k : Int) < L' := by omega
          obtain ⟨be, offe, rfl, _, hce⟩ := (HE.out.next HB'.out).at_ (k := i) (by rw [HM.out]; exact hlt2)
          rw [hi0] at hce
          obtain ⟨b, off, rfl, _, hc⟩ := (HX.out.next HB'.out).at_ (k := i0) (by rw [HN.out]; exact hi0n)
          obtain ⟨⟨hu1, hu2⟩, ⟨hv1, hv2⟩, hne⟩ := HEN.out i0 hi0n
          obtain ⟨x, hxe⟩ : ∃ x, x = atA xs i0 := ⟨_, rfl⟩
          rw [← hxe] at hc hu1 hu2 hv1 hv2 hne
          obtain ⟨d0, d1, d2, d3, d4, d5, d6⟩ := hc
          obtain ⟨ux, hux⟩ := Int.eq_ofNat_of_zero_le hu1
          obtain ⟨vx, hvx⟩ := Int.eq_ofNat_of_zero_le hv1
          have hU : edgeU xs es i = ux := by unfold edgeU; rw [hi0, Int.toNat_natCast, ← hxe, hux, Int.toNat_natCast]
          have hV : edgeV xs es i = vx := by unfold edgeV; rw [hi0, Int.toNat_natCast, ← hxe, hvx, Int.toNat_natCast]
          obtain ⟨c0, hc0, _, _⟩ := HG'.out.sub (atI rs' k) (by rw [atI_is rs' k (by have := HL'.out; omega)]; exact List.getElem_mem _)
          obtain ⟨gw, ow, ew, _, hcq⟩ := HO'.out.ints.2.at_ (k := k) (by have := HL'.out; omega)
          injection ew with ew; injection ew with ew1 ew2
          subst ew1 ew2
          rw [hc0, Nat.zero_add] at hcq
          have mb : wr.cell? ⟨w.heap.size, 1, none⟩ = some (.slice (some ⟨b, off, none⟩) n c) := (HB'.out.cell (World.block_lt_of_cell? W0 _ M1.out)).trans M1.out
          have HF := Lib.hid (show _ ∧ _ ∧ _ ∧ _ ∧ _ ∧ _ ∧ _ ∧ _ ∧ _ from ⟨mb, d0, d1, d2, d3, d4, d5, d6, hcq⟩)
          have HC0 := Lib.hid hc0
          have HUV := Lib.hid (show edgeU xs es i = ux ∧ edgeV xs es i = vx ∧ ux ≠ vx ∧ ux < J ∧ vx < J from ⟨hU, hV, by rintro rfl; exact hne (by rw [hux, hvx]), by omega, by omega⟩)
          have HXU := Lib.hid (show x.u = (ux : Int) ∧ x.v = (vx : Int) from ⟨hux, hvx⟩)
          clear hU hV hux hvx hu1 hu2 hv1 hv2 hne hc0 hxe hes hi0
          go_wp2_with fail
          go_region_held3 (fun w' => w'.cell? ⟨w.heap.size, 1, none⟩ = some (.slice (some ⟨b, off, none⟩) n c) ∧ w'.cell? ⟨b, off + i0 * 7, none⟩ = some (.string x.a) ∧ w'.cell? ⟨b, off + i0 * 7 + 1, none⟩ = some (.int .i64 x.u) ∧ w'.cell? ⟨b, off + i0 * 7 + 2, none⟩ = some (.int .i64 x.v) ∧ w'.cell? ⟨b, off + i0 * 7 + 3, none⟩ = some (.int .i64 x.l) ∧ w'.cell? ⟨b, off + i0 * 7 + 4, none⟩ = some (.int .i64 x.s) ∧ w'.cell? ⟨b, off + i0 * 7 + 5, none⟩ = some (.int .i64 x.f) ∧ w'.cell? ⟨b, off + i0 * 7 + 6, none⟩ = some (.int .i64 x.k) ∧ w'.cell? ⟨gv, k, none⟩ = some (.int .i64 (c0 : Int))) (first | exact HF.out | exact r_next bo HF.out) ((go_at_call 60; refine (otherV_any x (c0 : Int) _).mono ?_; rintro e w1 ⟨rfl, bo⟩))
          have HB5 := Lib.hid (show Below W0.heap.size W0 w1 from stepB HB'.out (by first | exact below_undrew bo | exact bo))
          have HO5 := Lib.hid (show OwnI w1 W0.heap.size (.slice (some ⟨gv, 0, none⟩) L' c8) rs' from HO'.out.below (by first | exact below_undrew bo | exact bo))
          clear bo
          by_cases hinc : c0 = ux ∨ c0 = vx
          · obtain ⟨nx, e1, e2, hh⟩ := oth_yes HXU.out.1 HXU.out.2 hinc
            have HH := Lib.hid hh
            have hG := HG'.out.edge (c0 := c0) (nx := nx) (t := i) (by have := HL'.out; omega) hlt2 HC0.out (by obtain ⟨h1, h2, _⟩ := HUV.out; rw [h1, h2]; exact hh) (by obtain ⟨h1, h2, h3, _⟩ := HUV.out; rw [h1, h2]; exact h3) (by obtain ⟨_, _, _, h4, h5⟩ := HUV.out; omega)
            have HGE := Lib.hid hG
            clear hG hh hinc
            rw [e1, e2]
            clear e1 e2
            by_cases hin : (nx : Int) ∈ rs'
            · have hin2 := (hasI_mem rs' (nx : Int)).2 hin
              have HI2 := Lib.hid hin2
              have HG2 := Lib.hid (HGE.out.1 hin)
              clear hin hin2
              go_wp2_with fail
              refine (containsI_any _ _ rs' _ (nx : Int) _ HL'.out.symm (by omega) HO5.out.ints.2 true HI2.out).mono ?_; rintro e w2 ⟨rfl, rfl⟩
              go_wp2_with fail
              go_roundw
              case rel => exact ⟨i + 1, rs', by omega, by go_num, by have := HL'.out; omega, by have := HL'.out; exact HO5.out, HG2.out, HB5.out⟩
              case measure => simp [intOf]; omega
            · have hin2 : hasI rs' (nx : Int) = false := by
                cases hq : hasI rs' (nx : Int) with
                | true => exact absurd ((hasI_mem rs' (nx : Int)).1 hq) hin
                | false => rfl
              have HI2 := Lib.hid hin2
              have HG2 := Lib.hid (HGE.out.2 hin)
              clear hin hin2
              go_wp2_with fail
              refine (containsI_any _ _ rs' _ (nx : Int) _ HL'.out.symm (by omega) HO5.out.ints.2 false HI2.out).mono ?_; rintro e w2 ⟨rfl, rfl⟩
              go_wp2_with (at_builtin; refine push_law rfl (.tmp 47) (.tmp 49) rfl _ W0.heap.size _ rs' (nx : Int) rfl HO5.out rfl (by have := HL'.out; omega) HB5.out.size ?_; intro v' w4 ho4 hg4 hl4; have HO6 := Lib.hid ho4; have HB6 := Lib.hid (below_grown (HB5.out.alloc HB5.out.size _) hg4 (fun g e => (HO5.out.lt e).1) (by have := HB5.out.size; simp; omega)); clear ho4 hg4 hl4)
              go_roundw
              case rel => exact ⟨i + 1, _, by omega, by go_num, by have := HL'.out; simp; omega, HO6.out, HG2.out, HB6.out⟩
              case measure => simp [intOf]; omega
          · have e2 := oth_no HXU.out.1 HXU.out.2 hinc
            have HG2 := Lib.hid (HG'.out.skip (t := i) HC0.out (by have := HUV.out; omega) (by have := HUV.out; omega))
            rw [e2]
            clear e2 hinc
            go_wp2_with fail
            go_roundw
            case rel => exact ⟨i + 1, rs', by omega, by go_num, by have := HL'.out; omega, HO5.out, HG2.out, HB5.out⟩
            case measure => simp [intOf]; omega
        · obtain rfl : i = m := by omega
          go_wp2_with fail
          go_roundw
          case rel => exact ⟨k + 1, rs', by go_num, by have := HL'.out; omega, HO'.out, HG'.out.up, HB'.out⟩
          case measure => simp [intOf]; omega
    · have hkL : k = L := by omega
      have HK := Lib.hid hkL
      have hki : ¬ (k : Int) < L := by omega
      clear hkL
      go_wp2_with fail
      go_ret
      exact ⟨_, rs, rfl, HO.out.mono HB0.out.size, stepB HB0.out HB.out, by have := HG.out; rw [HK.out, HL.out] at this; exact this⟩
end Go.Proofs.Ytgiokjflfadeeaa
