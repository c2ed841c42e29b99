/-
  The contract of the reference's l04Meshes: the list of lists that it makes is the plain one.
-/
import Derived.Test.YtgiokjflfadeeaaMeshT
import Derived.Test.YtgiokjflfadeeaaWalkS
namespace Go.Proofs.Ytgiokjflfadeeaa
open Go.RowKit
set_option linter.unusedVariables false

theorem l00Has_any (A : Option Addr) (c : Nat) (xs : List Int) (n : Nat) (z : Int) (w : World) (hn : xs.length = n) (h40 : n ≤ 1099511627776) (hx : Ints w w.heap.size A xs) (q : Bool) (hq : hasI xs z = q) :
    Calls Try.prog 63 #[.slice A n c, .int .i64 z] w fun e w' => e = .returned (.bool q) ∧ w = w' := by
  subst hq
  have HX := Lib.hid hx
  have HN := Lib.hid hn
  clear hx hn
  go_enter Try.func63, Try.ntmps63
  go_wp2_with fail
  go_loopw [5] (fun t wr => ∃ k : Nat, k ≤ n ∧ t = .int .i64 (k : Int) ∧ hasI (xs.take k) z = false ∧ w = wr) (fun t _ => n - (intOf t).toNat)
  case atStart => exact ⟨0, Nat.zero_le _, rfl, rfl, rfl⟩
  case round =>
    obtain ⟨k, hk, rfl, hall, rfl⟩ := hrel
    have HA := Lib.hid hall
    clear hall
    by_cases hlt : k < n
    · obtain ⟨b, off, rfl, hb, hc⟩ := HX.out.at_ (k := k) (by have := HN.out; omega)
      by_cases he : atI xs k = z
      · have heb : (z == atI xs k) = true := by simpa using he.symm
        have HE := Lib.hid heb
        have hki : (k : Int) < n := by omega
        go_wp2_with fail
        go_ret
        exact ⟨by rw [hasI_yes xs z k (by have := HN.out; omega) HE.out]; rfl, rfl⟩
      · have heb : (z == atI xs k) = false := by simpa using fun e => he e.symm
        have HE := Lib.hid heb
        have hki : (k : Int) < n := by omega
        go_wp2_with fail
        go_roundw
        case rel => exact ⟨k + 1, by omega, by go_num, by rw [hasI_take xs z k (by have := HN.out; omega), HA.out, HE.out]; rfl, by first | exact rfl | trivial⟩
        case measure => simp [intOf]; omega
    · obtain rfl : k = n := by omega
      go_wp2_with fail
      go_ret
      exact ⟨by have := HA.out; rw [List.take_of_length_le (by have := HN.out; omega)] at this; rw [this]; rfl, rfl⟩

theorem four_next {w w1 : World} {a0 a1 a2 a3 : Addr} {v0 v1 v2 v3 : Value} (hb : Below w.heap.size w w1) (hS : w.cell? a0 = some v0 ∧ w.cell? a1 = some v1 ∧ w.cell? a2 = some v2 ∧ w.cell? a3 = some v3) : w1.cell? a0 = some v0 ∧ w1.cell? a1 = some v1 ∧ w1.cell? a2 = some v2 ∧ w1.cell? a3 = some v3 := by
  obtain ⟨a0, a1, a2, a3⟩ := hS
  have f : ∀ {a : Addr} {v : Value}, w.cell? a = some v → w1.cell? a = some v := fun {a v} h => (hb.cell (World.block_lt_of_cell? w a h)).trans h
  exact ⟨f a0, f a1, f a2, f a3⟩
set_option maxHeartbeats 4000000 in
set_option maxRecDepth 100000 in
theorem l04Meshes_any (g J : Nat) (A : Option Addr) (c : Nat) (xs : List AW) (n : Nat) (w : World) (hn : xs.length = n) (h24 : n ≤ 24) (hJ : 1 ≤ J ∧ J ≤ 16)
    (hends : ∀ k, k < n → (0 ≤ (atA xs k).u ∧ (atA xs k).u < J) ∧ (0 ≤ (atA xs k).v ∧ (atA xs k).v < J) ∧ (atA xs k).u ≠ (atA xs k).v)
    (hx : Airs w A xs) (m0 : w.cell? ⟨g, 0, none⟩ = some (.int .i64 (J : Int))) (m1 : w.cell? ⟨g, 1, none⟩ = some (.slice A n c)) :
    Calls Try.prog 45 #[.pointer (some ⟨g, 0, none⟩)] w (OneLLPost (meshT xs J (treeT xs n) n) w) := by
  have HX := Lib.hid hx
  have HN := Lib.hid hn
  have HEN := Lib.hid hends
  have M0 := Lib.hid m0
  have M1 := Lib.hid m1
  have h20 : n ≤ 1048576 := by omega
  clear hx hn hends m0 m1
  go_enter Try.func45, Try.ntmps45
  go_wp2_with fail
  refine (l04Tree_any g J A c xs n _ HN.out h20 hJ HEN.out HX.out M0.out M1.out).mono ?_; rintro e W1 ⟨v1, rfl, ho1, b1⟩
  obtain ⟨E, ce, ev1, hE1⟩ := ho1.reads
  subst ev1
  obtain ⟨n0, n1⟩ := two_next' b1 ⟨M0.out, M1.out⟩
  have N0 := Lib.hid n0
  have N1 := Lib.hid n1
  have HX1 := Lib.hid (HX.out.next b1)
  have HE := Lib.hid hE1
  have HB1 := Lib.hid b1
  have hlen := treeT_len xs n
  have HBD := Lib.hid (treeT_bd xs n n (Nat.le_refl _))
  clear ho1 b1 hE1 n0 n1
  generalize htr : treeT xs n = tr at HE HBD hlen ⊢
  obtain ⟨m, hm⟩ : ∃ m, tr.length = m := ⟨_, rfl⟩
  have HM := Lib.hid hm
  have HTR := Lib.hid htr
  rw [hm] at HBD hlen ⊢
  clear htr hm
  go_wp2_with fail
  go_loopw [4, 5] (fun v t wr => ∃ k : Nat, k ≤ n ∧ t = .int .i64 (k : Int) ∧ OwnLL wr W1.heap.size v (meshT xs J tr k) ∧ Below W1.heap.size W1 wr) (fun _ t _ => n - (intOf t).toNat)
  case atStart => exact ⟨0, Nat.zero_le _, rfl, OwnLL.lit _ _ (Nat.le_refl _), (Below.refl _ _).alloc (Nat.le_refl _) _⟩
  case round =>
    obtain ⟨k, hk, rfl, ho, hb⟩ := hrel
    have HO := Lib.hid ho
    have HB := Lib.hid hb
    clear ho hb
    have hlk := meshT_len xs J tr k
    have m1 : wr.cell? ⟨g, 1, none⟩ = some (.slice A n c) := (HB.out.cell (World.block_lt_of_cell? W1 _ N1.out)).trans N1.out
    by_cases hlt : k < n
    · have m0 : wr.cell? ⟨g, 0, none⟩ = some (.int .i64 (J : Int)) := (HB.out.cell (World.block_lt_of_cell? W1 _ N0.out)).trans N0.out
      have HEr := Lib.hid (HE.out.next HB.out)
      have HXr := Lib.hid (HX1.out.next HB.out)
      have hki : (k : Int) < n := by omega
      by_cases hh : hasI tr (k : Int) = true
      · have HH := Lib.hid hh
        clear hh m0
        go_wp2_with fail
        refine (l00Has_any _ _ tr m (k : Int) _ HM.out (by omega) HEr.out true HH.out).mono ?_; rintro e w2 ⟨rfl, rfl⟩
        go_wp2_with fail
        go_roundw
        case rel => exact ⟨k + 1, by omega, by go_num, by rw [meshT_yes HH.out]; exact HO.out, HB.out⟩
        case measure => simp [intOf]; omega
      · simp only [Bool.not_eq_true] at hh
        have HH := Lib.hid hh
        clear hh
        obtain ⟨b, off, rfl, hb', hc⟩ := HXr.out.at_ (k := k) (by have := HN.out; omega)
        obtain ⟨⟨hu1, hu2⟩, ⟨hv1, hv2⟩, hne⟩ := HEN.out k hlt
        obtain ⟨ux, hux⟩ := Int.eq_ofNat_of_zero_le hu1
        obtain ⟨vx, hvx⟩ := Int.eq_ofNat_of_zero_le hv1
        have HUV := Lib.hid (show (atA xs k).u = ux ∧ (atA xs k).v = vx ∧ ux < J ∧ vx < J from ⟨hux, hvx, by omega, by omega⟩)
        have HRG := Lib.hid (show ringL xs J tr k = ((k : Int) + 1) :: walkF xs tr m J ux vx by unfold ringL; rw [hux, hvx, HM.out, Int.toNat_natCast, Int.toNat_natCast])
        obtain ⟨_, c1, c2, _, _, _, _⟩ := hc
        rw [hux] at c1
        rw [hvx] at c2
        have HF := Lib.hid (show _ ∧ _ ∧ _ ∧ _ from ⟨m0, m1, c1, c2⟩)
        clear hux hvx hu1 hu2 hv1 hv2 hne m0
        go_wp2_with fail
        refine (l00Has_any _ _ tr m (k : Int) _ HM.out (by omega) HEr.out false HH.out).mono ?_; rintro e w2 ⟨rfl, rfl⟩
        clear m1 c1 c2
        go_wp2_with fail
        go_region_held3 (fun w' => w'.cell? ⟨g, 0, none⟩ = some (.int .i64 (J : Int)) ∧ w'.cell? ⟨g, 1, none⟩ = some (.slice (some ⟨b, off, none⟩) n c) ∧ w'.cell? ⟨b, off + k * 7 + 1, none⟩ = some (.int .i64 (ux : Int)) ∧ w'.cell? ⟨b, off + k * 7 + 2, none⟩ = some (.int .i64 (vx : Int))) (first | exact HF.out | exact four_next bq HF.out)
          ((go_at_call 40; refine (l04Walk_any g J _ c xs n E ce tr m vx ux _ HN.out h20 hJ HEN.out HM.out (by omega) HBD.out HUV.out.2.2.2 HUV.out.2.2.1 (HXr.out.next (below_drewN (Below.refl _ _) 1)) (intsDrew HEr.out) HF.out.1 HF.out.2.1).mono ?_; rintro e w3 ⟨v3, rfl, ho3, bq⟩))
        have hwl := walkF_len (to := ux) (edges_all HEN.out HBD.out) (fr := vx) HUV.out.2.2.2
        generalize hbs : walkF xs tr m J ux vx = bs at HRG ho3 hwl
        generalize okF xs tr m J ux vx = okb
        obtain ⟨A3, c3, ev3, _⟩ := ho3.reads
        subst ev3
        obtain ⟨L3, hL3⟩ : ∃ L, bs.length = L := ⟨_, rfl⟩
        have HO3 := Lib.hid ho3
        have HL3 := Lib.hid hL3
        rw [hL3] at HO3 hwl ⊢
        have B3 := Lib.hid (below_undrew bq)
        have HBW := Lib.hid HB.out.size
        clear ho3 bq hbs hL3
        go_wp2_with (first
          | (at_builtin; refine app_law rfl (.tmp 48) (.tmp 49) rfl w3 wr.heap.size ((k : Int) + 1) A3 c3 L3 bs rfl rfl HL3.out HO3.out (by omega) ?_; intro g4 c4 w4 ho4 b4; generalize hls : ((k : Int) + 1) :: bs = ls at ho4 ⊢; have HLS := Lib.hid hls; have HPOS := Lib.hid (show 0 < ls.length by rw [← hls]; simp); have B4 := Lib.hid (stepB B3.out b4); have HO4 := Lib.hid ho4; have HG4 := Lib.hid (show wr.heap.size ≤ g4 from Nat.le_trans B3.out.size (ho4.lt rfl).1); clear ho4 b4 hls)
          | (at_builtin; refine pushLL_law rfl (.tmp 45) (.tmp 51) rfl w4 wr W1.heap.size _ (meshT xs J tr k) ls g4 c4 rfl HO.out B4.out HG4.out (HO4.out.mono (Nat.le_trans HBW.out B3.out.size)) HPOS.out rfl (by omega) (Nat.le_trans HBW.out B4.out.size) ?_; intro v5 w5 hp5; have HP5 := Lib.hid hp5; clear hp5))
        have HBW4 := Lib.hid (stepB HB.out (B4.out.alloc B4.out.size (.cells #[.slice (some ⟨g4, 0, none⟩) ls.length c4] 35)))
        have HB5 := Lib.hid (show Below W1.heap.size W1 w5 by
          obtain ⟨row, hg, hr⟩ := HP5.out.2
          exact below_grown HBW4.out hg hr HBW4.out.size)
        go_roundw
        case rel => exact ⟨k + 1, by omega, by go_num, by rw [meshT_no HH.out, HRG.out, HLS.out]; exact HP5.out.1, HB5.out⟩
        case measure => simp [intOf]; omega
    · obtain rfl : k = n := by omega
      go_wp2_with fail
      go_ret
      exact ⟨_, rfl, by rw [HTR.out]; exact HO.out.mono HB1.out.size, stepB HB1.out HB.out⟩
end Go.Proofs.Ytgiokjflfadeeaa
