/-
  The contract of the program's meshes: the list of lists that it makes is the plain one.
-/
import Derived.Test.YtgiokjflfadeeaaMeshT
import Derived.Test.YtgiokjflfadeeaaPathP
namespace Go.Proofs.Ytgiokjflfadeeaa
open Go.RowKit
set_option linter.unusedVariables false

set_option maxHeartbeats 4000000 in
set_option maxRecDepth 100000 in
theorem meshes_any (J : Nat) (A : Option Addr) (c : Nat) (xs : List AW) (n : Nat) (w : World) (hn : xs.length = n) (h24 : n ≤ 24) (hJ : 1 ≤ J ∧ J ≤ 16)
    (hends : ∀ k, k < n → (0 ≤ (atA xs k).u ∧ (atA xs k).u < J) ∧ (0 ≤ (atA xs k).v ∧ (atA xs k).v < J) ∧ (atA xs k).u ≠ (atA xs k).v)
    (hx : Airs w A xs) :
    Calls Try.prog 46 #[.agg #[.int .i64 (J : Int), .slice A n c]] w (OneLLPost (meshT xs J (treeT xs n) n) w) := by
  have b0 : Below w.heap.size w (w.alloc (.cells #[.int .i64 (J : Int), .slice A n c] 28)) := (Below.refl _ _).alloc (Nat.le_refl _) _
  have HX := Lib.hid (hx.next b0)
  have HN := Lib.hid hn
  have HEN := Lib.hid hends
  have HB0 := Lib.hid b0
  obtain ⟨W0, hW0⟩ : ∃ W0, W0 = w.alloc (.cells #[.int .i64 (J : Int), .slice A n c] 28) := ⟨_, rfl⟩
  have M0 := Lib.hid (show W0.cell? ⟨w.heap.size, 0, none⟩ = some (.int .i64 (J : Int)) by rw [hW0]; simp [go_sem])
  have M1 := Lib.hid (show W0.cell? ⟨w.heap.size, 1, none⟩ = some (.slice A n c) by rw [hW0]; simp [go_sem])
  have HW := Lib.hid hW0
  have h20 : n ≤ 1048576 := by omega
  rw [← hW0] at HX HB0
  clear hx hn hends b0 hW0
  have m0 := M0.out
  have m1 := M1.out
  go_enter Try.func46, Try.ntmps46
  go_wp2_with fail
  rw [← HW.out]
  refine (tree_any J A c xs n _ HN.out h20 (by omega) HEN.out HX.out).mono ?_; rintro e W1 ⟨v1, rfl, ho1, b1⟩
  obtain ⟨E, ce, ev1, hE1⟩ := ho1.reads
  subst ev1
  obtain ⟨n0, n1⟩ := two_next' b1 ⟨m0, m1⟩
  have N0 := Lib.hid n0
  have N1 := Lib.hid n1
  have HX1 := Lib.hid (HX.out.next b1)
  have HE := Lib.hid hE1
  have HB1 := Lib.hid (stepB HB0.out b1)
  have hlen := treeT_len xs n
  have HBD := Lib.hid (treeT_bd xs n n (Nat.le_refl _))
  clear ho1 b1 hE1 m0 m1
  generalize htr : treeT xs n = tr at HE HBD hlen ⊢
  obtain ⟨m, hm⟩ : ∃ m, tr.length = m := ⟨_, rfl⟩
  have HM := Lib.hid hm
  have HTR := Lib.hid htr
  rw [hm] at HBD hlen ⊢
  clear htr hm
  go_wp2_with fail
  go_loopw [4, 14] (fun v t wr => ∃ k : Nat, k ≤ n ∧ t = .int .i64 (k : Int) ∧ OwnLL wr W1.heap.size v (meshT xs J tr k) ∧ Below W1.heap.size W1 wr) (fun _ t _ => n - (intOf t).toNat)
  case atStart => exact ⟨0, Nat.zero_le _, rfl, OwnLL.nil _ _, Below.refl _ _⟩
  case round =>
    obtain ⟨k, hk, rfl, ho, hb⟩ := hrel
    have HO := Lib.hid ho
    have HB := Lib.hid hb
    clear ho hb
    have hlk := meshT_len xs J tr k
    by_cases hlt : k < n
    · have m0 : wr.cell? ⟨w.heap.size, 0, none⟩ = some (.int .i64 (J : Int)) := (HB.out.cell (World.block_lt_of_cell? W1 _ N0.out)).trans N0.out
      have m1 : wr.cell? ⟨w.heap.size, 1, none⟩ = some (.slice A n c) := (HB.out.cell (World.block_lt_of_cell? W1 _ N1.out)).trans N1.out
      have hAX := HX1.out.next HB.out
      have hE := HE.out.next HB.out
      obtain ⟨b, off, rfl, hb', hc⟩ := hAX.at_ (k := k) (by have := HN.out; omega)
      have hki : (k : Int) < n := by omega
      obtain ⟨⟨hu1, hu2⟩, ⟨hv1, hv2⟩, hne⟩ := HEN.out k hlt
      obtain ⟨ux, hux⟩ := Int.eq_ofNat_of_zero_le hu1
      obtain ⟨vx, hvx⟩ := Int.eq_ofNat_of_zero_le hv1
      have HUV := Lib.hid (show (atA xs k).u = ux ∧ (atA xs k).v = vx ∧ ux < J ∧ vx < J from ⟨hux, hvx, by omega, by omega⟩)
      have HRG := Lib.hid (show ringL xs J tr k = ((k : Int) + 1) :: walkF xs tr m J ux vx by unfold ringL; rw [hux, hvx, HM.out, Int.toNat_natCast, Int.toNat_natCast])
      obtain ⟨c0, c1, c2, c3, c4, c5, c6⟩ := hc
      rw [hux] at c1
      rw [hvx] at c2
      generalize atA xs k = x at c0 c3 c4 c5 c6
      have bA : Below wr.heap.size wr (wr.alloc (.cells #[.string x.a, .int .i64 (ux : Int), .int .i64 (vx : Int), .int .i64 x.l, .int .i64 x.s, .int .i64 x.f, .int .i64 x.k] 51)) := (Below.refl _ _).alloc (Nat.le_refl _) _
      have hf : _ ∧ _ ∧ _ ∧ _ := ⟨(bA.cell (World.block_lt_of_cell? wr _ m0)).trans m0, (bA.cell (World.block_lt_of_cell? wr _ m1)).trans m1, (show (wr.alloc (.cells #[.string x.a, .int .i64 (ux : Int), .int .i64 (vx : Int), .int .i64 x.l, .int .i64 x.s, .int .i64 x.f, .int .i64 x.k] 51)).cell? ⟨wr.heap.size, 1, none⟩ = some (.int .i64 (ux : Int)) by simp [go_sem]), (show (wr.alloc (.cells #[.string x.a, .int .i64 (ux : Int), .int .i64 (vx : Int), .int .i64 x.l, .int .i64 x.s, .int .i64 x.f, .int .i64 x.k] 51)).cell? ⟨wr.heap.size, 2, none⟩ = some (.int .i64 (vx : Int)) by simp [go_sem])⟩
      have HXA := Lib.hid (hAX.next bA)
      have HEA := Lib.hid (hE.next bA)
      have BA := Lib.hid bA
      have HF := Lib.hid hf
      clear hux hvx hu1 hu2 hv1 hv2 hne hAX hE bA m0 m1 hf
      go_wp2_with fail
      clear c0 c1 c2 c3 c4 c5 c6
      obtain ⟨WA, hWA⟩ : ∃ WA, WA = wr.alloc (.cells #[.string x.a, .int .i64 (ux : Int), .int .i64 (vx : Int), .int .i64 x.l, .int .i64 x.s, .int .i64 x.f, .int .i64 x.k] 51) := ⟨_, rfl⟩
      rw [← hWA] at HXA HEA BA HF ⊢
      clear hWA
      by_cases hh : hasI tr (k : Int) = true
      · have HH := Lib.hid hh
        clear hh
        refine (containsI_any _ _ tr m (k : Int) _ HM.out (by omega) HEA.out true HH.out).mono ?_; rintro e w2 ⟨rfl, rfl⟩
        go_wp2_with fail
        go_roundw
        case rel => exact ⟨k + 1, by omega, by go_num, by rw [meshT_yes HH.out]; exact HO.out.below BA.out, stepB HB.out BA.out⟩
        case measure => simp [intOf]; omega
      · simp only [Bool.not_eq_true] at hh
        have HH := Lib.hid hh
        clear hh
        refine (containsI_any _ _ tr m (k : Int) _ HM.out (by omega) HEA.out false HH.out).mono ?_; rintro e w2 ⟨rfl, rfl⟩
        obtain ⟨f0, f1, f2, f3⟩ := HF.out
        go_wp2_with fail
        refine (path_any J _ c xs n E ce tr m vx ux _ HN.out h20 hJ HEN.out HM.out (by omega) HBD.out HUV.out.2.2.2 HUV.out.2.2.1 HXA.out HEA.out).mono ?_; rintro e w3 ⟨v3, rfl, ho3, b3⟩
        have hwl := walkF_len (to := ux) (edges_all HEN.out HBD.out) (fr := vx) HUV.out.2.2.2
        generalize hbs : walkF xs tr m J ux vx = bs at HRG ho3 hwl
        generalize okF xs tr m J ux vx = okb
        obtain ⟨A3, c3, ev3, _⟩ := ho3.reads
        subst ev3
        obtain ⟨L3, hL3⟩ : ∃ L, bs.length = L := ⟨_, rfl⟩
        have HO3 := Lib.hid ho3
        have HL3 := Lib.hid hL3
        rw [hL3] at HO3 hwl ⊢
        have B3 := Lib.hid (stepB BA.out b3)
        clear ho3 b3 f0 f1 f2 f3 hbs hL3
        have hBw : W1.heap.size ≤ wr.heap.size := HB.out.size
        have HBW := Lib.hid hBw
        clear hBw
        go_wp2_with (first
          | (at_builtin; refine app_law rfl (.tmp 36) (.tmp 37) rfl w3 WA.heap.size ((k : Int) + 1) A3 c3 L3 bs rfl rfl HL3.out HO3.out (by omega) ?_; intro g4 c4 w4 ho4 b4; generalize hls : ((k : Int) + 1) :: bs = ls at ho4 ⊢; have HLS := Lib.hid hls; have HPOS := Lib.hid (show 0 < ls.length by rw [← hls]; simp); have B4 := Lib.hid (stepB B3.out b4); have HO4 := Lib.hid ho4; have HG4 := Lib.hid (show wr.heap.size ≤ g4 from Nat.le_trans B3.out.size (ho4.lt rfl).1); clear ho4 b4 hls)
          | (at_builtin; refine pushLL_law rfl (.tmp 33) (.tmp 39) rfl w4 wr W1.heap.size _ (meshT xs J tr k) ls g4 c4 rfl HO.out B4.out HG4.out (HO4.out.mono (Nat.le_trans HBW.out B3.out.size)) HPOS.out rfl (by omega) (Nat.le_trans HBW.out B4.out.size) ?_; intro v5 w5 hp5; have HP5 := Lib.hid hp5; clear hp5))
        have HBW4 := Lib.hid (stepB HB.out (B4.out.alloc B4.out.size (.cells #[.slice (some ⟨g4, 0, none⟩) ls.length c4] 35)))
        have HB5 := Lib.hid (show Below W1.heap.size W1 w5 by
          obtain ⟨row, hg, hr⟩ := HP5.out.2
          exact below_grown HBW4.out hg hr HBW4.out.size)
        go_roundw
        case rel => exact ⟨k + 1, by omega, by go_num, by rw [meshT_no HH.out, HRG.out, HLS.out]; exact HP5.out.1, HB5.out⟩
        case measure => simp [intOf]; omega
    · obtain rfl : k = n := by omega
      go_wp2_with fail
      go_ret
      exact ⟨_, rfl, by rw [HTR.out]; exact HO.out.mono HB1.out.size, stepB HB1.out HB.out⟩
end Go.Proofs.Ytgiokjflfadeeaa
