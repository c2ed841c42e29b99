/-
  The contracts of l04Tree and of both TreeOf.
-/
import Derived.Test.YtgiokjflfadeeaaTree
namespace Go.Proofs.Ytgiokjflfadeeaa
open Go.RowKit
set_option linter.unusedVariables false

set_option maxHeartbeats 2000000 in
set_option maxRecDepth 100000 in
theorem l04Tree_any (g : Nat) (J : Nat) (A : Option Addr) (c : Nat) (xs : List AW) (n : Nat) (w : World) (hn : xs.length = n) (h20 : n ≤ 1048576) (hJ : 1 ≤ J ∧ J ≤ 16)
    (hends : ∀ k, k < n → (0 ≤ (atA xs k).u ∧ (atA xs k).u < J) ∧ (0 ≤ (atA xs k).v ∧ (atA xs k).v < J) ∧ (atA xs k).u ≠ (atA xs k).v)
    (hx : Airs w A xs) (m0 : w.cell? ⟨g, 0, none⟩ = some (.int .i64 (J : Int))) (m1 : w.cell? ⟨g, 1, none⟩ = some (.slice A n c)) :
    Calls Try.prog 62 #[.pointer (some ⟨g, 0, none⟩)] w (OnePost (treeT xs n) w) := by
  have HX := Lib.hid hx
  have HN := Lib.hid hn
  have HEN := Lib.hid hends
  have M0 := Lib.hid m0
  have M1 := Lib.hid m1
  clear hx hn hends m0 m1
  go_enter Try.func62, Try.ntmps62
  go_wp2_with fail
  go_loopw [3, 4] (fun v t wr => ∃ k : Nat, k ≤ n ∧ t = .int .i64 (k : Int) ∧ OwnI wr w.heap.size v (treeT xs k) ∧ Below w.heap.size w wr) (fun _ t _ => n - (intOf t).toNat)
  case atStart => exact ⟨0, Nat.zero_le _, rfl, OwnI.lit _ _ (Nat.le_refl _), (Below.refl _ _).alloc (Nat.le_refl _) _⟩
  case round =>
    obtain ⟨k, hk, rfl, ho, hb⟩ := hrel
    have HO := Lib.hid ho
    have HB := Lib.hid hb
    clear ho hb
    have hlen := treeT_len xs k
    have m1 : wr.cell? ⟨g, 1, none⟩ = some (.slice A n c) := (HB.out.cell (World.block_lt_of_cell? w _ M1.out)).trans M1.out
    by_cases hlt : k < n
    · obtain ⟨E, ce, ev, hE⟩ := HO.out.reads
      subst ev
      have m0 : wr.cell? ⟨g, 0, none⟩ = some (.int .i64 (J : Int)) := (HB.out.cell (World.block_lt_of_cell? w _ M0.out)).trans M0.out
      have HE := Lib.hid hE
      clear hE
      have hki : (k : Int) < n := by omega
      go_wp2_with fail
      refine (l04Parts_any g (J : Int) A c xs n E ce (treeT xs k) (treeT xs k).length _ HN.out h20 (by omega) (fun i hi => ⟨(HEN.out i hi).1, (HEN.out i hi).2.1⟩) rfl (by omega) (treeT_bd xs k n (by omega)) (HX.out.next HB.out) HE.out m0 m1).mono ?_
      rintro e w1 ⟨gp, cp, rfl, hop, bp⟩
      rw [Int.toNat_natCast, labL_len] at hop
      have HB1 := Lib.hid (stepB HB.out bp)
      have HO1 := Lib.hid (HO.out.below bp)
      have n1 : w1.cell? ⟨g, 1, none⟩ = some (.slice A n c) := (bp.cell (World.block_lt_of_cell? wr _ m1)).trans m1
      clear m0 m1
      obtain ⟨b, off, rfl, hb', hc⟩ := (HX.out.next HB1.out).at_ (k := k) (by have := HN.out; omega)
      obtain ⟨⟨hu1, hu2⟩, ⟨hv1, hv2⟩, hne⟩ := HEN.out k hlt
      obtain ⟨ux, hux⟩ := Int.eq_ofNat_of_zero_le hu1
      obtain ⟨vx, hvx⟩ := Int.eq_ofNat_of_zero_le hv1
      obtain ⟨_, c1, c2, _, _, _, _⟩ := hc
      rw [hux] at c1
      rw [hvx] at c2
      have hu3 : (ux : Int) < J := by omega
      have hv3 : (vx : Int) < J := by omega
      have du := own_cell hop (a := ux) (by omega)
      have dv := own_cell hop (a := vx) (by omega)
      have hjd : joinB xs (treeT xs k) k = (partsF xs (treeT xs k) (treeT xs k).length ux == partsF xs (treeT xs k) (treeT xs k).length vx) := by
        unfold joinB; rw [hux, hvx, Int.toNat_natCast, Int.toNat_natCast]
      rw [labL_len, Int.toNat_natCast]
      clear hux hvx hu1 hu2 hv1 hv2 hne hop bp
      generalize partsF xs (treeT xs k) (treeT xs k).length ux = pu at du hjd
      generalize partsF xs (treeT xs k) (treeT xs k).length vx = pv at dv hjd
      by_cases he : pu = pv
      · subst he
        have HJ := Lib.hid (show joinB xs (treeT xs k) k = true by rw [hjd]; simp)
        clear hjd
        go_wp2_with fail
        go_quiet (fail)
        go_wp2_with fail
        go_roundw
        case rel => exact ⟨k + 1, by omega, by go_num, by rw [treeT_yes HJ.out]; exact HO1.out, by first | exact HB1.out | exact below_drewN HB1.out _⟩
        case measure => simp [intOf]; omega
      · have heb : (pu == pv) = false := by simpa using he
        have heb2 : (pu != pv) = true := by simpa using he
        have HJ := Lib.hid (show joinB xs (treeT xs k) k = false by rw [hjd]; exact heb)
        clear hjd
        go_wp2_with fail
        go_quiet (fail)
        go_wp2_with (at_builtin; refine push_law rfl (.tmp 42) (.tmp 44) rfl _ w.heap.size _ (treeT xs k) (k : Int) rfl (HO1.out.drewN _) rfl (by omega) (below_drewN HB1.out _).size ?_; intro v' w4 ho4 hg4 hl4; have HO4 := Lib.hid ho4; have HB4 := Lib.hid (below_grown ((below_drewN HB1.out _).alloc (below_drewN HB1.out _).size _) hg4 (fun g e => ((HO1.out.drewN 0).lt e).1) (by have := HB1.out.size; simp; omega)); clear ho4 hg4 hl4)
        go_roundw
        case rel => exact ⟨k + 1, by omega, by go_num, by rw [treeT_no HJ.out]; exact HO4.out, HB4.out⟩
        case measure => simp [intOf]; omega
    · obtain rfl : k = n := by omega
      go_wp2_with fail
      go_ret
      exact ⟨_, rfl, HO.out, HB.out⟩


def trF (j : Int) (xs : List AW) : List Int := if mineB j xs then treeT xs xs.length else []
def trC (j : Int) (xs : List AW) : Int := if mineB j xs then 0 else 1
theorem tr_in {j : Int} {xs : List AW} (h : mineB j xs = true) : trF j xs = treeT xs xs.length ∧ trC j xs = 0 := by
  unfold trF trC; rw [h]; exact ⟨rfl, rfl⟩
theorem tr_no {j : Int} {xs : List AW} (h : mineB j xs = false) : trF j xs = [] ∧ trC j xs = 1 := by
  unfold trF trC; rw [h]; exact ⟨rfl, rfl⟩
theorem list_ret {ls ls' : List Int} {code code' : Int} {w w' : World} {v : Value} (h : ls' = ls ∧ code' = code) (ho : OwnI w' w.heap.size v ls) (hb : Below w.heap.size w w') : ListPost ls' code' w (.returned (.tuple #[v, .int .i64 code])) w' := by
  rw [h.1, h.2]; exact ⟨v, rfl, ho, hb⟩

theorem trF_len (j : Int) (xs : List AW) : (trF j xs).length ≤ xs.length := by
  unfold trF; split
  · exact treeT_len xs xs.length
  · simp
end Go.Proofs.Ytgiokjflfadeeaa
