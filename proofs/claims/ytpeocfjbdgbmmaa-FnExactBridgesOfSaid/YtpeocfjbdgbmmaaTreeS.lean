/-
  The contracts of l04Tree and of both TreeOf.
-/
import Derived.Test.YtpeocfjbdgbmmaaTree
namespace Go.Proofs.Ytpeocfjbdgbmmaa
open Go.RowKit
set_option linter.unusedVariables false

set_option maxHeartbeats 2000000 in
set_option maxRecDepth 100000 in
theorem l04Tree_any (g : Nat) (J : Nat) (A : Option Addr) (c : Nat) (xs : List AW) (n : Nat) (w : World) (hn : xs.length = n) (h20 : n ≤ 1048576) (hJ : 1 ≤ J ∧ J ≤ 16)
    (hends : ∀ k, k < n → (0 ≤ (atA xs k).u ∧ (atA xs k).u < J) ∧ (0 ≤ (atA xs k).v ∧ (atA xs k).v < J) ∧ (atA xs k).u ≠ (atA xs k).v)
    (hx : Airs w A xs) (m0 : w.cell? ⟨g, 0, none⟩ = some (.int .i64 (J : Int))) (m1 : w.cell? ⟨g, 1, none⟩ = some (.slice A n c)) :
    Calls Try.prog 67 #[.pointer (some ⟨g, 0, none⟩)] w (OnePost (treeT xs n) w) := by
  have HX := Lib.hid hx
  have HN := Lib.hid hn
  have HEN := Lib.hid hends
  have M0 := Lib.hid m0
  have M1 := Lib.hid m1
  clear hx hn hends m0 m1
  go_enter Try.func67, Try.ntmps67
  go_wp2_with fail
  go_loopw [3, 4] (fun v t wr => ∃ k : Nat, k ≤ n ∧ t = .int .i64 (k : Int) ∧ OwnI wr w.heap.size v (treeT xs k) ∧ Below w.heap.size w wr) (fun _ t _ => n - (intOf t).toNat)
  case atStart => exact ⟨0, Nat.zero_le _, rfl, OwnI.lit _ _ (Nat.le_refl _), (Below.refl _ _).alloc (Nat.le_refl _) _⟩
  case round =>
    obtain ⟨k, hk, rfl, ho, hb⟩ := hrel
    have HO := Lib.hid ho
    have HB := Lib.hid hb
    clear ho hb
    have hlen := treeT_len xs k
    have m1 : wr.cell? ⟨g, 1, none⟩ = some (.slice A n c) := (HB.out.cell (World.block_lt_of_cell? w _ M1.out)).trans M1.out
    by_cases hlt : k < n
    · obtain ⟨E, ce, ev, hE⟩ := HO.out.reads
      subst ev
      have m0 : wr.cell? ⟨g, 0, none⟩ = some (.int .i64 (J : Int)) := (HB.out.cell (World.block_lt_of_cell? w _ M0.out)).trans M0.out
      have HE := Lib.hid hE
      clear hE
      have hki : (k : Int) < n := by omega
      go_wp2_with fail
      refine (l04Parts_any g (J : Int) A c xs n E ce (treeT xs k) (treeT xs k).length _ HN.out h20 (by omega) (fun i hi => ⟨(HEN.out i hi).1, (HEN.out i hi).2.1⟩) rfl (by omega) (treeT_bd xs k n (by omega)) (HX.out.next HB.out) HE.out m0 m1).mono ?_
      rintro e w1 ⟨gp, cp, rfl, hop, bp⟩
      rw [Int.toNat_natCast, labL_len] at hop
      have HB1 := Lib.hid (stepB HB.out bp)
      have HO1 := Lib.hid (HO.out.below bp)
      have n1 : w1.cell? ⟨g, 1, none⟩ = some (.slice A n c) := (bp.cell (World.block_lt_of_cell? wr _ m1)).trans m1
      clear m0 m1
      obtain ⟨b, off, rfl, hb', hc⟩ := (HX.out.next HB1.out).at_ (k := k) (by have := HN.out; omega)
      obtain ⟨⟨hu1, hu2⟩, ⟨hv1, hv2⟩, hne⟩ := HEN.out k hlt
      obtain ⟨ux, hux⟩ := Int.eq_ofNat_of_zero_le hu1
      obtain ⟨vx, hvx⟩ := Int.eq_ofNat_of_zero_le hv1
      obtain ⟨_, c1, c2, _, _, _, _⟩ := hc
      rw [hux] at c1
      rw [hvx] at c2
      have hu3 : (ux : Int) < J := by omega
      have hv3 : (vx : Int) < J := by omega
      have du := own_cell hop (a := ux) (by omega)
      have dv := own_cell hop (a := vx) (by omega)
      have hjd : joinB xs (treeT xs k) k = (partsF xs (treeT xs k) (treeT xs k).length ux == partsF xs (treeT xs k) (treeT xs k).length vx) := by
        unfold joinB; rw [hux, hvx, Int.toNat_natCast, Int.toNat_natCast]
      rw [labL_len, Int.toNat_natCast]
      clear hux hvx hu1 hu2 hv1 hv2 hne hop bp
      generalize partsF xs (treeT xs k) (treeT xs k).length ux = pu at du hjd
      generalize partsF xs (treeT xs k) (treeT xs k).length vx = pv at dv hjd
      by_cases he : pu = pv
      · subst he
        have HJ := Lib.hid (show joinB xs (treeT xs k) k = true by rw [hjd]; simp)
        clear hjd
        go_wp2_with fail
        go_quiet (fail)
        go_wp2_with fail
        go_roundw
        case rel => exact ⟨k + 1, by omega, by go_num, by rw [treeT_yes HJ.out]; exact HO1.out, by first | exact HB1.out | exact below_drewN HB1.out _⟩
        case measure => simp [intOf]; omega
      · have heb : (pu == pv) = false := by simpa using he
        have heb2 : (pu != pv) = true := by simpa using he
        have HJ := Lib.hid (show joinB xs (treeT xs k) k = false by rw [hjd]; exact heb)
        clear hjd
        go_wp2_with fail
        go_quiet (fail)
        go_wp2_with (at_builtin; refine push_law rfl (.tmp 42) (.tmp 44) rfl _ w.heap.size _ (treeT xs k) (k : Int) rfl (HO1.out.drewN _) rfl (by omega) (below_drewN HB1.out _).size ?_; intro v' w4 ho4 hg4 hl4; have HO4 := Lib.hid ho4; have HB4 := Lib.hid (below_grown ((below_drewN HB1.out _).alloc (below_drewN HB1.out _).size _) hg4 (fun g e => ((HO1.out.drewN 0).lt e).1) (by have := HB1.out.size; simp; omega)); clear ho4 hg4 hl4)
        go_roundw
        case rel => exact ⟨k + 1, by omega, by go_num, by rw [treeT_no HJ.out]; exact HO4.out, HB4.out⟩
        case measure => simp [intOf]; omega
    · obtain rfl : k = n := by omega
      go_wp2_with fail
      go_ret
      exact ⟨_, rfl, HO.out, HB.out⟩


def trF (j : Int) (xs : List AW) : List Int := if mineB j xs then treeT xs xs.length else []
def trC (j : Int) (xs : List AW) : Int := if mineB j xs then 0 else 1
theorem tr_in {j : Int} {xs : List AW} (h : mineB j xs = true) : trF j xs = treeT xs xs.length ∧ trC j xs = 0 := by
  unfold trF trC; rw [h]; exact ⟨rfl, rfl⟩
theorem tr_no {j : Int} {xs : List AW} (h : mineB j xs = false) : trF j xs = [] ∧ trC j xs = 1 := by
  unfold trF trC; rw [h]; exact ⟨rfl, rfl⟩
theorem list_ret {ls ls' : List Int} {code code' : Int} {w w' : World} {v : Value} (h : ls' = ls ∧ code' = code) (ho : OwnI w' w.heap.size v ls) (hb : Below w.heap.size w w') : ListPost ls' code' w (.returned (.tuple #[v, .int .i64 code])) w' := by
  rw [h.1, h.2]; exact ⟨v, rfl, ho, hb⟩

set_option maxHeartbeats 600000 in
theorem trP_any (j : Int) (A : Option Addr) (c : Nat) (xs : List AW) (n : Nat) (w : World) (hn : xs.length = n) (h20 : n ≤ 1048576) (hs : ∀ k, k < n → (atA xs k).a.size ≤ maxLen) (hx : Airs w A xs) :
    Calls Try.prog 33 #[.agg #[.int .i64 j, .slice A n c]] w (ListPost (trF j xs) (trC j xs) w) := by
  have b0 : Below w.heap.size w (w.alloc (.cells #[.int .i64 j, .slice A n c] 29)) := by ((repeat (first | with_reducible exact Below.refl _ _ | with_reducible apply below_drewN | with_reducible apply Below.drew | (with_reducible refine Below.alloc ?_ ?_ _) | (with_reducible refine Below.setCell ?_ ?_ _) | (with_reducible refine Below.trans ?_ (hb4.mono ?_)) | (with_reducible refine Below.trans ?_ (hb3.mono ?_)) | (with_reducible refine Below.trans ?_ (hb2.mono ?_)))); all_goals (first | (simp <;> omega) | (have h2s := hb2.size; (try simp at h2s); (try simp); omega) | (have h2s := hb2.size; have h3s := hb3.size; (try simp at h2s); (try simp at h3s); (try simp); omega) | (have h2s := hb2.size; have h3s := hb3.size; have h4s := hb4.size; (try simp at h2s); (try simp at h3s); (try simp at h4s); (try simp); omega)))
  have HX := Lib.hid (hx.next b0)
  have HN := Lib.hid hn
  have HS := Lib.hid hs
  clear hx hn hs
  go_enter Try.func33, Try.ntmps33
  go_wp2_with fail
  refine (validMineP_any j _ _ xs n _ HN.out h20 HS.out HX.out).mono ?_
  by_cases hv : mineB j xs = true
  · have HV := Lib.hid hv
    obtain ⟨h24, hj, hends⟩ := mine_ends hv
    rw [HV.out]
    clear hv
    rintro e w1 ⟨rfl, b1⟩
    obtain ⟨J, rfl⟩ := Int.eq_ofNat_of_zero_le (show 0 ≤ j by omega)
    have m0 : w1.cell? ⟨w.heap.size, 0, none⟩ = some (.int .i64 (J : Int)) := (b1.cell (by simp)).trans (by simp [go_sem])
    have m1 : w1.cell? ⟨w.heap.size, 1, none⟩ = some (.slice A n c) := (b1.cell (by simp)).trans (by simp [go_sem])
    have c1 := stepB b0 b1
    have HC := Lib.hid c1
    clear b0 c1
    go_wp2_with fail
    refine (tree_any J A c xs n _ HN.out h20 (by omega) (by rw [HN.out] at hends; exact hends) (HX.out.next b1)).mono ?_; rintro e w2 ⟨v, rfl, ho, b2⟩
    have HO := Lib.hid ho
    have HB := Lib.hid b2
    clear ho b1 b2 m0 m1
    go_wp2_with fail
    go_ret2
    exact list_ret (by rw [(tr_in HV.out).1, (tr_in HV.out).2, HN.out]; exact ⟨rfl, rfl⟩) (HO.out.mono HC.out.size) (stepB HC.out HB.out)
  · simp only [Bool.not_eq_true] at hv
    have HV := Lib.hid hv
    rw [HV.out]
    clear hv
    rintro e w1 ⟨rfl, b1⟩
    have c1 := Lib.hid (stepB b0 b1)
    clear b0 b1
    go_wp2_with fail
    go_ret2
    exact list_ret (tr_no HV.out) (World.ownsRow_nil _ _ _ _) c1.out

set_option maxHeartbeats 600000 in
theorem trS_any (j : Int) (A : Option Addr) (c : Nat) (xs : List AW) (n : Nat) (w : World) (hn : xs.length = n) (h20 : n ≤ 1048576) (hs : ∀ k, k < n → (atA xs k).a.size ≤ maxLen) (hx : Airs w A xs) :
    Calls Try.prog 32 #[.agg #[.int .i64 j, .slice A n c]] w (ListPost (trF j xs) (trC j xs) w) := by
  have b0 : Below w.heap.size w (w.alloc (.cells #[.int .i64 j, .slice A n c] 29)) := by ((repeat (first | with_reducible exact Below.refl _ _ | with_reducible apply below_drewN | with_reducible apply Below.drew | (with_reducible refine Below.alloc ?_ ?_ _) | (with_reducible refine Below.setCell ?_ ?_ _) | (with_reducible refine Below.trans ?_ (hb4.mono ?_)) | (with_reducible refine Below.trans ?_ (hb3.mono ?_)) | (with_reducible refine Below.trans ?_ (hb2.mono ?_)))); all_goals (first | (simp <;> omega) | (have h2s := hb2.size; (try simp at h2s); (try simp); omega) | (have h2s := hb2.size; have h3s := hb3.size; (try simp at h2s); (try simp at h3s); (try simp); omega) | (have h2s := hb2.size; have h3s := hb3.size; have h4s := hb4.size; (try simp at h2s); (try simp at h3s); (try simp at h4s); (try simp); omega)))
  have HX := Lib.hid (hx.next b0)
  have HN := Lib.hid hn
  have HS := Lib.hid hs
  clear hx hn hs
  go_enter Try.func32, Try.ntmps32
  go_wp2_with fail
  refine (l04Ok_any _ j A c xs n _ HN.out h20 HS.out HX.out (by simp [go_sem]) (by simp [go_sem])).mono ?_
  by_cases hv : mineB j xs = true
  · have HV := Lib.hid hv
    obtain ⟨h24, hj, hends⟩ := mine_ends hv
    rw [HV.out]
    clear hv
    rintro e w1 ⟨rfl, q1, rfl⟩
    obtain ⟨J, rfl⟩ := Int.eq_ofNat_of_zero_le (show 0 ≤ j by omega)
    have c1 := below_drewN b0 q1
    have HX1 := Lib.hid (HX.out.next (below_drewN (Below.refl _ _) q1))
    generalize hw1 : (w.alloc (.cells #[.int .i64 (J : Int), .slice A n c] 29)).drewN q1 = w1 at c1 HX1 ⊢
    have m0 : w1.cell? ⟨w.heap.size, 0, none⟩ = some (.int .i64 (J : Int)) := by rw [← hw1]; simp [go_sem]
    have m1 : w1.cell? ⟨w.heap.size, 1, none⟩ = some (.slice A n c) := by rw [← hw1]; simp [go_sem]
    have HC := Lib.hid c1
    clear b0 c1 hw1
    go_wp2_with fail
    refine (l04Tree_any _ J A c xs n _ HN.out h20 (by omega) (by rw [HN.out] at hends; exact hends) HX1.out m0 m1).mono ?_; rintro e w2 ⟨v, rfl, ho, b2⟩
    have HO := Lib.hid ho
    have HB := Lib.hid b2
    clear ho b2 m0 m1
    go_wp2_with fail
    go_ret2
    exact list_ret (by rw [(tr_in HV.out).1, (tr_in HV.out).2, HN.out]; exact ⟨rfl, rfl⟩) (HO.out.mono HC.out.size) (stepB HC.out HB.out)
  · simp only [Bool.not_eq_true] at hv
    have HV := Lib.hid hv
    rw [HV.out]
    clear hv
    rintro e w1 ⟨rfl, q1, rfl⟩
    have c1 := Lib.hid (below_drewN b0 q1)
    clear b0
    go_wp2_with fail
    go_ret2
    exact list_ret (tr_no HV.out) (World.ownsRow_nil _ _ _ _) c1.out
theorem trF_len (j : Int) (xs : List AW) : (trF j xs).length ≤ xs.length := by
  unfold trF; split
  · exact treeT_len xs xs.length
  · simp
end Go.Proofs.Ytpeocfjbdgbmmaa
