/-
  DropAirway: the program's contract.
-/
import Derived.Test.YtgiokjflfadeeaaDropS
import Derived.Test.YtgiokjflfadeeaaNum
import Derived.RowKit3
import Derived.ProofKit
import Derived.OpenShut
import Derived.Lib.SmallJoins
namespace Go.Proofs.Ytgiokjflfadeeaa
open Go.RowKit
set_option linter.unusedVariables false

theorem MC.two {w : World} {g : Nat} {j : Int} {v : Value} (h : MC w g j v) : w.cell? ⟨g, 0, none⟩ = some (.int .i64 j) ∧ w.cell? ⟨g, 1, none⟩ = some v := ⟨h.c0, h.c1⟩
theorem MC.set {w : World} {g h o : Nat} {j : Int} {v x : Value} (hm : MC w g j v) (hne : g ≠ h) : MC (w.setCell ⟨h, o, none⟩ x) g j v := by
  constructor
  · rw [World.cell?_setCell_other]
    · exact hm.c0
    · intro e; injection e with e; exact hne e.symm
  · rw [World.cell?_setCell_other]
    · exact hm.c1
    · intro e; injection e with e; exact hne e.symm
set_option maxHeartbeats 4000000 in
set_option maxRecDepth 100000 in
theorem drP_any (j : Int) (A : Option Addr) (c : Nat) (xs : List AW) (n : Nat) (s : ByteArray) (w : World) (hn : xs.length = n) (h20 : n ≤ 1048576) (hs : ∀ k, k < n → (atA xs k).a.size ≤ maxLen) (hx : Airs w A xs) :
    Calls Try.prog 10 #[.agg #[.int .i64 j, .slice A n c], .string s] w (MinePost (dropJ j xs s) (dropX j xs s) (dropC j xs s) w) := by
  have b0 : Below w.heap.size w ((w.alloc (.cells #[.int .i64 j, .slice A n c] 28)).alloc (.cells #[.int .i64 0, .slice none 0 0] 28)) := by ((repeat (first | with_reducible exact Below.refl _ _ | with_reducible apply below_drewN | with_reducible apply Below.drew | (with_reducible refine Below.alloc ?_ ?_ _) | (with_reducible refine Below.setCell ?_ ?_ _) | (with_reducible refine Below.trans ?_ (hb4.mono ?_)) | (with_reducible refine Below.trans ?_ (hb3.mono ?_)) | (with_reducible refine Below.trans ?_ (hb2.mono ?_)))); all_goals (first | (simp <;> omega) | (have h2s := hb2.size; (try simp at h2s); (try simp); omega) | (have h2s := hb2.size; have h3s := hb3.size; (try simp at h2s); (try simp at h3s); (try simp); omega) | (have h2s := hb2.size; have h3s := hb3.size; have h4s := hb4.size; (try simp at h2s); (try simp at h3s); (try simp at h4s); (try simp); omega)))
  have RS0 := Lib.hid (show ResM ((w.alloc (.cells #[.int .i64 j, .slice A n c] 28)).alloc (.cells #[.int .i64 0, .slice none 0 0] 28)) (w.heap.size + 1) by have h := resM_new (w.alloc (.cells #[.int .i64 j, .slice A n c] 28)) 28; simpa using h)
  have M0 := Lib.hid (show MC ((w.alloc (.cells #[.int .i64 j, .slice A n c] 28)).alloc (.cells #[.int .i64 0, .slice none 0 0] 28)) w.heap.size j (.slice A n c) from ⟨by simp [go_sem], by simp [go_sem]⟩)
  have HX := Lib.hid (hx.next b0)
  have HN := Lib.hid hn
  have HS := Lib.hid hs
  have HB0 := Lib.hid b0
  clear hx hn hs b0
  go_enter Try.func10, Try.ntmps10
  go_wp2_with fail
  obtain ⟨W0, hW0⟩ : ∃ W0, W0 = (w.alloc (.cells #[.int .i64 j, .slice A n c] 28)).alloc (.cells #[.int .i64 0, .slice none 0 0] 28) := ⟨_, rfl⟩
  have hg : w.heap.size + 1 < W0.heap.size := by rw [hW0]; simp
  rw [← hW0] at RS0 M0 HX HB0 ⊢
  clear hW0
  refine (airwayNamedI_any j A c xs n s _ HN.out h20 HX.out).mono ?_; rintro e w1 ⟨rfl, b1⟩
  have RS1 := Lib.hid (RS0.out.next b1)
  have HB1 := Lib.hid (stepB HB0.out b1)
  have M1 := Lib.hid (M0.out.next b1)
  have HX1 := Lib.hid (HX.out.next b1)
  have hs1 := b1.size
  obtain ⟨m0, m1⟩ := M1.out
  clear b1
  obtain ⟨fi, hfi⟩ : ∃ fi, fi = findF xs s := ⟨_, rfl⟩
  rw [← hfi]
  have HFI := Lib.hid hfi
  clear hfi
  go_wp2_with fail
  clear m0 m1
  refine (validMineP_any j A c xs n _ HN.out h20 HS.out HX1.out).mono ?_
  cases hmb : mineB j xs with
  | false =>
    rintro e w2 ⟨rfl, b2⟩
    obtain ⟨⟨x0, r0⟩, ⟨x1, r1⟩, hfz⟩ := RS1.out.next b2
    have HB := Lib.hid (stepB HB1.out b2)
    have HRR := Lib.hid (drop_no (s := s) hmb)
    clear b2 hmb
    go_wp2_with fail
    obtain ⟨g0, g1⟩ := mcells2 r0 r1 (v0 := .int .i64 0) (v1 := .slice none 0 0)
    simp [bodyPost, results, Try.results10, go_sem, g0, g1]
    exact mine_ret HRR.out (OwnA.nil _ _) (set2_below HB.out (by omega))
  | true =>
    rintro e w2 ⟨rfl, b2⟩
    have RS2 := Lib.hid (RS1.out.next b2)
    have HB2 := Lib.hid (stepB HB1.out b2)
    have M2 := Lib.hid (M1.out.next b2)
    have HX2 := Lib.hid (HX1.out.next b2)
    have hs2 := b2.size
    have HMB := Lib.hid hmb
    clear b2 hmb
    by_cases hf : fi < 0
    · obtain ⟨⟨x0, r0⟩, ⟨x1, r1⟩, hfz⟩ := RS2.out
      have HRR := Lib.hid (drop_not (s := s) HMB.out (by rw [← HFI.out]; exact hf))
      go_wp2_with fail
      obtain ⟨g0, g1⟩ := mcells2 r0 r1 (v0 := .int .i64 0) (v1 := .slice none 0 0)
      simp [bodyPost, results, Try.results10, go_sem, g0, g1]
      exact mine_ret HRR.out (OwnA.nil _ _) (set2_below HB2.out (by omega))
    · obtain ⟨k0, rfl⟩ := Int.eq_ofNat_of_zero_le (show 0 ≤ fi by omega)
      have HRR := Lib.hid (drop_yes (s := s) HMB.out HFI.out.symm)
      have HDI := Lib.hid (drop_is (s := s) HMB.out HFI.out.symm)
      have hk0 : k0 < n := by have := HDI.out.1; rw [HN.out] at this; exact this
      obtain ⟨b, off, rfl, hbl, _⟩ := HX2.out.at_ (k := k0) HDI.out.1
      have hf' : ¬ (k0 : Int) < 0 := by omega
      have HXA := Lib.hid (show ∀ k, k < xs.length → AirAt w2 b (off + k * 7) (atA xs k) by
        intro k hk
        obtain ⟨b', off', e, _, h⟩ := HX2.out.at_ hk
        injection e with e; injection e with e1 e2
        subst e1 e2; exact h)
      have HWR := Lib.hid (show IntKind.i64.wrap ((k0 : Int) + 1) = (k0 : Int) + 1 by unfold IntKind.wrap; simp [IntKind.bits, IntKind.signed]; omega)
      clear hf
      go_wp2_with fail
      go_region_held3 (fun w' => w'.cell? ⟨w.heap.size, 0, none⟩ = some (.int .i64 j) ∧ w'.cell? ⟨w.heap.size, 1, none⟩ = some (.slice (some ⟨b, off, none⟩) n c)) (first | exact M2.out.two | exact M3.out.two | exact M4.out.two | exact (M4.out.set (by omega)).two | exact ((M4.out.set (by omega)).set (by omega)).two)
        ((first
          | (go_at_call 35; refine (cloneA_any b off c xs n _ HN.out h20 (fun k hk => (HXA.out k hk).below (Below.refl w2.heap.size w2).drew hbl) hbl).mono ?_; rintro e w3 ⟨v3, rfl, ho3, hnil3, b3⟩; obtain ⟨g3, c3, cur3, ev3, hB3, hg3, _, _⟩ := ho3.block (by rw [HN.out]; omega); rw [HN.out] at ev3; subst ev3; have B23 := Lib.hid (stepB (Below.refl w2.heap.size w2).drew b3); have M3 := Lib.hid (M2.out.next B23.out); have HO3 := Lib.hid ho3; have hB3' : w2.heap.size ≤ g3 := hB3; have hs3 := B23.out.size; clear ho3 hnil3 b3 hB3)
          | (go_at_call 34; rw [HWR.out]; refine (deleteA_any g3 c3 k0 n _ xs _ HN.out hk0 h20 HO3.out).mono ?_; rintro e w4 ⟨rfl, ho4, g4⟩; have B24 := Lib.hid (below_grown B23.out g4 (fun g e => by injection e with e; omega) hs3); have M4 := Lib.hid (M2.out.next B24.out); have HO4 := Lib.hid ho4; obtain ⟨⟨x0, r0⟩, ⟨x1, r1⟩, hfz⟩ := RS2.out.next B24.out; clear ho4 g4)))
      go_wp2_with fail
      obtain ⟨g0, g1⟩ := mcells2 r0 r1 (v0 := .int .i64 j) (v1 := .slice (some ⟨g3, 0, none⟩) (n - 1) c3)
      simp [bodyPost, results, Try.results10, go_sem, g0, g1]
      have hd : w2.drew.heap.size = w2.heap.size := rfl
      exact mine_ret HRR.out (((HO4.out.set (by omega)).set (by omega)).mono (by omega)) (set2_below (stepB HB2.out B24.out) (by omega))
end Go.Proofs.Ytgiokjflfadeeaa
