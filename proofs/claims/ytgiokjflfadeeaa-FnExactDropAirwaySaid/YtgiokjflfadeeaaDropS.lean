/-
  DropAirway: both sides' contracts.
-/
import Derived.Test.YtgiokjflfadeeaaMineRes
import Derived.Test.YtgiokjflfadeeaaDropT
import Derived.Deep.RegionHeld3
import Derived.Test.YtgiokjflfadeeaaNum
import Derived.RowKit3
import Derived.ProofKit
import Derived.OpenShut
import Derived.Lib.SmallJoins
namespace Go.Proofs.Ytgiokjflfadeeaa
open Go.RowKit
set_option linter.unusedVariables false

theorem d_next {w w1 : World} {x : AW} {A : Option Addr} {v : Value} {n c g b o h : Nat} (hb : Below w.heap.size w w1) (hS : w.cell? ⟨g, 1, none⟩ = some (.slice A n c) ∧ w.cell? ⟨b, o, none⟩ = some (.string x.a) ∧ w.cell? ⟨b, o + 1, none⟩ = some (.int .i64 x.u) ∧ w.cell? ⟨b, o + 2, none⟩ = some (.int .i64 x.v) ∧ w.cell? ⟨b, o + 3, none⟩ = some (.int .i64 x.l) ∧ w.cell? ⟨b, o + 4, none⟩ = some (.int .i64 x.s) ∧ w.cell? ⟨b, o + 5, none⟩ = some (.int .i64 x.f) ∧ w.cell? ⟨b, o + 6, none⟩ = some (.int .i64 x.k) ∧ w.cell? ⟨h, 1, none⟩ = some v) : w1.cell? ⟨g, 1, none⟩ = some (.slice A n c) ∧ w1.cell? ⟨b, o, none⟩ = some (.string x.a) ∧ w1.cell? ⟨b, o + 1, none⟩ = some (.int .i64 x.u) ∧ w1.cell? ⟨b, o + 2, none⟩ = some (.int .i64 x.v) ∧ w1.cell? ⟨b, o + 3, none⟩ = some (.int .i64 x.l) ∧ w1.cell? ⟨b, o + 4, none⟩ = some (.int .i64 x.s) ∧ w1.cell? ⟨b, o + 5, none⟩ = some (.int .i64 x.f) ∧ w1.cell? ⟨b, o + 6, none⟩ = some (.int .i64 x.k) ∧ w1.cell? ⟨h, 1, none⟩ = some v := by
  obtain ⟨m1, x0, x1, x2, x3, x4, x5, x6, q⟩ := hS
  have f : ∀ {a : Addr} {v : Value}, w.cell? a = some v → w1.cell? a = some v := fun {a v} h => (hb.cell (World.block_lt_of_cell? w a h)).trans h
  exact ⟨f m1, f x0, f x1, f x2, f x3, f x4, f x5, f x6, f q⟩
theorem adeqs (s p : ByteArray) : (s.toList == p.toList) = eqS s p := rfl
set_option maxHeartbeats 4000000 in
set_option maxRecDepth 100000 in
theorem drS_any (j : Int) (A : Option Addr) (c : Nat) (xs : List AW) (n : Nat) (s : ByteArray) (w : World) (hn : xs.length = n) (h20 : n ≤ 1048576) (hs : ∀ k, k < n → (atA xs k).a.size ≤ maxLen) (hx : Airs w A xs) :
    Calls Try.prog 8 #[.agg #[.int .i64 j, .slice A n c], .string s] w (MinePost (dropJ j xs s) (dropX j xs s) (dropC j xs s) w) := by
  have b0 : Below w.heap.size w ((w.alloc (.cells #[.int .i64 j, .slice A n c] 28)).alloc (.cells #[.int .i64 0, .slice none 0 0] 28)) := by ((repeat (first | with_reducible exact Below.refl _ _ | with_reducible apply below_drewN | with_reducible apply Below.drew | (with_reducible refine Below.alloc ?_ ?_ _) | (with_reducible refine Below.setCell ?_ ?_ _) | (with_reducible refine Below.trans ?_ (hb4.mono ?_)) | (with_reducible refine Below.trans ?_ (hb3.mono ?_)) | (with_reducible refine Below.trans ?_ (hb2.mono ?_)))); all_goals (first | (simp <;> omega) | (have h2s := hb2.size; (try simp at h2s); (try simp); omega) | (have h2s := hb2.size; have h3s := hb3.size; (try simp at h2s); (try simp at h3s); (try simp); omega) | (have h2s := hb2.size; have h3s := hb3.size; have h4s := hb4.size; (try simp at h2s); (try simp at h3s); (try simp at h4s); (try simp); omega)))
  have b1 : Below w.heap.size w (w.alloc (.cells #[.int .i64 j, .slice A n c] 28)) := by ((repeat (first | with_reducible exact Below.refl _ _ | with_reducible apply below_drewN | with_reducible apply Below.drew | (with_reducible refine Below.alloc ?_ ?_ _) | (with_reducible refine Below.setCell ?_ ?_ _) | (with_reducible refine Below.trans ?_ (hb4.mono ?_)) | (with_reducible refine Below.trans ?_ (hb3.mono ?_)) | (with_reducible refine Below.trans ?_ (hb2.mono ?_)))); all_goals (first | (simp <;> omega) | (have h2s := hb2.size; (try simp at h2s); (try simp); omega) | (have h2s := hb2.size; have h3s := hb3.size; (try simp at h2s); (try simp at h3s); (try simp); omega) | (have h2s := hb2.size; have h3s := hb3.size; have h4s := hb4.size; (try simp at h2s); (try simp at h3s); (try simp at h4s); (try simp); omega)))
  have b2 : Below (w.heap.size + 1) (w.alloc (.cells #[.int .i64 j, .slice A n c] 28)) ((w.alloc (.cells #[.int .i64 j, .slice A n c] 28)).alloc (.cells #[.int .i64 0, .slice none 0 0] 28)) := (Below.refl _ _).alloc (by simp) _
  have RS0 := Lib.hid (show ResM ((w.alloc (.cells #[.int .i64 j, .slice A n c] 28)).alloc (.cells #[.int .i64 0, .slice none 0 0] 28)) (w.heap.size + 1) by have h := resM_new (w.alloc (.cells #[.int .i64 j, .slice A n c] 28)) 28; simpa using h)
  have M0 := Lib.hid (show MC ((w.alloc (.cells #[.int .i64 j, .slice A n c] 28)).alloc (.cells #[.int .i64 0, .slice none 0 0] 28)) w.heap.size j (.slice A n c) from ⟨by simp [go_sem], by simp [go_sem]⟩)
  have HX := Lib.hid (hx.next b0)
  have HN := Lib.hid hn
  have HS := Lib.hid hs
  have HB0 := Lib.hid b0
  clear hx hn hs b0 b1 b2
  go_enter Try.func8, Try.ntmps8
  go_wp2_with fail
  obtain ⟨W0, hW0⟩ : ∃ W0, W0 = (w.alloc (.cells #[.int .i64 j, .slice A n c] 28)).alloc (.cells #[.int .i64 0, .slice none 0 0] 28) := ⟨_, rfl⟩
  have hg : w.heap.size + 1 < W0.heap.size := by rw [hW0]; simp
  rw [← hW0] at RS0 M0 HX HB0 ⊢
  clear hW0
  refine (l04Ok_any w.heap.size j A c xs n _ HN.out h20 HS.out HX.out M0.out.c0 M0.out.c1).mono ?_
  cases hmb : mineB j xs with
  | false =>
    rintro e w1 ⟨rfl, q, rfl⟩
    have hb : Below W0.heap.size W0 (W0.drewN q) := below_drewN (Below.refl _ _) q
    obtain ⟨⟨x0, r0⟩, ⟨x1, r1⟩, hfz⟩ := RS0.out.next hb
    have HB := Lib.hid (stepB HB0.out hb)
    have HRR := Lib.hid (drop_no (s := s) hmb)
    clear hb hmb
    generalize W0.drewN q = w1 at r0 r1 hfz HB ⊢
    go_wp2_with fail
    obtain ⟨g0, g1⟩ := mcells2 r0 r1 (v0 := .int .i64 0) (v1 := .slice none 0 0)
    simp [bodyPost, results, Try.results8, go_sem, g0, g1]
    exact mine_ret HRR.out (OwnA.nil _ _) (set2_below HB.out (by omega))
  | true =>
    rintro e w1 ⟨rfl, q, rfl⟩
    have hb : Below W0.heap.size W0 (W0.drewN q) := below_drewN (Below.refl _ _) q
    have RS1 := Lib.hid (RS0.out.next hb)
    have HB := Lib.hid (stepB HB0.out hb)
    have M1 := Lib.hid (M0.out.next hb)
    have HX1 := Lib.hid (HX.out.next hb)
    have hsz := hb.size
    have HMB := Lib.hid hmb
    clear hb hmb
    generalize W0.drewN q = w1 at RS1 HB M1 HX1 hsz ⊢
    go_wp2_with fail
    refine (l04Find_any w.heap.size j A c xs n s _ HN.out h20 HX1.out M1.out.c1).mono ?_; rintro e w2 ⟨rfl, rfl⟩
    by_cases hf : findF xs s < 0
    · obtain ⟨⟨x0, r0⟩, ⟨x1, r1⟩, hfz⟩ := RS1.out
      have HRR := Lib.hid (drop_not (s := s) HMB.out hf)
      go_wp2_with fail
      obtain ⟨g0, g1⟩ := mcells2 r0 r1 (v0 := .int .i64 0) (v1 := .slice none 0 0)
      simp [bodyPost, results, Try.results8, go_sem, g0, g1]
      exact mine_ret HRR.out (OwnA.nil _ _) (set2_below HB.out (by omega))
    · obtain ⟨k0, hk0⟩ := Int.eq_ofNat_of_zero_le (show 0 ≤ findF xs s by omega)
      have HRR := Lib.hid (drop_yes (s := s) HMB.out hk0)
      have HDI := Lib.hid (drop_is (s := s) HMB.out hk0)
      have hf' : ¬ (k0 : Int) < 0 := by omega
      rw [hk0]
      obtain ⟨m0, m1⟩ := M1.out
      have HM0 := Lib.hid (mst_lit w1 j 28)
      clear hf hk0
      go_wp2_with fail
      clear m0 m1
      go_loopw [7] (fun t wr => ∃ (k : Nat) (v : Value), k ≤ n ∧ t = .int .i64 (k : Int) ∧ MSt w1 (w1.heap.size + 1) wr j v ((xs.take k).filter (keepB s))) (fun t _ => n - (intOf t).toNat)
      case atStart => exact ⟨0, _, Nat.zero_le _, rfl, HM0.out⟩
      case round =>
        obtain ⟨k, v, hk, rfl, hm⟩ := hrel
        have HM := Lib.hid hm
        obtain ⟨m0, m1⟩ := M1.out.next hm.bel
        clear hm
        by_cases hlt : k < n
        · have hki : (k : Int) < n := by omega
          have hkl : k < xs.length := by have := HN.out; omega
          have HF := Lib.hid (filter_take (keepB s) xs k hkl)
          obtain ⟨b, off, rfl, hbl, hc1⟩ := HX1.out.at_ hkl
          have hc := hc1.below HM.out.bel hbl
          obtain ⟨x, hx⟩ : ∃ x, x = atA xs k := ⟨_, rfl⟩
          rw [← hx] at hc hc1
          have HC1 := Lib.hid hc1
          clear hc1
          have HXK := Lib.hid hx
          have HC := Lib.hid hc
          obtain ⟨c0, c1, c2, c3, c4, c5, c6⟩ := hc
          clear hx
          by_cases he : eqS x.a s = true
          · have he' : (x.a.toList == s.toList) = true := he
            have HE := Lib.hid he
            clear he
            go_wp2_with fail
            go_roundw
            case rel => exact ⟨k + 1, v, by omega, by go_num, by rw [HF.out, ← HXK.out, show keepB s x = false by unfold keepB; rw [HE.out]; rfl]; simpa using HM.out⟩
            case measure => simp [intOf]; omega
          · have he' : (x.a.toList == s.toList) = false := (Bool.not_eq_true _).mp he
            have HE := Lib.hid (show eqS x.a s = false by simpa using he)
            clear he
            have hS := Lib.hid (show wr.cell? ⟨w.heap.size, 1, none⟩ = some (.slice (some ⟨b, off, none⟩) n c) ∧ wr.cell? ⟨b, off + k * 7, none⟩ = some (.string x.a) ∧ wr.cell? ⟨b, off + k * 7 + 1, none⟩ = some (.int .i64 x.u) ∧ wr.cell? ⟨b, off + k * 7 + 2, none⟩ = some (.int .i64 x.v) ∧ wr.cell? ⟨b, off + k * 7 + 3, none⟩ = some (.int .i64 x.l) ∧ wr.cell? ⟨b, off + k * 7 + 4, none⟩ = some (.int .i64 x.s) ∧ wr.cell? ⟨b, off + k * 7 + 5, none⟩ = some (.int .i64 x.f) ∧ wr.cell? ⟨b, off + k * 7 + 6, none⟩ = some (.int .i64 x.k) ∧ wr.cell? ⟨w1.heap.size + 1, 1, none⟩ = some v from ⟨m1, c0, c1, c2, c3, c4, c5, c6, HM.out.c1⟩)
            have hM3 := HM.out.le
            have hM4 := HM.out.lt
            have hfl : ((xs.take k).filter (keepB s)).length ≤ 1048576 := by
              have h1 := List.length_filter_le (keepB s) (xs.take k)
              rw [List.length_take] at h1
              omega
            have hbox : w.heap.size < w1.heap.size := by omega
            go_wp2_with fail
            have OW := Lib.hid (show OwnA wr.drew w1.heap.size v ((xs.take k).filter (keepB s)) from HM.out.own)
            have hle : w1.heap.size ≤ wr.drew.heap.size := Nat.le_trans hM3 (Nat.le_of_lt hM4)
            have HSS := Lib.hid (show ∀ W4 : World, Below w1.heap.size w1 W4 → W4.cell? ⟨w1.heap.size + 1, 1, none⟩ = some v → W4.cell? ⟨w.heap.size, 1, none⟩ = some (.slice (some ⟨b, off, none⟩) n c) ∧ W4.cell? ⟨b, off + k * 7, none⟩ = some (.string x.a) ∧ W4.cell? ⟨b, off + k * 7 + 1, none⟩ = some (.int .i64 x.u) ∧ W4.cell? ⟨b, off + k * 7 + 2, none⟩ = some (.int .i64 x.v) ∧ W4.cell? ⟨b, off + k * 7 + 3, none⟩ = some (.int .i64 x.l) ∧ W4.cell? ⟨b, off + k * 7 + 4, none⟩ = some (.int .i64 x.s) ∧ W4.cell? ⟨b, off + k * 7 + 5, none⟩ = some (.int .i64 x.f) ∧ W4.cell? ⟨b, off + k * 7 + 6, none⟩ = some (.int .i64 x.k) ∧ W4.cell? ⟨w1.heap.size + 1, 1, none⟩ = some v from fun W4 hB e => by
              obtain ⟨q0, q1, q2, q3, q4, q5, q6⟩ := HC1.out.below hB hbl
              exact ⟨(hB.cell hbox).trans M1.out.c1, q0, q1, q2, q3, q4, q5, q6, e⟩)
            have d1 := HM.out.c1
            obtain ⟨A3, c3, ev3, _⟩ := HM.out.own.reads
            obtain ⟨m3, hm3⟩ : ∃ m3, m3 = ((xs.take k).filter (keepB s)).length := ⟨_, rfl⟩
            rw [← hm3] at ev3
            have HM3 := Lib.hid hm3
            subst ev3
            clear hm3
            have ne1 : b ≠ wr.heap.size := by omega
            have ne2 : w.heap.size ≠ wr.heap.size := by omega
            have ne3 : w1.heap.size + 1 ≠ wr.heap.size := by omega
            go_region_law (refine step_push_air rfl (.tmp 35) (.tmp 41) rfl wr.drew w1.heap.size (.slice A3 m3 c3) ((xs.take k).filter (keepB s)) x (by simp [Act.eval]) OW.out wr.heap.size (by simp [Act.eval]) rfl (by omega) hle ?_; intro v' w4 ho4 hg4 hl4; obtain ⟨A5, c5, ev5, _⟩ := ho4.reads; subst ev5; have HP4 := Lib.hid (HM.out.push2 hg4 ho4 hl4); obtain ⟨e4, f4, _, _⟩ := HP4.out; clear ho4 hg4 hl4)
            all_goals
              have HM5 := Lib.hid (show MSt w1 (w1.heap.size + 1) (w4.setCell ⟨w1.heap.size + 1, 1, none⟩ (.slice A5 (((xs.take k).filter (keepB s)).length + 1) c5)) j (.slice A5 (((xs.take k).filter (keepB s)).length + 1) c5) ((xs.take k).filter (keepB s) ++ [x]) by
                have h := HP4.out.2.2.1
                rw [List.length_append] at h
                exact h)
              go_wp2_with fail
              go_roundw
              case rel => exact ⟨k + 1, _, by omega, by go_num, by rw [HF.out, ← HXK.out, show keepB s x = true by unfold keepB; rw [HE.out]; rfl]; exact HM5.out⟩
              case measure => simp [intOf]; omega
        · obtain rfl : k = n := by omega
          have hki : ¬ (k : Int) < k := by omega
          have hfa : xs.take k = xs := List.take_of_length_le (by rw [HN.out]; exact Nat.le_refl _)
          rw [hfa, HDI.out.2] at HM
          clear hfa
          have HB5 := Lib.hid (stepB HB.out HM.out.bel)
          obtain ⟨⟨x0, r0⟩, ⟨x1, r1⟩, hfz⟩ := RS1.out.next HM.out.bel
          have d0 := HM.out.c0
          have d1 := HM.out.c1
          obtain ⟨A3, c3, ev3, _⟩ := HM.out.own.reads
          obtain ⟨m3, hm3⟩ : ∃ m3, m3 = (xs.eraseIdx k0).length := ⟨_, rfl⟩
          rw [← hm3] at ev3
          subst ev3
          clear hm3
          have hle1 := HM.out.le
          go_wp2_with fail
          obtain ⟨g0, g1⟩ := mcells2 r0 r1 (v0 := .int .i64 j) (v1 := .slice A3 m3 c3)
          simp [bodyPost, results, Try.results8, go_sem, g0, g1]
          exact mine_ret HRR.out (((HM.out.own.set (by omega)).set (by omega)).mono (by omega)) (set2_below HB5.out (by omega))
end Go.Proofs.Ytgiokjflfadeeaa
