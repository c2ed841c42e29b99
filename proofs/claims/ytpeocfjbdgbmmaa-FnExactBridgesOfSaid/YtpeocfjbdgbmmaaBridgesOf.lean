/-
  FnExactBridgesOf: for every mine the program's BridgesOf returns what the reference's returns; the mine and the lists stay the caller's own.
-/
import Derived.Test.YtpeocfjbdgbmmaaTreeS
import Derived.Test.YtpeocfjbdgbmmaaDel
import Derived.Deep.Onto
import Derived.Test.YtpeocfjbdgbmmaaNum
import Derived.RowKit3
import Derived.ProofKit
import Derived.OpenShut
import Derived.Lib.SmallJoins
namespace Go.Proofs.Ytpeocfjbdgbmmaa
open Go.RowKit
set_option linter.unusedVariables false

def exP (b t : Nat) : List Int := if t ≤ b then labL (fun a => (a : Int)) t else exL b (t - 1)
theorem exP_low (b t : Nat) (h : t < b) : exP b (t + 1) = exP b t ++ [(t : Int)] := by
  unfold exP
  rw [if_pos (by omega), if_pos (by omega), labL_snoc]
theorem exP_at (b : Nat) : exP b (b + 1) = exP b b := by
  unfold exP
  rw [if_neg (by omega), if_pos (Nat.le_refl _)]
  unfold exL
  apply labL_ext; intro a ha
  have : a < b := by omega
  rw [if_pos this]
theorem exP_high (b t : Nat) (h : b < t) : exP b (t + 1) = exP b t ++ [(t : Int)] := by
  obtain ⟨s, rfl⟩ : ∃ s, t = s + 1 := ⟨t - 1, by omega⟩
  unfold exP
  rw [if_neg (by omega), if_neg (by omega)]
  show exL b (s + 1) = exL b s ++ _
  unfold exL
  rw [labL_snoc, if_neg (by omega)]
  simp
theorem exP_len (b t : Nat) : (exP b t).length ≤ t := by
  unfold exP; split
  · rw [labL_len]; exact Nat.le_refl _
  · rw [exL_len]; omega
theorem exP_end (b m : Nat) (h : b < m + 1) : exP b (m + 1) = exL b m := by
  unfold exP; rw [if_neg (by omega)]; rfl
def brT (xs : List AW) (m : Nat) : Nat → List Int
  | 0 => []
  | k + 1 => if joinB xs (exL k m) k then brT xs m k else brT xs m k ++ [(k : Int)]
theorem brT_yes {xs : List AW} {m k : Nat} (h : joinB xs (exL k m) k = true) : brT xs m (k + 1) = brT xs m k := by
  show (if joinB xs (exL k m) k then _ else _) = _
  rw [if_pos h]
theorem brT_no {xs : List AW} {m k : Nat} (h : joinB xs (exL k m) k = false) : brT xs m (k + 1) = brT xs m k ++ [(k : Int)] := by
  show (if joinB xs (exL k m) k then _ else _) = _
  rw [if_neg (by simp [h])]
theorem brT_len (xs : List AW) (m k : Nat) : (brT xs m k).length ≤ k := by
  induction k with
  | zero => simp [brT]
  | succ k ih => unfold brT; split <;> (try simp) <;> omega
def brF (j : Int) (xs : List AW) : List Int := if mineB j xs then brT xs (xs.length - 1) xs.length else []
def brC (j : Int) (xs : List AW) : Int := if mineB j xs then 0 else 1
theorem br_in {j : Int} {xs : List AW} (h : mineB j xs = true) : brF j xs = brT xs (xs.length - 1) xs.length ∧ brC j xs = 0 := by
  unfold brF brC; rw [h]; exact ⟨rfl, rfl⟩
theorem br_no {j : Int} {xs : List AW} (h : mineB j xs = false) : brF j xs = [] ∧ brC j xs = 1 := by
  unfold brF brC; rw [h]; exact ⟨rfl, rfl⟩
theorem brF_len (j : Int) (xs : List AW) : (brF j xs).length ≤ xs.length := by
  unfold brF; split
  · exact brT_len xs _ _
  · simp

set_option maxHeartbeats 1000000 in
theorem l04AllB_any (g b : Nat) (A : Option Addr) (n m c : Nat) (w : World) (h20 : n ≤ 1048576) (hn : n = m + 1) (hb : b < n) (m1 : w.cell? ⟨g, 1, none⟩ = some (.slice A n c)) :
    Calls Try.prog 70 #[.pointer (some ⟨g, 0, none⟩), .int .i64 (b : Int)] w (OnePost (exL b m) w) := by
  have M1 := Lib.hid m1
  have HN := Lib.hid hn
  clear m1 hn
  go_enter Try.func70, Try.ntmps70
  go_wp2_with fail
  go_loopw [5, 6] (fun v t wr => ∃ k : Nat, k ≤ n ∧ t = .int .i64 (k : Int) ∧ OwnI wr w.heap.size v (exP b k) ∧ Below w.heap.size w wr) (fun _ t _ => n - (intOf t).toNat)
  case atStart => exact ⟨0, Nat.zero_le _, rfl, by unfold exP; rw [if_pos (Nat.zero_le _)]; exact OwnI.lit _ _ (Nat.le_refl _), (Below.refl _ _).alloc (Nat.le_refl _) _⟩
  case round =>
    obtain ⟨k, hk, rfl, ho, hbb⟩ := hrel
    have HO := Lib.hid ho
    have HB := Lib.hid hbb
    clear ho hbb
    have n1 : wr.cell? ⟨g, 1, none⟩ = some (.slice A n c) := (HB.out.cell (World.block_lt_of_cell? w _ M1.out)).trans M1.out
    have hlen := exP_len b k
    by_cases hlt : k < n
    · have hki : (k : Int) < n := by omega
      by_cases he : k = b
      · subst he
        have hne : ((k : Int) == (k : Int)) = true := by simp
        have hne2 : ((k : Int) != (k : Int)) = false := by simp
        go_wp2_with fail
        go_roundw
        case rel => exact ⟨k + 1, by omega, by go_num, by rw [exP_at]; exact HO.out, HB.out⟩
        case measure => simp [intOf]; omega
      · have hne : ((k : Int) == (b : Int)) = false := beq_eq_false_iff_ne.2 (by omega)
        have hne2 : ((k : Int) != (b : Int)) = true := bne_iff_ne.2 (by omega)
        have HSN := Lib.hid (show exP b (k + 1) = exP b k ++ [(k : Int)] by
          by_cases h : k < b
          · exact exP_low b k h
          · exact exP_high b k (by omega))
        go_wp2_with (at_builtin; refine push_law rfl (.tmp 20) (.tmp 22) rfl _ w.heap.size _ (exP b k) (k : Int) rfl HO.out rfl (by omega) HB.out.size ?_; intro v' w4 ho4 hg4 hl4; have HO4 := Lib.hid ho4; have HB4 := Lib.hid (below_grown (HB.out.alloc HB.out.size _) hg4 (fun g e => (HO.out.lt e).1) (by have := HB.out.size; simp; omega)); clear ho4 hg4 hl4)
        go_roundw
        case rel => exact ⟨k + 1, by omega, by go_num, by rw [HSN.out]; exact HO4.out, HB4.out⟩
        case measure => simp [intOf]; omega
    · obtain rfl : k = n := by omega
      go_wp2_with fail
      go_ret
      exact ⟨_, rfl, by rw [← exP_end b m (by have := HN.out; omega), ← HN.out]; exact HO.out, HB.out⟩

theorem two_next' {w w1 : World} {A : Option Addr} {n c g : Nat} {j : Int} (hb : Below w.heap.size w w1) (h : w.cell? ⟨g, 0, none⟩ = some (.int .i64 j) ∧ w.cell? ⟨g, 1, none⟩ = some (.slice A n c)) : w1.cell? ⟨g, 0, none⟩ = some (.int .i64 j) ∧ w1.cell? ⟨g, 1, none⟩ = some (.slice A n c) :=
  ⟨(hb.cell (World.block_lt_of_cell? w _ h.1)).trans h.1, (hb.cell (World.block_lt_of_cell? w _ h.2)).trans h.2⟩
theorem b_next {w w1 : World} {A : Option Addr} {n c g b : Nat} {j u v : Int} (hb : Below w.heap.size w w1) (hS : w.cell? ⟨g, 0, none⟩ = some (.int .i64 j) ∧ w.cell? ⟨g, 1, none⟩ = some (.slice A n c) ∧ w.cell? ⟨b, 1, none⟩ = some (.int .i64 u) ∧ w.cell? ⟨b, 2, none⟩ = some (.int .i64 v)) : w1.cell? ⟨g, 0, none⟩ = some (.int .i64 j) ∧ w1.cell? ⟨g, 1, none⟩ = some (.slice A n c) ∧ w1.cell? ⟨b, 1, none⟩ = some (.int .i64 u) ∧ w1.cell? ⟨b, 2, none⟩ = some (.int .i64 v) := t_next hb hS

set_option maxHeartbeats 4000000 in
set_option maxRecDepth 100000 in
theorem brP_any (j : Int) (A : Option Addr) (c : Nat) (xs : List AW) (n : Nat) (w : World) (hn : xs.length = n) (h20 : n ≤ 1048576) (hs : ∀ k, k < n → (atA xs k).a.size ≤ maxLen) (hx : Airs w A xs) :
    Calls Try.prog 37 #[.agg #[.int .i64 j, .slice A n c]] w (ListPost (brF j xs) (brC j xs) w) := by
  have b0 : Below w.heap.size w (w.alloc (.cells #[.int .i64 j, .slice A n c] 29)) := by ((repeat (first | with_reducible exact Below.refl _ _ | with_reducible apply below_drewN | with_reducible apply Below.drew | (with_reducible refine Below.alloc ?_ ?_ _) | (with_reducible refine Below.setCell ?_ ?_ _) | (with_reducible refine Below.trans ?_ (hb4.mono ?_)) | (with_reducible refine Below.trans ?_ (hb3.mono ?_)) | (with_reducible refine Below.trans ?_ (hb2.mono ?_)))); all_goals (first | (simp <;> omega) | (have h2s := hb2.size; (try simp at h2s); (try simp); omega) | (have h2s := hb2.size; have h3s := hb3.size; (try simp at h2s); (try simp at h3s); (try simp); omega) | (have h2s := hb2.size; have h3s := hb3.size; have h4s := hb4.size; (try simp at h2s); (try simp at h3s); (try simp at h4s); (try simp); omega)))
  have HX := Lib.hid (hx.next b0)
  have HN := Lib.hid hn
  have HS := Lib.hid hs
  clear hx hn hs
  go_enter Try.func37, Try.ntmps37
  go_wp2_with fail
  refine (validMineP_any j _ _ xs n _ HN.out h20 HS.out HX.out).mono ?_
  by_cases hv : mineB j xs = true
  · have HV := Lib.hid hv
    obtain ⟨h24, hj, hends⟩ := mine_ends hv
    rw [HV.out]
    clear hv
    rintro e w1 ⟨rfl, b1⟩
    obtain ⟨J, rfl⟩ := Int.eq_ofNat_of_zero_le (show 0 ≤ j by omega)
    have m0 : w1.cell? ⟨w.heap.size, 0, none⟩ = some (.int .i64 (J : Int)) := (b1.cell (by simp)).trans (by simp [go_sem])
    have m1 : w1.cell? ⟨w.heap.size, 1, none⟩ = some (.slice A n c) := (b1.cell (by simp)).trans (by simp [go_sem])
    have HEN := Lib.hid (by rw [HN.out] at hends; exact hends)
    have c1 := stepB b0 b1
    have HC := Lib.hid c1
    have HX1 := Lib.hid (HX.out.next b1)
    have M0 := Lib.hid m0
    have M1 := Lib.hid m1
    have hJ : J ≤ 16 := by omega
    clear b0 c1 b1 hends
    go_wp2_with fail
    clear m0 m1
    go_loopw [4, 14] (fun v t wr => ∃ k : Nat, k ≤ n ∧ t = .int .i64 (k : Int) ∧ OwnI wr w1.heap.size v (brT xs (n - 1) k) ∧ Below w1.heap.size w1 wr) (fun _ t _ => n - (intOf t).toNat)
    case atStart => exact ⟨0, Nat.zero_le _, rfl, World.ownsRow_nil _ _ _ _, Below.refl _ _⟩
    case round =>
      obtain ⟨k, hk, rfl, ho, hb⟩ := hrel
      have HO := Lib.hid ho
      have HB := Lib.hid hb
      clear ho hb
      have hlen := brT_len xs (n - 1) k
      by_cases hlt : k < n
      · obtain ⟨m, hm⟩ : ∃ m, n = m + 1 := ⟨n - 1, by omega⟩
        have hm1 : n - 1 = m := by omega
        rw [hm1] at HO hlen ⊢
        have HM := Lib.hid hm
        have HM1 := Lib.hid hm1
        clear hm hm1
        have hAX := HX1.out.next HB.out
        have m0 : wr.cell? ⟨w.heap.size, 0, none⟩ = some (.int .i64 (J : Int)) := (HB.out.cell (World.block_lt_of_cell? w1 _ M0.out)).trans M0.out
        have m1 : wr.cell? ⟨w.heap.size, 1, none⟩ = some (.slice A n c) := (HB.out.cell (World.block_lt_of_cell? w1 _ M1.out)).trans M1.out
        obtain ⟨b, off, rfl, hb', hc⟩ := hAX.at_ (k := k) (by have := HN.out; omega)
        have hki : (k : Int) < n := by omega
        obtain ⟨⟨hu1, hu2⟩, ⟨hv1, hv2⟩, hne⟩ := HEN.out k hlt
        obtain ⟨ux, hux⟩ := Int.eq_ofNat_of_zero_le hu1
        obtain ⟨vx, hvx⟩ := Int.eq_ofNat_of_zero_le hv1
        have HUV := Lib.hid (show (atA xs k).u = ux ∧ (atA xs k).v = vx ∧ ux < J ∧ vx < J from ⟨hux, hvx, by omega, by omega⟩)
        obtain ⟨c0, c1, c2, c3, c4, c5, c6⟩ := hc
        rw [hux] at c1
        rw [hvx] at c2
        generalize atA xs k = x at c0 c3 c4 c5 c6
        have bA : Below wr.heap.size wr ((wr.alloc (.cells #[.int .i64 (k : Int)] 3)).alloc (.cells #[.string x.a, .int .i64 (ux : Int), .int .i64 (vx : Int), .int .i64 x.l, .int .i64 x.s, .int .i64 x.f, .int .i64 x.k] 58)) := ((Below.refl _ _).alloc (Nat.le_refl _) _).alloc (by simp) _
        have HF := Lib.hid (show _ ∧ _ ∧ _ ∧ _ from ⟨(bA.cell (World.block_lt_of_cell? wr _ m0)).trans m0, (bA.cell (World.block_lt_of_cell? wr _ m1)).trans m1, (show ((wr.alloc (.cells #[.int .i64 (k : Int)] 3)).alloc (.cells #[.string x.a, .int .i64 (ux : Int), .int .i64 (vx : Int), .int .i64 x.l, .int .i64 x.s, .int .i64 x.f, .int .i64 x.k] 58)).cell? ⟨wr.heap.size + 1, 1, none⟩ = some (.int .i64 (ux : Int)) by simp [go_sem]), (show ((wr.alloc (.cells #[.int .i64 (k : Int)] 3)).alloc (.cells #[.string x.a, .int .i64 (ux : Int), .int .i64 (vx : Int), .int .i64 x.l, .int .i64 x.s, .int .i64 x.f, .int .i64 x.k] 58)).cell? ⟨wr.heap.size + 1, 2, none⟩ = some (.int .i64 (vx : Int)) by simp [go_sem])⟩)
        have HKI := Lib.hid (show ((wr.alloc (.cells #[.int .i64 (k : Int)] 3)).alloc (.cells #[.string x.a, .int .i64 (ux : Int), .int .i64 (vx : Int), .int .i64 x.l, .int .i64 x.s, .int .i64 x.f, .int .i64 x.k] 58)).cell? ⟨wr.heap.size, 0, none⟩ = some (.int .i64 (k : Int)) by simp [go_sem, World.cell?_alloc_past])
        have HXA := Lib.hid (hAX.next bA)
        have HBA := Lib.hid (stepB HB.out bA)
        have HOA := Lib.hid (HO.out.below bA)
        have HSZ := Lib.hid (show wr.heap.size < ((wr.alloc (.cells #[.int .i64 (k : Int)] 3)).alloc (.cells #[.string x.a, .int .i64 (ux : Int), .int .i64 (vx : Int), .int .i64 x.l, .int .i64 x.s, .int .i64 x.f, .int .i64 x.k] 58)).heap.size by simp; omega)
        clear hux hvx hu1 hu2 hv1 hv2 hne hAX bA
        obtain ⟨f0, f1, _, _⟩ := HF.out
        go_wp2_with fail
        clear f0 f1
        generalize hW2 : ((wr.alloc (.cells #[.int .i64 (k : Int)] 3)).alloc (.cells #[.string x.a, .int .i64 (ux : Int), .int .i64 (vx : Int), .int .i64 x.l, .int .i64 x.s, .int .i64 x.f, .int .i64 x.k] 58)) = W2 at HF HKI HXA HBA HOA HSZ ⊢
        clear c0 c1 c2 c3 c4 c5 c6 m0 m1 hW2
        refine (all_any J _ n c _ h20).mono ?_; rintro e w3 ⟨v3, rfl, ho3, b3⟩
        obtain ⟨gg, cc, _, ev3, hg3, _, _, _, _⟩ := ho3.block (by rw [labL_len]; omega)
        rw [labL_len] at ev3
        subst ev3
        have HF3 := Lib.hid (t_next b3 HF.out)
        have HKI3 := Lib.hid ((b3.cell (by simpa using HSZ.out)).trans HKI.out)
        have HO3 := Lib.hid ho3
        have HB3 := Lib.hid b3
        have HXA3 := Lib.hid (HXA.out.next b3)
        have HSZ3 := Lib.hid b3.size
        clear ho3 b3
        go_wp2_with fail
        refine (delF_any gg cc m n k wr.heap.size W2.heap.size _ HM.out hlt h20 HO3.out HSZ3.out HSZ.out HKI3.out).mono ?_
        rintro e w4 ⟨rfl, hi4, b4⟩
        have b4' : Below W2.heap.size W2 w4 := HB3.out.trans b4
        have HF4 := Lib.hid (t_next b4' HF.out)
        have HXA4 := Lib.hid (HXA.out.next b4')
        have HI4 := Lib.hid hi4
        have HB4 := Lib.hid (stepB HBA.out b4')
        have HO4 := Lib.hid (HOA.out.below b4')
        have hpk : w4.cell? ⟨wr.heap.size, 0, none⟩ = some (.int .i64 (k : Int)) := (b4'.cell (by simpa using HSZ.out)).trans HKI.out
        have HPK := Lib.hid hpk
        clear hi4 b4 b4' hpk
        go_wp2_with fail
        by_cases hj : joinB xs (exL k m) k = true
        · have HJ := Lib.hid hj
          clear hj
          go_region_held3 (fun w' => w'.cell? ⟨w.heap.size, 0, none⟩ = some (.int .i64 (J : Int)) ∧ w'.cell? ⟨w.heap.size, 1, none⟩ = some (.slice (some ⟨b, off, none⟩) n c) ∧ w'.cell? ⟨wr.heap.size + 1, 1, none⟩ = some (.int .i64 (ux : Int)) ∧ w'.cell? ⟨wr.heap.size + 1, 2, none⟩ = some (.int .i64 (vx : Int))) (first | exact HF4.out | exact t_next bq HF4.out)
            ((first | (go_at_call 72; refine (reached_any J _ c xs n ux (some ⟨gg, 0, none⟩) cc (exL k m) m _ HN.out h20 hJ HUV.out.2.2.1 HEN.out (exL_len k m) (by have := HM.out; omega) (fun i hi => by have := exL_bd k m (by have := HM.out; omega) i hi; have := HM.out; omega) HXA4.out.drew (intsDrew HI4.out)).mono ?_; rintro e w7 ⟨v7, rs, rfl, ho7, bq, hg7⟩; obtain ⟨A7, c7, ev7, _⟩ := ho7.reads; subst ev7) | (go_at_call 76; refine (containsI_any _ _ rs _ (vx : Int) _ rfl (by have := hg7.len; omega) ho7.ints.2 true ((reach_join HEN.out (exL_len k m) (fun i hi => by have := exL_bd k m (by have := HM.out; omega) i hi; have := HM.out; omega) hg7 HUV.out.1 HUV.out.2.1 HUV.out.2.2.1 HUV.out.2.2.2).trans HJ.out)).mono ?_; rintro e w8 ⟨rfl, rfl⟩)))
          have HB7 := Lib.hid (stepB HB4.out (below_undrew bq))
          have HO7 := Lib.hid (HO4.out.below (below_undrew bq))
          clear bq ho7 hg7
          go_wp2_with fail
          go_roundw
          case rel => exact ⟨k + 1, by omega, by go_num, by rw [brT_yes HJ.out]; exact HO7.out, HB7.out⟩
          case measure => simp [intOf]; omega
        · simp only [Bool.not_eq_true] at hj
          have HJ := Lib.hid hj
          clear hj
          go_region_held3 (fun w' => w'.cell? ⟨w.heap.size, 0, none⟩ = some (.int .i64 (J : Int)) ∧ w'.cell? ⟨w.heap.size, 1, none⟩ = some (.slice (some ⟨b, off, none⟩) n c) ∧ w'.cell? ⟨wr.heap.size + 1, 1, none⟩ = some (.int .i64 (ux : Int)) ∧ w'.cell? ⟨wr.heap.size + 1, 2, none⟩ = some (.int .i64 (vx : Int))) (first | exact HF4.out | exact t_next bq HF4.out)
            ((first | (go_at_call 72; refine (reached_any J _ c xs n ux (some ⟨gg, 0, none⟩) cc (exL k m) m _ HN.out h20 hJ HUV.out.2.2.1 HEN.out (exL_len k m) (by have := HM.out; omega) (fun i hi => by have := exL_bd k m (by have := HM.out; omega) i hi; have := HM.out; omega) HXA4.out.drew (intsDrew HI4.out)).mono ?_; rintro e w7 ⟨v7, rs, rfl, ho7, bq, hg7⟩; obtain ⟨A7, c7, ev7, _⟩ := ho7.reads; subst ev7) | (go_at_call 76; refine (containsI_any _ _ rs _ (vx : Int) _ rfl (by have := hg7.len; omega) ho7.ints.2 false ((reach_join HEN.out (exL_len k m) (fun i hi => by have := exL_bd k m (by have := HM.out; omega) i hi; have := HM.out; omega) hg7 HUV.out.1 HUV.out.2.1 HUV.out.2.2.1 HUV.out.2.2.2).trans HJ.out)).mono ?_; rintro e w8 ⟨rfl, rfl⟩)))
          have HB7 := Lib.hid (stepB HB4.out (below_undrew bq))
          have HO7 := Lib.hid (HO4.out.below (below_undrew bq))
          have HPK7 := Lib.hid (((below_undrew bq).cell (World.block_lt_of_cell? w4 _ HPK.out)).trans HPK.out)
          clear bq ho7 hg7
          have hpk : w7.cell? ⟨wr.heap.size, 0, none⟩ = some (.int .i64 (k : Int)) := HPK7.out
          go_wp2_with (at_builtin; refine push_law rfl (.tmp 32) (.tmp 34) rfl _ w1.heap.size _ (brT xs m k) (k : Int) rfl HO7.out rfl (by omega) HB7.out.size ?_; intro v' w5 ho5 hg5 hl5; have HO5 := Lib.hid ho5; have HB5 := Lib.hid (below_grown (HB7.out.alloc HB7.out.size _) hg5 (fun g e => (HO7.out.lt e).1) (by have := HB7.out.size; simp; omega)); clear ho5 hg5 hl5)
          go_roundw
          case rel => exact ⟨k + 1, by omega, by go_num, by rw [brT_no HJ.out]; exact HO5.out, HB5.out⟩
          case measure => simp [intOf]; omega
      · obtain rfl : k = n := by omega
        go_wp2_with fail
        go_ret2
        exact list_ret (by rw [(br_in HV.out).1, (br_in HV.out).2, HN.out]; exact ⟨rfl, rfl⟩) (HO.out.mono HC.out.size) (stepB HC.out HB.out)
  · simp only [Bool.not_eq_true] at hv
    have HV := Lib.hid hv
    rw [HV.out]
    clear hv
    rintro e w1 ⟨rfl, b1⟩
    have c1 := Lib.hid (stepB b0 b1)
    clear b0 b1
    go_wp2_with fail
    go_ret2
    exact list_ret (br_no HV.out) (World.ownsRow_nil _ _ _ _) c1.out

set_option maxHeartbeats 2000000 in
set_option maxRecDepth 100000 in
theorem brS_any (j : Int) (A : Option Addr) (c : Nat) (xs : List AW) (n : Nat) (w : World) (hn : xs.length = n) (h20 : n ≤ 1048576) (hs : ∀ k, k < n → (atA xs k).a.size ≤ maxLen) (hx : Airs w A xs) :
    Calls Try.prog 36 #[.agg #[.int .i64 j, .slice A n c]] w (ListPost (brF j xs) (brC j xs) w) := by
  have b0 : Below w.heap.size w (w.alloc (.cells #[.int .i64 j, .slice A n c] 29)) := by ((repeat (first | with_reducible exact Below.refl _ _ | with_reducible apply below_drewN | with_reducible apply Below.drew | (with_reducible refine Below.alloc ?_ ?_ _) | (with_reducible refine Below.setCell ?_ ?_ _) | (with_reducible refine Below.trans ?_ (hb4.mono ?_)) | (with_reducible refine Below.trans ?_ (hb3.mono ?_)) | (with_reducible refine Below.trans ?_ (hb2.mono ?_)))); all_goals (first | (simp <;> omega) | (have h2s := hb2.size; (try simp at h2s); (try simp); omega) | (have h2s := hb2.size; have h3s := hb3.size; (try simp at h2s); (try simp at h3s); (try simp); omega) | (have h2s := hb2.size; have h3s := hb3.size; have h4s := hb4.size; (try simp at h2s); (try simp at h3s); (try simp at h4s); (try simp); omega)))
  have HX := Lib.hid (hx.next b0)
  have HN := Lib.hid hn
  have HS := Lib.hid hs
  clear hx hn hs
  go_enter Try.func36, Try.ntmps36
  go_wp2_with fail
  refine (l04Ok_any _ j A c xs n _ HN.out h20 HS.out HX.out (by simp [go_sem]) (by simp [go_sem])).mono ?_
  by_cases hv : mineB j xs = true
  · have HV := Lib.hid hv
    obtain ⟨h24, hj, hends⟩ := mine_ends hv
    rw [HV.out]
    clear hv
    rintro e w1 ⟨rfl, q1, rfl⟩
    obtain ⟨J, rfl⟩ := Int.eq_ofNat_of_zero_le (show 0 ≤ j by omega)
    have c1 := below_drewN b0 q1
    have HX1 := Lib.hid (HX.out.next (below_drewN (Below.refl _ _) q1))
    generalize hw1 : (w.alloc (.cells #[.int .i64 (J : Int), .slice A n c] 29)).drewN q1 = w1 at c1 HX1 ⊢
    have m0 : w1.cell? ⟨w.heap.size, 0, none⟩ = some (.int .i64 (J : Int)) := by rw [← hw1]; simp [go_sem]
    have m1 : w1.cell? ⟨w.heap.size, 1, none⟩ = some (.slice A n c) := by rw [← hw1]; simp [go_sem]
    have HEN := Lib.hid (by rw [HN.out] at hends; exact hends)
    have HC := Lib.hid c1
    have M0 := Lib.hid m0
    have M1 := Lib.hid m1
    clear b0 c1 hw1 hends
    go_wp2_with fail
    clear m0 m1
    go_loopw [4, 5] (fun v t wr => ∃ k : Nat, k ≤ n ∧ t = .int .i64 (k : Int) ∧ OwnI wr w1.heap.size v (brT xs (n - 1) k) ∧ Below w1.heap.size w1 wr) (fun _ t _ => n - (intOf t).toNat)
    case atStart => exact ⟨0, Nat.zero_le _, rfl, OwnI.lit _ _ (Nat.le_refl _), (Below.refl _ _).alloc (Nat.le_refl _) _⟩
    case round =>
      obtain ⟨k, hk, rfl, ho, hb⟩ := hrel
      have HO := Lib.hid ho
      have HB := Lib.hid hb
      clear ho hb
      have hlen := brT_len xs (n - 1) k
      have m1 : wr.cell? ⟨w.heap.size, 1, none⟩ = some (.slice A n c) := (HB.out.cell (World.block_lt_of_cell? w1 _ M1.out)).trans M1.out
      by_cases hlt : k < n
      · obtain ⟨m, hm⟩ : ∃ m, n = m + 1 := ⟨n - 1, by omega⟩
        have hm1 : n - 1 = m := by omega
        rw [hm1] at HO hlen ⊢
        have HM := Lib.hid hm
        have HM1 := Lib.hid hm1
        clear hm hm1
        have m0 : wr.cell? ⟨w.heap.size, 0, none⟩ = some (.int .i64 (J : Int)) := (HB.out.cell (World.block_lt_of_cell? w1 _ M0.out)).trans M0.out
        have hki : (k : Int) < n := by omega
        go_wp2_with fail
        refine (l04AllB_any _ k A n m c _ h20 HM.out hlt m1).mono ?_; rintro e w2 ⟨v, rfl, ho, b2⟩
        obtain ⟨A2, c2, ev, hi⟩ := ho.reads
        rw [exL_len] at ev
        subst ev
        obtain ⟨n0, n1⟩ := two_next' b2 ⟨m0, m1⟩
        have HB2 := Lib.hid (stepB HB.out b2)
        have HO2 := Lib.hid (HO.out.below b2)
        clear b2 m0 m1
        go_wp2_with fail
        refine (l04Parts_any _ (J : Int) A c xs n A2 c2 (exL k m) m _ HN.out h20 (by omega) (fun i hi => ⟨(HEN.out i hi).1, (HEN.out i hi).2.1⟩) (exL_len k m) (by have := HM.out; omega) (fun i hi => by have := exL_bd k m (by have := HM.out; omega) i hi; have := HM.out; omega) (HX1.out.next HB2.out) hi n0 n1).mono ?_
        rintro e w3 ⟨gp, cp, rfl, hop, bp⟩
        rw [Int.toNat_natCast, labL_len] at hop
        have HB1 := Lib.hid (stepB HB2.out bp)
        have HO1 := Lib.hid (HO2.out.below bp)
        have p1 : w3.cell? ⟨w.heap.size, 1, none⟩ = some (.slice A n c) := (bp.cell (World.block_lt_of_cell? w2 _ n1)).trans n1
        clear n0 n1 hi ho
        obtain ⟨b, off, rfl, hb', hc⟩ := (HX1.out.next HB1.out).at_ (k := k) (by have := HN.out; omega)
        obtain ⟨⟨hu1, hu2⟩, ⟨hv1, hv2⟩, hne⟩ := HEN.out k hlt
        obtain ⟨ux, hux⟩ := Int.eq_ofNat_of_zero_le hu1
        obtain ⟨vx, hvx⟩ := Int.eq_ofNat_of_zero_le hv1
        obtain ⟨_, c1, c2, _, _, _, _⟩ := hc
        rw [hux] at c1
        rw [hvx] at c2
        have hu3 : (ux : Int) < J := by omega
        have hv3 : (vx : Int) < J := by omega
        have du := own_cell hop (a := ux) (by omega)
        have dv := own_cell hop (a := vx) (by omega)
        have hjd : joinB xs (exL k m) k = (partsF xs (exL k m) m ux == partsF xs (exL k m) m vx) := by
          unfold joinB; rw [exL_len, hux, hvx, Int.toNat_natCast, Int.toNat_natCast]
        rw [labL_len, Int.toNat_natCast]
        clear hux hvx hu1 hu2 hv1 hv2 hne hop bp
        generalize partsF xs (exL k m) m ux = pu at du hjd
        generalize partsF xs (exL k m) m vx = pv at dv hjd
        by_cases he : pu = pv
        · subst he
          have HJ := Lib.hid (show joinB xs (exL k m) k = true by rw [hjd]; simp)
          clear hjd
          go_wp2_with fail
          go_quiet (fail)
          go_wp2_with fail
          go_roundw
          case rel => exact ⟨k + 1, by omega, by go_num, by rw [brT_yes HJ.out]; exact HO1.out, by first | exact HB1.out | exact below_drewN HB1.out _⟩
          case measure => simp [intOf]; omega
        · have heb : (pu == pv) = false := by simpa using he
          have heb2 : (pu != pv) = true := by simpa using he
          have HJ := Lib.hid (show joinB xs (exL k m) k = false by rw [hjd]; exact heb)
          clear hjd
          go_wp2_with fail
          go_quiet (fail)
          go_wp2_with (at_builtin; refine push_law rfl (.tmp 39) (.tmp 41) rfl _ w1.heap.size _ (brT xs m k) (k : Int) rfl (HO1.out.drewN _) rfl (by omega) (below_drewN HB1.out _).size ?_; intro v' w4 ho4 hg4 hl4; have HO4 := Lib.hid ho4; have HB4 := Lib.hid (below_grown ((below_drewN HB1.out _).alloc (below_drewN HB1.out _).size _) hg4 (fun g e => ((HO1.out.drewN 0).lt e).1) (by have := HB1.out.size; simp; omega)); clear ho4 hg4 hl4)
          go_roundw
          case rel => exact ⟨k + 1, by omega, by go_num, by rw [brT_no HJ.out]; exact HO4.out, HB4.out⟩
          case measure => simp [intOf]; omega
      · obtain rfl : k = n := by omega
        go_wp2_with fail
        go_ret2
        exact list_ret (by rw [(br_in HV.out).1, (br_in HV.out).2, HN.out]; exact ⟨rfl, rfl⟩) (HO.out.mono HC.out.size) (stepB HC.out HB.out)
  · simp only [Bool.not_eq_true] at hv
    have HV := Lib.hid hv
    rw [HV.out]
    clear hv
    rintro e w1 ⟨rfl, q1, rfl⟩
    have c1 := Lib.hid (below_drewN b0 q1)
    clear b0
    go_wp2_with fail
    go_ret2
    exact list_ret (br_no HV.out) (World.ownsRow_nil _ _ _ _) c1.out

set_option maxHeartbeats 2000000 in
theorem law_BridgesOf (j : Int) (A : Option Addr) (n c : Nat) (xs : List AW) (hn : xs.length = n) (hm : n ≤ maxLen) (hs : ∀ k, k < n → (atA xs k).a.size ≤ maxLen) (w : World) (hx : Airs w A xs) :
    Calls Try.prog 10 #[.agg #[.int .i64 j, .slice A n c]] w fun e w' => e = .returned (.bool true) ∧ Below w.heap.size w w' := by
  unfold maxLen at hm
  have HX := Lib.hid hx
  have HN := Lib.hid hn
  have HS := Lib.hid hs
  clear hx hn hs
  have b0 : Below w.heap.size w (w.alloc (.cells #[.int .i64 j, .slice A n c] 24)) := (Below.refl _ _).alloc (Nat.le_refl _) _
  go_enter Try.func10, Try.ntmps10
  go_wp2_with fail
  refine (szMine_any j A c xs n 1048576 _ HN.out (by unfold maxLen; omega) (by omega) (by omega) HS.out (HX.out.next b0)).mono ?_; rintro e w1 ⟨r, rfl, hr, b1⟩
  have m0 : w1.cell? ⟨w.heap.size, 0, none⟩ = some (.int .i64 j) := (b1.cell (by simp)).trans (by simp [go_sem])
  have m1 : w1.cell? ⟨w.heap.size, 1, none⟩ = some (.slice A n c) := (b1.cell (by simp)).trans (by simp [go_sem])
  have c1 := stepB b0 b1
  clear b0 b1
  by_cases hr0 : r < 0
  · go_wp2_with fail
    go_ret
    exact ⟨rfl, c1⟩
  · have hr2 := hr.resolve_left hr0
    have h20 : n ≤ 1048576 := by have := HN.out; omega
    clear hr
    have hr0 : 0 ≤ r := by omega
    clear hr2
    go_wp2_with fail
    refine (toMine_any j A c xs n _ HN.out h20 (HX.out.next c1)).mono ?_; rintro e w2 ⟨g2, rfl, hg2, r2, b2⟩
    go_wp2_with fail
    obtain ⟨N, hN⟩ : ∃ N, (brF j xs).length = N := ⟨_, rfl⟩
    have hN20 : N ≤ 1048576 := by have := brF_len j xs; have := HN.out; omega
    have HL := Lib.hid hN
    clear hN
    generalize hls : brF j xs = ls at HL
    generalize hcd : brC j xs = cd
    have HLS := Lib.hid hls
    have HCD := Lib.hid hcd
    clear hls hcd
    refine (brS_any j _ _ xs n _ HN.out h20 HS.out (r2.airs HN.out)).mono ?_; rw [HLS.out, HCD.out]; rintro e w3 ⟨v0, rfl, ho0, b3⟩
    obtain ⟨A0, k0, ev0, J0⟩ := ho0.reads
    rw [HL.out] at ev0
    subst ev0
    clear ho0
    have b23 := stepB b2 b3
    have n0 : w3.cell? ⟨w.heap.size, 0, none⟩ = some (.int .i64 j) := (b23.cell (World.block_lt_of_cell? w1 _ m0)).trans m0
    have n1 : w3.cell? ⟨w.heap.size, 1, none⟩ = some (.slice A n c) := (b23.cell (World.block_lt_of_cell? w1 _ m1)).trans m1
    have c3 := stepB c1 b23
    have c3k := c3
    have N0 := Lib.hid n0
    have N1 := Lib.hid n1
    clear b2 b3 b23 m0 m1 c1 r2 hg2
    go_wp2_with fail
    refine (toMine_any j A c xs n _ HN.out h20 (HX.out.next c3)).mono ?_; rintro e w4 ⟨g4, rfl, hg4, r4, b4⟩
    have b4a : Below w3.heap.size w3 (w4.alloc (.cells #[.int .i64 j, .slice (some ⟨g4, 0, none⟩) n n] 29)) := b4.alloc b4.size _
    have o0 : (w4.alloc (.cells #[.int .i64 j, .slice (some ⟨g4, 0, none⟩) n n] 29)).cell? ⟨w.heap.size, 0, none⟩ = some (.int .i64 j) := (b4a.cell (World.block_lt_of_cell? w3 _ n0)).trans n0
    have o1 : (w4.alloc (.cells #[.int .i64 j, .slice (some ⟨g4, 0, none⟩) n n] 29)).cell? ⟨w.heap.size, 1, none⟩ = some (.slice A n c) := (b4a.cell (World.block_lt_of_cell? w3 _ n1)).trans n1
    have c4 := stepB c3 b4a
    have AX := (r4.airs HN.out).next ((Below.refl w4.heap.size w4).alloc (Nat.le_refl _) (.cells #[.int .i64 j, .slice (some ⟨g4, 0, none⟩) n n] 29))
    have RX := r4.next ((Below.refl w4.heap.size w4).alloc (Nat.le_refl _) (.cells #[.int .i64 j, .slice (some ⟨g4, 0, none⟩) n n] 29))
    have p0 : (w4.alloc (.cells #[.int .i64 j, .slice (some ⟨g4, 0, none⟩) n n] 29)).cell? ⟨w4.heap.size, 0, none⟩ = some (.int .i64 j) := by simp [go_sem]
    have p1 : (w4.alloc (.cells #[.int .i64 j, .slice (some ⟨g4, 0, none⟩) n n] 29)).cell? ⟨w4.heap.size, 1, none⟩ = some (.slice (some ⟨g4, 0, none⟩) n n) := by simp [go_sem]
    have hg43 : w3.heap.size ≤ g4 := hg4
    clear b4 n0 n1 c3 r4
    go_wp2_with fail
    refine (brP_any j _ _ xs n _ HN.out h20 HS.out AX).mono ?_; rw [HLS.out, HCD.out]; rintro e w5 ⟨v5, rfl, ho5, b5⟩
    have c5 := stepB c4 b5
    have d5 := stepB b4a b5
    have HQ := Lib.hid (q_next b5 ⟨o0, o1, p0, p1⟩)
    have AX5 := Lib.hid (AX.next b5)
    have RX5 := Lib.hid ((RX.next b5).rowN)
    have CX3 := Lib.hid (HX.out.next c3k)
    have CX5 := Lib.hid (CX3.out.next d5)
    obtain ⟨A5, k5, ev5, _⟩ := ho5.reads
    rw [HL.out] at ev5
    subst ev5
    have hB5 : g4 < (w4.alloc (.cells #[.int .i64 j, .slice (some ⟨g4, 0, none⟩) n n] 29)).heap.size := RX.lt
    have hB53 : w3.heap.size ≤ (w4.alloc (.cells #[.int .i64 j, .slice (some ⟨g4, 0, none⟩) n n] 29)).heap.size := b4a.size
    have hB5w : (w4.alloc (.cells #[.int .i64 j, .slice (some ⟨g4, 0, none⟩) n n] 29)).heap.size ≤ w5.heap.size := b5.size
    generalize hBB : (w4.alloc (.cells #[.int .i64 j, .slice (some ⟨g4, 0, none⟩) n n] 29)).heap.size = BB at ho5 hB5 hB53 hB5w
    have HBB := Lib.hid hBB
    clear hBB
    have HO5 := Lib.hid ho5
    have D5 := Lib.hid d5
    have C5 := Lib.hid c5
    clear ho5 d5 c5 b5 o0 o1 p0 p1 AX c4 RX b4a
    go_wp2_with fail
    refine (eqI_same _ _ _ _ ls N _ HL.out (by omega) HO5.out.ints.2 (J0.next D5.out)).mono ?_; rintro e w6 ⟨rfl, b6⟩
    have HO6 := Lib.hid (HO5.out.below b6)
    have D6 := Lib.hid (stepB D5.out b6)
    have C6 := Lib.hid (stepB C5.out b6)
    have HQ6 := Lib.hid (q_next b6 HQ.out)
    have AX6 := Lib.hid (AX5.out.next b6)
    have RX6 := Lib.hid (RX5.out.next b6)
    have CX6 := Lib.hid (CX5.out.next b6)
    have hs6 : w5.heap.size ≤ w6.heap.size := b6.size
    clear b6
    go_wp2_with fail
    go_region_held3 (fun w' => w'.cell? ⟨w.heap.size, 0, none⟩ = some (.int .i64 j) ∧ w'.cell? ⟨w.heap.size, 1, none⟩ = some (.slice A n c) ∧ w'.cell? ⟨w4.heap.size, 0, none⟩ = some (.int .i64 j) ∧ w'.cell? ⟨w4.heap.size, 1, none⟩ = some (.slice (some ⟨g4, 0, none⟩) n n)) (first | exact HQ6.out | exact q_next bq HQ6.out | exact q_next br (q_next bq HQ6.out))
      ((first | (go_at_call 16; refine (toMine_any j A c xs n _ HN.out h20 CX6.out.drew).mono ?_; rintro e w7 ⟨g7, rfl, hg7, r7, bq⟩) | (go_at_call 18; refine (eqMine_same j _ _ _ _ xs n _ HN.out (by omega) (AX6.out.drew.next bq) (r7.airs HN.out)).mono ?_; rintro e w8 ⟨rfl, br⟩)))
    have b8 := stepB (below_undrew bq) br
    have HO8 := Lib.hid (HO6.out.below b8)
    have D8 := Lib.hid (stepB D6.out b8)
    have C8 := Lib.hid (stepB C6.out b8)
    have RX8 := Lib.hid (RX6.out.next b8)
    have hs8 : w6.heap.size ≤ w8.heap.size := b8.size
    have HQ8 := q_next b8 HQ6.out
    obtain ⟨_, _, p0, p1⟩ := HQ8
    clear bq br r7 b8
    go_wp2_with fail
    refine (markMine_any j g4 n n _ h20 RX8.out).mono ?_; rintro e w9 ⟨r9, rfl, hg9⟩
    have D9 := Lib.hid (below_grown D8.out hg9 (fun g e => by injection e with e; omega) (by have := D8.out.size; omega))
    have C9 := Lib.hid (below_grown C8.out hg9 (fun g e => by injection e with e; have := c3k.size; omega) (by have := C8.out.size; omega))
    have HO9 := Lib.hid (HO8.out.kept hg9 (by
      cases hA : (Value.slice A5 N k5).ownBlock with
      | none => exact .inl rfl
      | some g => exact .inr (by intro e; injection e with e; have := (HO8.out.lt hA).1; omega)))
    have hs9 : w8.heap.size ≤ w9.heap.size := hg9.size
    clear hg9 p0 p1
    have hr9 : (0 : Int) ≤ (r9 : Int) := by omega
    go_wp2_with fail
    refine (eqI_same _ _ _ _ ls N _ HL.out (by omega) HO9.out.ints.2 (J0.next D9.out)).mono ?_; rintro e w10 ⟨rfl, b10⟩
    have HO10 := Lib.hid (HO9.out.below b10)
    have D10 := Lib.hid (stepB D9.out b10)
    have C10 := Lib.hid (stepB C9.out b10)
    have hs10 : w9.heap.size ≤ w10.heap.size := b10.size
    clear b10
    go_wp2_with fail
    refine (markI_any A5 k5 ls N BB _ HL.out (by omega) (by omega) HO10.out).mono ?_; rintro e w11 ⟨rfl, hm11, b11⟩
    have D11 := Lib.hid (D10.out.trans (b11.mono hB53))
    have C11 := Lib.hid (C10.out.trans (b11.mono (by have := c3k.size; omega)))
    have HM11 := Lib.hid hm11
    clear b11 hm11
    have hN0 : (0 : Int) ≤ (N : Int) := by omega
    have hN2 : (N : Int) ≤ 1048576 := by omega
    go_wp2_with fail
    refine (heldI_any A5 k5 N _ (by omega) HM11.out).mono ?_; rintro e w12 ⟨rfl, rfl⟩
    have o0 : w11.cell? ⟨w.heap.size, 0, none⟩ = some (.int .i64 j) := (D11.out.cell (World.block_lt_of_cell? w3 _ N0.out)).trans N0.out
    have o1 : w11.cell? ⟨w.heap.size, 1, none⟩ = some (.slice A n c) := (D11.out.cell (World.block_lt_of_cell? w3 _ N1.out)).trans N1.out
    have CX11 := Lib.hid (CX3.out.next D11.out)
    go_wp2_with fail
    refine (toMine_any j A c xs n _ HN.out h20 CX11.out).mono ?_; rintro e w13 ⟨g13, rfl, hg13, r13, b13⟩
    go_wp2_with fail
    refine (brP_any j _ _ xs n _ HN.out h20 HS.out (r13.airs HN.out)).mono ?_; rw [HLS.out, HCD.out]; rintro e w14 ⟨v14, rfl, ho14, b14⟩
    have b14' := stepB b13 b14
    have D14 := Lib.hid (stepB D11.out b14')
    have C14 := Lib.hid (stepB C11.out b14')
    have HM14 := Lib.hid (HM11.out.next b14')
    obtain ⟨A14, k14, ev14, i14⟩ := ho14.reads
    rw [HL.out] at ev14
    subst ev14
    have I14 := Lib.hid i14
    clear b13 b14 b14' ho14 i14 o0 o1 r13 hg13
    go_wp2_with fail
    refine (eqI_same _ _ _ _ ls N _ HL.out (by omega) I14.out (J0.next D14.out)).mono ?_; rintro e w15 ⟨rfl, b15⟩
    have C15 := Lib.hid (stepB C14.out b15)
    have HM15 := Lib.hid (HM14.out.next b15)
    clear b15
    go_wp2_with fail
    refine (heldI_any A5 k5 N _ (by omega) HM15.out).mono ?_; rintro e w16 ⟨rfl, rfl⟩
    go_wp2_with fail
    go_ret
    exact ⟨rfl, C15.out⟩

/-! ### the row of FnExactBridgesOf: the arguments are opened, the walk is met, each argument reads behind the call as before -/
namespace fnExactBridgesOf
open Go.ChangeShapes Go.WideShapes Go.ChangeAt Go.RowKit Go.Joins
open Go.ChangeMaps (open_string shut_string)
set_option linter.unusedVariables false
set_option maxRecDepth 100000 in
theorem lifted (os : Os) (started : os.Started) (H : Type) (enc : TypeId × Value → H) :
    ReturnsInHanded {} Try.checked os 10 .any (Rows.fnExactBridgesOfSpec.pre6 enc Try.prog Try.f10 Rows.fnExactBridgesOfRow.domain false) (Rows.fnExactBridgesOfSpec.post enc Try.prog Try.f10 false true false false) := by
  refine returnsInHanded_of_change (C := Try.checked) own started (by kernel_rfl) Try.func10
    (ChangeSpec.witness6 (enc := enc) (C := Try.checked) false ⟨#[], #[.agg #[.int .i64 0, .slice none 0 0]], []⟩ 8 (by kernel_rfl) (by kernel_rfl) (by kernel_rfl) (by kernel_rfl)) ?_
  intro W base args ds gs before hval0 hW hcnd _
  have hval : ∀ (j : Nat) t v, Try.f10.params[j]? = some t → args[j]? = some v → Value.okWide Try.prog W .any base t v := hval0
  have hW' := hW
  obtain ⟨p, q, hA0, hV, rfl, hfz, hnd⟩ := hW
  have hA : DataW.TrodAll enc Try.prog W 0 (fun _ => true) true Try.f10.params.toList args.toList ds p := hA0
  rw [Try.params10] at hA hval
  obtain ⟨v0, vs0, d0, ds0, p0, q0, hargs, rfl, rfl, h0, r0⟩ := trodAll_cons hA
  obtain ⟨rfl, rfl, rfl⟩ := trodAll_nil r0
  obtain rfl : args = #[v0] := by cases args; simp_all
  obtain ⟨rfl, rfl⟩ := trodVars_none hV
  clear hA0 hval0
  simp only [List.append_nil] at hW'
  have lt0 : ∀ x ∈ p0, x.block < W.heap.size := fun x hx => by simpa using hW'.lt x (by simp [hx])
  have k0 := h0
  obtain ⟨c0_0, c0_1, y0_0, y0_1, m0, rfl, rfl, rfl, hy0_0, hy0_1⟩ := open_agg2 Try.underlying24 (by kernel_rfl) (by kernel_rfl) (hval 0 24 v0 rfl rfl) h0
  obtain ⟨a0_0, e0_0, z0_0, w0_0⟩ := DataW.trod_int Try.underlying2 hy0_0
  simp only [List.cons.injEq, and_true] at e0_0; subst e0_0
  obtain ⟨A0, len0, cap0, rfl⟩ := slice_shape Try.underlying22 Try.underlying55 (by kernel_rfl) (by kernel_rfl) hy0_1
  obtain ⟨xs0, hn0, hm0, hs0, hx0⟩ := view_airs Try.underlying22 Try.underlying55 (by kernel_rfl) (by kernel_rfl) Try.underlying9 Try.underlying2 Try.underlying2 Try.underlying2 Try.underlying2 Try.underlying2 Try.underlying2 hy0_1
  refine (law_BridgesOf a0_0 A0 len0 cap0 xs0 hn0 hm0 hs0 W hx0).mono fun e W' ⟨he, hb⟩ => ?_
  subst he
  exact ⟨_, rfl, _, _, _, _, _, [], hW', (trodAll_cons_mk (shut_bool Try.underlying4 _) trodAll_mk0), (trodAll_cons_mk (Below.trod laidOut (by kernel_rfl) (of_decide_eq_true (by kernel_rfl)) k0 hb lt0) trodAll_mk0), rfl, hb.frame _, fun h => by cases h⟩

theorem proved : Rows.FnExactBridgesOfSaid :=
  OpenClaim.holds_of_wide 10 Try.f10 rfl rfl rfl rfl rfl rfl rfl ⟨rfl, rfl, rfl, rfl, rfl⟩ rfl rfl rfl rfl rfl (by kernel_rfl) Try.func10 (by kernel_rfl)
    (of_decide_eq_true (by kernel_rfl)) (by unfold Func.isWrapper; first | (rw [if_pos (by decide +kernel)]; kernel_rfl) | (rw [if_neg (by decide +kernel)]; exact ⟨rfl, rfl⟩))
    (fun os started H enc _ => lifted os started H enc)
#print axioms proved
end fnExactBridgesOf
end Go.Proofs.Ytpeocfjbdgbmmaa
