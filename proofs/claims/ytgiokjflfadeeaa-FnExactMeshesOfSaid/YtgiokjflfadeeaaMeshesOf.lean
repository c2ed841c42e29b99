/-
  FnExactMeshesOf: for every mine the program's MeshesOf returns what the reference's returns; the mine and the lists stay the caller's own.
-/
import Derived.Test.YtgiokjflfadeeaaMeshP
import Derived.Test.YtgiokjflfadeeaaMeshS
import Derived.Deep.Onto
import Derived.Test.YtgiokjflfadeeaaNum
import Derived.RowKit3
import Derived.ProofKit
import Derived.OpenShut
import Derived.Lib.SmallJoins
namespace Go.Proofs.Ytgiokjflfadeeaa
open Go.RowKit
set_option linter.unusedVariables false

set_option maxHeartbeats 600000 in
theorem msP_any (j : Int) (A : Option Addr) (c : Nat) (xs : List AW) (n : Nat) (w : World) (hn : xs.length = n) (h20 : n ≤ 1048576) (hs : ∀ k, k < n → (atA xs k).a.size ≤ maxLen) (hx : Airs w A xs) :
    Calls Try.prog 20 #[.agg #[.int .i64 j, .slice A n c]] w (LLPost (msF j xs) (msC j xs) w) := by
  have b0 : Below w.heap.size w (w.alloc (.cells #[.int .i64 j, .slice A n c] 28)) := by ((repeat (first | with_reducible exact Below.refl _ _ | with_reducible apply below_drewN | with_reducible apply Below.drew | (with_reducible refine Below.alloc ?_ ?_ _) | (with_reducible refine Below.setCell ?_ ?_ _) | (with_reducible refine Below.trans ?_ (hb4.mono ?_)) | (with_reducible refine Below.trans ?_ (hb3.mono ?_)) | (with_reducible refine Below.trans ?_ (hb2.mono ?_)))); all_goals (first | (simp <;> omega) | (have h2s := hb2.size; (try simp at h2s); (try simp); omega) | (have h2s := hb2.size; have h3s := hb3.size; (try simp at h2s); (try simp at h3s); (try simp); omega) | (have h2s := hb2.size; have h3s := hb3.size; have h4s := hb4.size; (try simp at h2s); (try simp at h3s); (try simp at h4s); (try simp); omega)))
  have HX := Lib.hid (hx.next b0)
  have HN := Lib.hid hn
  have HS := Lib.hid hs
  clear hx hn hs
  go_enter Try.func20, Try.ntmps20
  go_wp2_with fail
  refine (validMineP_any j _ _ xs n _ HN.out h20 HS.out HX.out).mono ?_
  by_cases hv : mineB j xs = true
  · have HV := Lib.hid hv
    obtain ⟨h24, hj, hends⟩ := mine_ends hv
    rw [HV.out]
    clear hv
    rintro e w1 ⟨rfl, b1⟩
    obtain ⟨J, rfl⟩ := Int.eq_ofNat_of_zero_le (show 0 ≤ j by omega)
    have m0 : w1.cell? ⟨w.heap.size, 0, none⟩ = some (.int .i64 (J : Int)) := (b1.cell (by simp)).trans (by simp [go_sem])
    have m1 : w1.cell? ⟨w.heap.size, 1, none⟩ = some (.slice A n c) := (b1.cell (by simp)).trans (by simp [go_sem])
    have c1 := stepB b0 b1
    have HC := Lib.hid c1
    have hn24 : n ≤ 24 := by have := HN.out; omega
    clear b0 c1
    go_wp2_with fail
    refine (meshes_any J A c xs n _ HN.out hn24 (by omega) (by rw [HN.out] at hends; exact hends) (HX.out.next b1)).mono ?_; rintro e w2 ⟨v, rfl, ho, b2⟩
    have HO := Lib.hid ho
    have HB := Lib.hid b2
    clear ho b1 b2 m0 m1
    go_wp2_with fail
    go_ret2
    exact ll_ret (by rw [(ms_in HV.out).1, (ms_in HV.out).2, HN.out, Int.toNat_natCast]; exact ⟨rfl, rfl⟩) (HO.out.mono HC.out.size) (stepB HC.out HB.out)
  · simp only [Bool.not_eq_true] at hv
    have HV := Lib.hid hv
    rw [HV.out]
    clear hv
    rintro e w1 ⟨rfl, b1⟩
    have c1 := Lib.hid (stepB b0 b1)
    clear b0 b1
    go_wp2_with fail
    go_ret2
    exact ll_ret (ms_no HV.out) (OwnLL.nil _ _) c1.out

set_option maxHeartbeats 600000 in
theorem msS_any (j : Int) (A : Option Addr) (c : Nat) (xs : List AW) (n : Nat) (w : World) (hn : xs.length = n) (h20 : n ≤ 1048576) (hs : ∀ k, k < n → (atA xs k).a.size ≤ maxLen) (hx : Airs w A xs) :
    Calls Try.prog 19 #[.agg #[.int .i64 j, .slice A n c]] w (LLPost (msF j xs) (msC j xs) w) := by
  have b0 : Below w.heap.size w (w.alloc (.cells #[.int .i64 j, .slice A n c] 28)) := by ((repeat (first | with_reducible exact Below.refl _ _ | with_reducible apply below_drewN | with_reducible apply Below.drew | (with_reducible refine Below.alloc ?_ ?_ _) | (with_reducible refine Below.setCell ?_ ?_ _) | (with_reducible refine Below.trans ?_ (hb4.mono ?_)) | (with_reducible refine Below.trans ?_ (hb3.mono ?_)) | (with_reducible refine Below.trans ?_ (hb2.mono ?_)))); all_goals (first | (simp <;> omega) | (have h2s := hb2.size; (try simp at h2s); (try simp); omega) | (have h2s := hb2.size; have h3s := hb3.size; (try simp at h2s); (try simp at h3s); (try simp); omega) | (have h2s := hb2.size; have h3s := hb3.size; have h4s := hb4.size; (try simp at h2s); (try simp at h3s); (try simp at h4s); (try simp); omega)))
  have HX := Lib.hid (hx.next b0)
  have HN := Lib.hid hn
  have HS := Lib.hid hs
  clear hx hn hs
  go_enter Try.func19, Try.ntmps19
  go_wp2_with fail
  refine (l04Ok_any _ j A c xs n _ HN.out h20 HS.out HX.out (by simp [go_sem]) (by simp [go_sem])).mono ?_
  by_cases hv : mineB j xs = true
  · have HV := Lib.hid hv
    obtain ⟨h24, hj, hends⟩ := mine_ends hv
    rw [HV.out]
    clear hv
    rintro e w1 ⟨rfl, q1, rfl⟩
    obtain ⟨J, rfl⟩ := Int.eq_ofNat_of_zero_le (show 0 ≤ j by omega)
    have c1 := below_drewN b0 q1
    have HX1 := Lib.hid (HX.out.next (below_drewN (Below.refl _ _) q1))
    generalize hw1 : (w.alloc (.cells #[.int .i64 (J : Int), .slice A n c] 28)).drewN q1 = w1 at c1 HX1 ⊢
    have m0 : w1.cell? ⟨w.heap.size, 0, none⟩ = some (.int .i64 (J : Int)) := by rw [← hw1]; simp [go_sem]
    have m1 : w1.cell? ⟨w.heap.size, 1, none⟩ = some (.slice A n c) := by rw [← hw1]; simp [go_sem]
    have HC := Lib.hid c1
    have hn24 : n ≤ 24 := by have := HN.out; omega
    clear b0 c1 hw1
    go_wp2_with fail
    refine (l04Meshes_any _ J A c xs n _ HN.out hn24 (by omega) (by rw [HN.out] at hends; exact hends) HX1.out m0 m1).mono ?_; rintro e w2 ⟨v, rfl, ho, b2⟩
    have HO := Lib.hid ho
    have HB := Lib.hid b2
    clear ho b2 m0 m1
    go_wp2_with fail
    go_ret2
    exact ll_ret (by rw [(ms_in HV.out).1, (ms_in HV.out).2, HN.out, Int.toNat_natCast]; exact ⟨rfl, rfl⟩) (HO.out.mono HC.out.size) (stepB HC.out HB.out)
  · simp only [Bool.not_eq_true] at hv
    have HV := Lib.hid hv
    rw [HV.out]
    clear hv
    rintro e w1 ⟨rfl, q1, rfl⟩
    have c1 := Lib.hid (below_drewN b0 q1)
    clear b0
    go_wp2_with fail
    go_ret2
    exact ll_ret (ms_no HV.out) (OwnLL.nil _ _) c1.out

set_option maxHeartbeats 2000000 in
theorem law_MeshesOf (j : Int) (A : Option Addr) (n c : Nat) (xs : List AW) (hn : xs.length = n) (hm : n ≤ maxLen) (hs : ∀ k, k < n → (atA xs k).a.size ≤ maxLen) (w : World) (hx : Airs w A xs) :
    Calls Try.prog 5 #[.agg #[.int .i64 j, .slice A n c]] w fun e w' => e = .returned (.bool true) ∧ Below w.heap.size w w' := by
  unfold maxLen at hm
  have HX := Lib.hid hx
  have HN := Lib.hid hn
  have HS := Lib.hid hs
  clear hx hn hs
  have b0 : Below w.heap.size w (w.alloc (.cells #[.int .i64 j, .slice A n c] 24)) := (Below.refl _ _).alloc (Nat.le_refl _) _
  go_enter Try.func5, Try.ntmps5
  go_wp2_with fail
  refine (szMine_any j A c xs n 1048576 _ HN.out (by unfold maxLen; omega) (by omega) (by omega) HS.out (HX.out.next b0)).mono ?_; rintro e w1 ⟨r, rfl, hr, b1⟩
  have m0 : w1.cell? ⟨w.heap.size, 0, none⟩ = some (.int .i64 j) := (b1.cell (by simp)).trans (by simp [go_sem])
  have m1 : w1.cell? ⟨w.heap.size, 1, none⟩ = some (.slice A n c) := (b1.cell (by simp)).trans (by simp [go_sem])
  have c1 := stepB b0 b1
  clear b0 b1
  by_cases hr0 : r < 0
  · go_wp2_with fail
    go_ret
    exact ⟨rfl, c1⟩
  · have hr2 := hr.resolve_left hr0
    have h20 : n ≤ 1048576 := by have := HN.out; omega
    clear hr
    have hr0 : 0 ≤ r := by omega
    clear hr2
    go_wp2_with fail
    refine (toMine_any j A c xs n _ HN.out h20 (HX.out.next c1)).mono ?_; rintro e w2 ⟨g2, rfl, hg2, r2, b2⟩
    go_wp2_with fail
    obtain ⟨N, hN⟩ : ∃ N, (msF j xs).length = N := ⟨_, rfl⟩
    have hml := msF_len j xs
    have hN20 : N ≤ 24 := by omega
    have HL := Lib.hid hN
    generalize hls : msF j xs = ls at HL hml
    generalize hcd : msC j xs = cd
    have HLM := Lib.hid (show ∀ k, k < ls.length → (atLL ls k).length ≤ 1048576 from fun k hk => Nat.le_trans (hml.2 k hk) (by omega))
    have HLN := Lib.hid (show ∀ k, k < N → (atLL ls k).length ≤ 1099511627776 from fun k hk => Nat.le_trans (hml.2 k (by have := HL.out; omega)) (by omega))
    have HZ := Lib.hid (show (0 : Int) ≤ (baseL ls ls.length : Int) ∧ (baseL ls ls.length : Int) ≤ 1073741825 by have := baseL_le HLM.out ls.length (Nat.le_refl _); have := hml.1; omega)
    have HLS := Lib.hid hls
    have HCD := Lib.hid hcd
    clear hls hcd hN hml
    refine (msS_any j _ _ xs n _ HN.out h20 HS.out (r2.airs HN.out)).mono ?_; rw [HLS.out, HCD.out]; rintro e w3 ⟨v0, rfl, ho0, b3⟩
    obtain ⟨A0, k0, ev0, J0⟩ := ho0.reads
    rw [HL.out] at ev0
    subst ev0
    clear ho0
    have b23 := stepB b2 b3
    have n0 : w3.cell? ⟨w.heap.size, 0, none⟩ = some (.int .i64 j) := (b23.cell (World.block_lt_of_cell? w1 _ m0)).trans m0
    have n1 : w3.cell? ⟨w.heap.size, 1, none⟩ = some (.slice A n c) := (b23.cell (World.block_lt_of_cell? w1 _ m1)).trans m1
    have c3 := stepB c1 b23
    have c3k := c3
    have N0 := Lib.hid n0
    have N1 := Lib.hid n1
    clear b2 b3 b23 m0 m1 c1 r2 hg2
    go_wp2_with fail
    refine (toMine_any j A c xs n _ HN.out h20 (HX.out.next c3)).mono ?_; rintro e w4 ⟨g4, rfl, hg4, r4, b4⟩
    have b4a : Below w3.heap.size w3 (w4.alloc (.cells #[.int .i64 j, .slice (some ⟨g4, 0, none⟩) n n] 28)) := b4.alloc b4.size _
    have o0 : (w4.alloc (.cells #[.int .i64 j, .slice (some ⟨g4, 0, none⟩) n n] 28)).cell? ⟨w.heap.size, 0, none⟩ = some (.int .i64 j) := (b4a.cell (World.block_lt_of_cell? w3 _ n0)).trans n0
    have o1 : (w4.alloc (.cells #[.int .i64 j, .slice (some ⟨g4, 0, none⟩) n n] 28)).cell? ⟨w.heap.size, 1, none⟩ = some (.slice A n c) := (b4a.cell (World.block_lt_of_cell? w3 _ n1)).trans n1
    have c4 := stepB c3 b4a
    have AX := (r4.airs HN.out).next ((Below.refl w4.heap.size w4).alloc (Nat.le_refl _) (.cells #[.int .i64 j, .slice (some ⟨g4, 0, none⟩) n n] 28))
    have RX := r4.next ((Below.refl w4.heap.size w4).alloc (Nat.le_refl _) (.cells #[.int .i64 j, .slice (some ⟨g4, 0, none⟩) n n] 28))
    have p0 : (w4.alloc (.cells #[.int .i64 j, .slice (some ⟨g4, 0, none⟩) n n] 28)).cell? ⟨w4.heap.size, 0, none⟩ = some (.int .i64 j) := by simp [go_sem]
    have p1 : (w4.alloc (.cells #[.int .i64 j, .slice (some ⟨g4, 0, none⟩) n n] 28)).cell? ⟨w4.heap.size, 1, none⟩ = some (.slice (some ⟨g4, 0, none⟩) n n) := by simp [go_sem]
    have hg43 : w3.heap.size ≤ g4 := hg4
    clear b4 n0 n1 c3 r4
    go_wp2_with fail
    refine (msP_any j _ _ xs n _ HN.out h20 HS.out AX).mono ?_; rw [HLS.out, HCD.out]; rintro e w5 ⟨v5, rfl, ho5, b5⟩
    have c5 := stepB c4 b5
    have d5 := stepB b4a b5
    have HQ := Lib.hid (q_next b5 ⟨o0, o1, p0, p1⟩)
    have AX5 := Lib.hid (AX.next b5)
    have RX5 := Lib.hid ((RX.next b5).rowN)
    have CX3 := Lib.hid (HX.out.next c3k)
    have CX5 := Lib.hid (CX3.out.next d5)
    obtain ⟨A5, k5, ev5, _⟩ := ho5.reads
    rw [HL.out] at ev5
    subst ev5
    have hB5 : g4 < (w4.alloc (.cells #[.int .i64 j, .slice (some ⟨g4, 0, none⟩) n n] 28)).heap.size := RX.lt
    have hB53 : w3.heap.size ≤ (w4.alloc (.cells #[.int .i64 j, .slice (some ⟨g4, 0, none⟩) n n] 28)).heap.size := b4a.size
    have hB5w : (w4.alloc (.cells #[.int .i64 j, .slice (some ⟨g4, 0, none⟩) n n] 28)).heap.size ≤ w5.heap.size := b5.size
    generalize hBB : (w4.alloc (.cells #[.int .i64 j, .slice (some ⟨g4, 0, none⟩) n n] 28)).heap.size = BB at ho5 hB5 hB53 hB5w
    have HBB := Lib.hid hBB
    clear hBB
    have HO5 := Lib.hid ho5
    have D5 := Lib.hid d5
    have C5 := Lib.hid c5
    clear ho5 d5 c5 b5 o0 o1 p0 p1 AX c4 RX b4a
    go_wp2_with fail
    refine (eqLL_same _ _ _ _ ls N _ HL.out (by omega) HLN.out HO5.out.rows.2 (J0.next D5.out)).mono ?_; rintro e w6 ⟨rfl, b6⟩
    have HO6 := Lib.hid (HO5.out.below b6)
    have D6 := Lib.hid (stepB D5.out b6)
    have C6 := Lib.hid (stepB C5.out b6)
    have HQ6 := Lib.hid (q_next b6 HQ.out)
    have AX6 := Lib.hid (AX5.out.next b6)
    have RX6 := Lib.hid (RX5.out.next b6)
    have CX6 := Lib.hid (CX5.out.next b6)
    have hs6 : w5.heap.size ≤ w6.heap.size := b6.size
    clear b6
    go_wp2_with fail
    go_region_held3 (fun w' => w'.cell? ⟨w.heap.size, 0, none⟩ = some (.int .i64 j) ∧ w'.cell? ⟨w.heap.size, 1, none⟩ = some (.slice A n c) ∧ w'.cell? ⟨w4.heap.size, 0, none⟩ = some (.int .i64 j) ∧ w'.cell? ⟨w4.heap.size, 1, none⟩ = some (.slice (some ⟨g4, 0, none⟩) n n)) (first | exact HQ6.out | exact q_next bq HQ6.out | exact q_next br (q_next bq HQ6.out))
      ((first | (go_at_call 9; refine (toMine_any j A c xs n _ HN.out h20 CX6.out.drew).mono ?_; rintro e w7 ⟨g7, rfl, hg7, r7, bq⟩) | (go_at_call 11; refine (eqMine_same j _ _ _ _ xs n _ HN.out (by omega) (AX6.out.drew.next bq) (r7.airs HN.out)).mono ?_; rintro e w8 ⟨rfl, br⟩)))
    have b8 := stepB (below_undrew bq) br
    have HO8 := Lib.hid (HO6.out.below b8)
    have D8 := Lib.hid (stepB D6.out b8)
    have C8 := Lib.hid (stepB C6.out b8)
    have RX8 := Lib.hid (RX6.out.next b8)
    have hs8 : w6.heap.size ≤ w8.heap.size := b8.size
    have HQ8 := q_next b8 HQ6.out
    obtain ⟨_, _, p0, p1⟩ := HQ8
    clear bq br r7 b8
    go_wp2_with fail
    refine (markMine_any j g4 n n _ h20 RX8.out).mono ?_; rintro e w9 ⟨r9, rfl, hg9⟩
    have D9 := Lib.hid (below_grown D8.out hg9 (fun g e => by injection e with e; omega) (by have := D8.out.size; omega))
    have C9 := Lib.hid (below_grown C8.out hg9 (fun g e => by injection e with e; have := c3k.size; omega) (by have := C8.out.size; omega))
    have HO9 := Lib.hid (HO8.out.kept hg9 (fun g e => by injection e with e; omega))
    have hs9 : w8.heap.size ≤ w9.heap.size := hg9.size
    clear hg9 p0 p1
    have hr9 : (0 : Int) ≤ (r9 : Int) := by omega
    go_wp2_with fail
    refine (eqLL_same _ _ _ _ ls N _ HL.out (by omega) HLN.out HO9.out.rows.2 (J0.next D9.out)).mono ?_; rintro e w10 ⟨rfl, b10⟩
    have HO10 := Lib.hid (HO9.out.below b10)
    have D10 := Lib.hid (stepB D9.out b10)
    have C10 := Lib.hid (stepB C9.out b10)
    have hs10 : w9.heap.size ≤ w10.heap.size := b10.size
    clear b10
    go_wp2_with fail
    refine (markLL_any A5 k5 ls N BB _ HL.out (by omega) HLM.out (by omega) HO10.out).mono ?_; rintro e w11 ⟨rfl, hm11, b11⟩
    have D11 := Lib.hid (D10.out.trans (b11.mono hB53))
    have C11 := Lib.hid (C10.out.trans (b11.mono (by have := c3k.size; omega)))
    have HM11 := Lib.hid hm11
    clear b11 hm11
    have hN0 := HZ.out.1
    have hN2 := HZ.out.2
    go_wp2_with fail
    refine (heldLL_any A5 k5 ls N _ HL.out (by omega) HLM.out HM11.out).mono ?_; rintro e w12 ⟨rfl, rfl⟩
    have o0 : w11.cell? ⟨w.heap.size, 0, none⟩ = some (.int .i64 j) := (D11.out.cell (World.block_lt_of_cell? w3 _ N0.out)).trans N0.out
    have o1 : w11.cell? ⟨w.heap.size, 1, none⟩ = some (.slice A n c) := (D11.out.cell (World.block_lt_of_cell? w3 _ N1.out)).trans N1.out
    have CX11 := Lib.hid (CX3.out.next D11.out)
    go_wp2_with fail
    refine (toMine_any j A c xs n _ HN.out h20 CX11.out).mono ?_; rintro e w13 ⟨g13, rfl, hg13, r13, b13⟩
    go_wp2_with fail
    refine (msP_any j _ _ xs n _ HN.out h20 HS.out (r13.airs HN.out)).mono ?_; rw [HLS.out, HCD.out]; rintro e w14 ⟨v14, rfl, ho14, b14⟩
    have b14' := stepB b13 b14
    have D14 := Lib.hid (stepB D11.out b14')
    have C14 := Lib.hid (stepB C11.out b14')
    have HM14 := Lib.hid (HM11.out.next b14')
    obtain ⟨A14, k14, ev14, i14⟩ := ho14.reads
    rw [HL.out] at ev14
    subst ev14
    have I14 := Lib.hid i14
    clear b13 b14 b14' ho14 i14 o0 o1 r13 hg13
    go_wp2_with fail
    refine (eqLL_same _ _ _ _ ls N _ HL.out (by omega) HLN.out I14.out (J0.next D14.out)).mono ?_; rintro e w15 ⟨rfl, b15⟩
    have C15 := Lib.hid (stepB C14.out b15)
    have HM15 := Lib.hid (HM14.out.next b15)
    clear b15
    go_wp2_with fail
    refine (heldLL_any A5 k5 ls N _ HL.out (by omega) HLM.out HM15.out).mono ?_; rintro e w16 ⟨rfl, rfl⟩
    go_wp2_with fail
    go_ret
    exact ⟨rfl, C15.out⟩

/-! ### the row of FnExactMeshesOf: the arguments are opened, the walk is met, each argument reads behind the call as before -/
namespace fnExactMeshesOf
open Go.ChangeShapes Go.WideShapes Go.ChangeAt Go.RowKit Go.Joins
open Go.ChangeMaps (open_string shut_string)
set_option linter.unusedVariables false
set_option maxRecDepth 100000 in
theorem lifted (os : Os) (started : os.Started) (H : Type) (enc : TypeId × Value → H) :
    ReturnsInHanded {} Try.checked os 5 .any (Rows.fnExactMeshesOfSpec.pre6 enc Try.prog Try.f5 Rows.fnExactMeshesOfRow.domain false) (Rows.fnExactMeshesOfSpec.post enc Try.prog Try.f5 false true false false) := by
  refine returnsInHanded_of_change (C := Try.checked) own started (by kernel_rfl) Try.func5
    (ChangeSpec.witness6 (enc := enc) (C := Try.checked) false ⟨#[], #[.agg #[.int .i64 0, .slice none 0 0]], []⟩ 8 (by kernel_rfl) (by kernel_rfl) (by kernel_rfl) (by kernel_rfl)) ?_
  intro W base args ds gs before hval0 hW hcnd _
  have hval : ∀ (j : Nat) t v, Try.f5.params[j]? = some t → args[j]? = some v → Value.okWide Try.prog W .any base t v := hval0
  have hW' := hW
  obtain ⟨p, q, hA0, hV, rfl, hfz, hnd⟩ := hW
  have hA : DataW.TrodAll enc Try.prog W 0 (fun _ => true) true Try.f5.params.toList args.toList ds p := hA0
  rw [Try.params5] at hA hval
  obtain ⟨v0, vs0, d0, ds0, p0, q0, hargs, rfl, rfl, h0, r0⟩ := trodAll_cons hA
  obtain ⟨rfl, rfl, rfl⟩ := trodAll_nil r0
  obtain rfl : args = #[v0] := by cases args; simp_all
  obtain ⟨rfl, rfl⟩ := trodVars_none hV
  clear hA0 hval0
  simp only [List.append_nil] at hW'
  have lt0 : ∀ x ∈ p0, x.block < W.heap.size := fun x hx => by simpa using hW'.lt x (by simp [hx])
  have k0 := h0
  obtain ⟨c0_0, c0_1, y0_0, y0_1, m0, rfl, rfl, rfl, hy0_0, hy0_1⟩ := open_agg2 Try.underlying24 (by kernel_rfl) (by kernel_rfl) (hval 0 24 v0 rfl rfl) h0
  obtain ⟨a0_0, e0_0, z0_0, w0_0⟩ := DataW.trod_int Try.underlying2 hy0_0
  simp only [List.cons.injEq, and_true] at e0_0; subst e0_0
  obtain ⟨A0, len0, cap0, rfl⟩ := slice_shape Try.underlying22 Try.underlying48 (by kernel_rfl) (by kernel_rfl) hy0_1
  obtain ⟨xs0, hn0, hm0, hs0, hx0⟩ := view_airs Try.underlying22 Try.underlying48 (by kernel_rfl) (by kernel_rfl) Try.underlying9 Try.underlying2 Try.underlying2 Try.underlying2 Try.underlying2 Try.underlying2 Try.underlying2 hy0_1
  refine (law_MeshesOf a0_0 A0 len0 cap0 xs0 hn0 hm0 hs0 W hx0).mono fun e W' ⟨he, hb⟩ => ?_
  subst he
  exact ⟨_, rfl, _, _, _, _, _, [], hW', (trodAll_cons_mk (shut_bool Try.underlying4 _) trodAll_mk0), (trodAll_cons_mk (Below.trod laidOut (by kernel_rfl) (of_decide_eq_true (by kernel_rfl)) k0 hb lt0) trodAll_mk0), rfl, hb.frame _, fun h => by cases h⟩

theorem proved : Rows.FnExactMeshesOfSaid :=
  OpenClaim.holds_of_wide 5 Try.f5 rfl rfl rfl rfl rfl rfl rfl ⟨rfl, rfl, rfl, rfl, rfl⟩ rfl rfl rfl rfl rfl (by kernel_rfl) Try.func5 (by kernel_rfl)
    (of_decide_eq_true (by kernel_rfl)) (by unfold Func.isWrapper; first | (rw [if_pos (by decide +kernel)]; kernel_rfl) | (rw [if_neg (by decide +kernel)]; exact ⟨rfl, rfl⟩))
    (fun os started H enc _ => lifted os started H enc)
#print axioms proved
end fnExactMeshesOf
end Go.Proofs.Ytgiokjflfadeeaa
