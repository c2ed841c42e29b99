/-
  FnExactMineText: for every mine the program's MineText returns what the reference's returns; the mine stays as it was.
-/
import Derived.Test.YtfgfoggnhjchiaaDoorAirwayText
import Derived.Test.YtfgfoggnhjchiaaDoorMineLaw
import Derived.Test.YtfgfoggnhjchiaaDoorRowM
import Derived.Test.YtfgfoggnhjchiaaDoorNum
import Derived.RowKit3
import Derived.ProofKit
import Derived.OpenShut
import Derived.Lib.SmallJoins
namespace Go.Proofs.YtfgfoggnhjchiaaDoor
open Go.RowKit
set_option linter.unusedVariables false

def lineT (x : AW) : ByteArray := (x.a ++ ⟨#[32]⟩) ++ listT (nums x)
def mnL (j : Int) (xs : List AW) : Nat → ByteArray
  | 0 => decS j
  | k + 1 => mnL j xs k ++ (⟨#[47]⟩ ++ lineT (atA xs k))
def mnT (j : Int) (xs : List AW) : ByteArray := if mineB j xs then mnL j xs xs.length else ⟨#[]⟩
theorem mine_ok {j : Int} {xs : List AW} (h : mineB j xs = true) : (1 ≤ j ∧ j ≤ 16) ∧ ∀ k, k < xs.length → (atA xs k).okB = true ∧ (atA xs k).a.size ≤ 10 := by
  unfold mineB at h
  simp only [Bool.and_eq_true, decide_eq_true_eq, List.all_eq_true, List.mem_range] at h
  obtain ⟨h1, h2, h3⟩ := h
  refine ⟨inB_true.1 h1, fun k hk => ?_⟩
  have hs := h3 k hk
  unfold stepOk at hs
  simp only [Bool.and_eq_true] at hs
  have ho := hs.1
  refine ⟨ho, ?_⟩
  unfold AW.okB airB nameB at ho
  simp only [Bool.and_eq_true, decide_eq_true_eq] at ho
  have := ho.1.2.1
  rwa [len_is] at this
theorem lineT_len {x : AW} (ho : x.okB = true) (ha : x.a.size ≤ 10) : (lineT x).size ≤ 150 := by
  have := listT_len (nums x) (nums_fit ho).2
  have e : (nums x).length = 6 := rfl
  unfold lineT
  rw [ByteArray.size_append, ByteArray.size_append]
  show x.a.size + 1 + _ ≤ _
  omega
theorem mnL_len {j : Int} {xs : List AW} (h : mineB j xs = true) (k : Nat) (hk : k ≤ xs.length) : (mnL j xs k).size ≤ 21 + 200 * k := by
  obtain ⟨hj, ho⟩ := mine_ok h
  induction k with
  | zero => exact decS_len j (by omega) (by omega)
  | succ k ih =>
    have := ih (by omega)
    have h2 := lineT_len (ho k (by omega)).1 (ho k (by omega)).2
    show (mnL j xs k ++ (⟨#[47]⟩ ++ lineT (atA xs k))).size ≤ _
    rw [ByteArray.size_append, ByteArray.size_append]
    show _ + (1 + _) ≤ _
    omega
theorem awT_is {x : AW} (ho : x.okB = true) : awT x = lineT x := by unfold awT; rw [ho]; rfl

set_option maxHeartbeats 1000000 in
theorem l04Text_any (g : Nat) (j : Int) (A : Option Addr) (c : Nat) (xs : List AW) (n : Nat) (w : World) (hn : xs.length = n) (h20 : n ≤ 1048576) (hv : mineB j xs = true) (hx : Airs w A xs) (m0 : w.cell? ⟨g, 0, none⟩ = some (.int .i64 j)) (m1 : w.cell? ⟨g, 1, none⟩ = some (.slice A n c)) :
    Calls Tryd.prog 69 #[.pointer (some ⟨g, 0, none⟩)] w (StrPost (mnL j xs n) w) := by
  have HX := Lib.hid hx
  have HN := Lib.hid hn
  have HV := Lib.hid hv
  have M1 := Lib.hid m1
  have hj := (mine_ok hv).1
  clear hx hn hv
  go_enter Tryd.func69, Tryd.ntmps69
  go_wp2_with (go_at_call 48; refine (l01Dec_any j (by omega) (by omega) _).mono ?_; rintro e w1 ⟨rfl, b1⟩; have HB1 := Lib.hid b1; clear b1 m0 m1)
  go_loopw [3, 4] (fun v t wr => ∃ k : Nat, k ≤ n ∧ t = .int .i64 (k : Int) ∧ v = .string (mnL j xs k) ∧ Below w.heap.size w wr) (fun _ t _ => n - (intOf t).toNat)
  case atStart => exact ⟨0, Nat.zero_le _, rfl, rfl, HB1.out⟩
  case round =>
    obtain ⟨k, hk, rfl, rfl, hb⟩ := hrel
    have HB := Lib.hid hb
    clear hb
    have n1 : wr.cell? ⟨g, 1, none⟩ = some (.slice A n c) := (HB.out.cell (World.block_lt_of_cell? w _ M1.out)).trans M1.out
    by_cases hlt : k < n
    · have hki : (k : Int) < n := by omega
      have hk0 : (0 : Int) ≤ k := by omega
      obtain ⟨b, off, rfl, _, hc⟩ := (HX.out.next HB.out).at_ (k := k) (by have := HN.out; omega)
      have ho := (mine_ok HV.out).2 k (by have := HN.out; omega)
      have hl := mnL_len HV.out k (by have := HN.out; omega)
      have HS := Lib.hid (show mnL j xs (k + 1) = mnL j xs k ++ (⟨#[47]⟩ ++ lineT (atA xs k)) from rfl)
      have hll := lineT_len ho.1 ho.2
      generalize atA xs k = x at hc ho hll HS
      generalize mnL j xs k = s at hl HS ⊢
      have HC := Lib.hid hc
      have HO := Lib.hid ho
      have h1 : (⟨#[47]⟩ : ByteArray).size + (lineT x).size ≤ 9223372036854775807 := by show 1 + _ ≤ _; omega
      have h2 : s.size + (⟨#[47]⟩ ++ lineT x : ByteArray).size ≤ 9223372036854775807 := by rw [ByteArray.size_append]; show _ + (1 + _) ≤ _; omega
      clear hc ho hll
      go_wp2_with (go_at_call 61; refine (l03Text_any b _ x _ (by have := HO.out.2; omega) HO.out.1 HC.out).mono ?_; show ∀ e w', StrPost (lineT x) _ e w' → _; rintro e w2 ⟨rfl, b2⟩; have HB2 := Lib.hid (stepB HB.out b2); clear b2)
      go_roundw
      case rel => exact ⟨k + 1, by omega, by go_num, by rw [HS.out], HB2.out⟩
      case measure => simp [intOf]; omega
    · obtain rfl : k = n := by omega
      have hki : ¬ (k : Int) < k := by omega
      go_wp2_with fail
      go_ret
      exact ⟨rfl, HB.out⟩

set_option maxHeartbeats 1000000 in
theorem mnS_any (j : Int) (A : Option Addr) (c : Nat) (xs : List AW) (n : Nat) (w : World) (hn : xs.length = n) (h20 : n ≤ 1048576) (hs : ∀ k, k < n → (atA xs k).a.size ≤ maxLen) (hx : Airs w A xs) :
    Calls Tryd.prog 34 #[.agg #[.int .i64 j, .slice A n c]] w (StrPost (mnT j xs) w) := by
  have b0 : Below w.heap.size w (w.alloc (.cells #[.int .i64 j, .slice A n c] 56)) := by ((repeat (first | with_reducible exact Below.refl _ _ | with_reducible apply below_drewN | with_reducible apply Below.drew | (with_reducible refine Below.alloc ?_ ?_ _) | (with_reducible refine Below.setCell ?_ ?_ _) | (with_reducible refine Below.trans ?_ (hb4.mono ?_)) | (with_reducible refine Below.trans ?_ (hb3.mono ?_)) | (with_reducible refine Below.trans ?_ (hb2.mono ?_)))); all_goals (first | (simp <;> omega) | (have h2s := hb2.size; (try simp at h2s); (try simp); omega) | (have h2s := hb2.size; have h3s := hb3.size; (try simp at h2s); (try simp at h3s); (try simp); omega) | (have h2s := hb2.size; have h3s := hb3.size; have h4s := hb4.size; (try simp at h2s); (try simp at h3s); (try simp at h4s); (try simp); omega)))
  have HX := Lib.hid (hx.next b0)
  have HN := Lib.hid hn
  have HS := Lib.hid hs
  clear hx hn hs
  go_enter Tryd.func34, Tryd.ntmps34
  go_wp2_with fail
  refine (l04Ok_any _ j A c xs n _ HN.out h20 HS.out HX.out (by simp [go_sem]) (by simp [go_sem])).mono ?_
  cases hv : mineB j xs with
  | true =>
    rintro e w1 ⟨rfl, q1, rfl⟩
    have c1 := below_drewN b0 q1
    have HX1 := Lib.hid (HX.out.next (below_drewN (Below.refl _ _) q1))
    generalize hw1 : (w.alloc (.cells #[.int .i64 j, .slice A n c] 56)).drewN q1 = w1 at c1 HX1 ⊢
    have m0 : w1.cell? ⟨w.heap.size, 0, none⟩ = some (.int .i64 j) := by rw [← hw1]; simp [go_sem]
    have m1 : w1.cell? ⟨w.heap.size, 1, none⟩ = some (.slice A n c) := by rw [← hw1]; simp [go_sem]
    have HC := Lib.hid c1
    have HV := Lib.hid hv
    clear b0 c1 hw1
    go_wp2_with (go_at_call 69; refine (l04Text_any _ j A c xs n _ HN.out h20 HV.out HX1.out m0 m1).mono ?_; rintro e w2 ⟨rfl, b2⟩; have HB := Lib.hid (stepB HC.out b2); clear b2)
    go_ret
    exact ⟨by unfold mnT; rw [HV.out, HN.out]; rfl, HB.out⟩
  | false =>
    rintro e w1 ⟨rfl, q1, rfl⟩
    have c1 := Lib.hid (below_drewN b0 q1)
    have HV := Lib.hid hv
    clear b0
    go_wp2_with fail
    go_ret
    exact ⟨by unfold mnT; rw [HV.out]; rfl, c1.out⟩

set_option maxHeartbeats 1000000 in
theorem mnP_any (j : Int) (A : Option Addr) (c : Nat) (xs : List AW) (n : Nat) (w : World) (hn : xs.length = n) (h20 : n ≤ 1048576) (hs : ∀ k, k < n → (atA xs k).a.size ≤ maxLen) (hx : Airs w A xs) (hp : Pow w) :
    Calls Tryd.prog 36 #[.agg #[.int .i64 j, .slice A n c]] w (StrPost (mnT j xs) w) := by
  have b0 : Below w.heap.size w (w.alloc (.cells #[.int .i64 j, .slice A n c] 56)) := by ((repeat (first | with_reducible exact Below.refl _ _ | with_reducible apply below_drewN | with_reducible apply Below.drew | (with_reducible refine Below.alloc ?_ ?_ _) | (with_reducible refine Below.setCell ?_ ?_ _) | (with_reducible refine Below.trans ?_ (hb4.mono ?_)) | (with_reducible refine Below.trans ?_ (hb3.mono ?_)) | (with_reducible refine Below.trans ?_ (hb2.mono ?_)))); all_goals (first | (simp <;> omega) | (have h2s := hb2.size; (try simp at h2s); (try simp); omega) | (have h2s := hb2.size; have h3s := hb3.size; (try simp at h2s); (try simp at h3s); (try simp); omega) | (have h2s := hb2.size; have h3s := hb3.size; have h4s := hb4.size; (try simp at h2s); (try simp at h3s); (try simp at h4s); (try simp); omega)))
  have HX := Lib.hid (hx.next b0)
  have HN := Lib.hid hn
  have HS := Lib.hid hs
  have HP := Lib.hid hp
  clear hx hn hs hp
  go_enter Tryd.func36, Tryd.ntmps36
  go_wp2_with fail
  refine (validMineP_any j _ _ xs n _ HN.out h20 HS.out HX.out).mono ?_
  cases hv : mineB j xs with
  | true =>
    have hj := (mine_ok hv).1
    rintro e w1 ⟨rfl, b1⟩
    have m0 : w1.cell? ⟨w.heap.size, 0, none⟩ = some (.int .i64 j) := (b1.cell (by simp)).trans (by simp [go_sem])
    have m1 : w1.cell? ⟨w.heap.size, 1, none⟩ = some (.slice A n c) := (b1.cell (by simp)).trans (by simp [go_sem])
    have HC := Lib.hid (stepB b0 b1)
    have HX1 := Lib.hid (HX.out.next b1)
    have HV := Lib.hid hv
    have HP1 := Lib.hid (HP.out.step HC.out)
    have M1 := Lib.hid m1
    clear b0 b1
    go_wp2_with (go_at_call 14; refine (decP_any j (by omega) (by omega) _ HP1.out).mono ?_; rintro e w2 ⟨rfl, b2⟩; have HB2 := Lib.hid b2; have n1 := (b2.cell (World.block_lt_of_cell? w1 _ M1.out)).trans M1.out; clear b2 m0 m1)
    clear n1
    go_loopw [3, 15] (fun v t wr => ∃ k : Nat, k ≤ n ∧ t = .int .i64 (k : Int) ∧ v = .string (mnL j xs k) ∧ Below w1.heap.size w1 wr) (fun _ t _ => n - (intOf t).toNat)
    case atStart => exact ⟨0, Nat.zero_le _, rfl, rfl, HB2.out⟩
    case round =>
      obtain ⟨k, hk, rfl, rfl, hb⟩ := hrel
      have HB := Lib.hid hb
      clear hb
      by_cases hlt : k < n
      · have hki : (k : Int) < n := by omega
        have hk0 : (0 : Int) ≤ k := by omega
        obtain ⟨b, off, rfl, _, hc⟩ := (HX1.out.next HB.out).at_ (k := k) (by have := HN.out; omega)
        have ho := (mine_ok HV.out).2 k (by have := HN.out; omega)
        have hl := mnL_len HV.out k (by have := HN.out; omega)
        have HS2 := Lib.hid (show mnL j xs (k + 1) = mnL j xs k ++ (⟨#[47]⟩ ++ lineT (atA xs k)) from rfl)
        have hll := lineT_len ho.1 ho.2
        generalize atA xs k = x at hc ho hll HS2
        generalize mnL j xs k = s at hl HS2 ⊢
        have HO := Lib.hid ho
        have h1 : (⟨#[47]⟩ : ByteArray).size + (lineT x).size ≤ 9223372036854775807 := by show 1 + _ ≤ _; omega
        have h2 : s.size + (⟨#[47]⟩ ++ lineT x : ByteArray).size ≤ 9223372036854775807 := by rw [ByteArray.size_append]; show _ + (1 + _) ≤ _; omega
        have HBA := Lib.hid (stepB HB.out ((Below.refl _ _).alloc (Nat.le_refl _) (.cells #[.string x.a, .int .i64 x.u, .int .i64 x.v, .int .i64 x.l, .int .i64 x.s, .int .i64 x.f, .int .i64 x.k] 44)))
        have HPA := Lib.hid (HP1.out.step HBA.out)
        obtain ⟨c0, c1, c2, c3, c4, c5, c6⟩ := hc
        clear ho hll
        go_wp2_with (go_at_call 30; refine (awP_any x _ (by have := HO.out.2; omega) HPA.out).mono ?_; rw [awT_is HO.out.1]; rintro e w2 ⟨rfl, b2⟩; have HB2 := Lib.hid (stepB HBA.out b2); clear b2)
        go_roundw
        case rel => exact ⟨k + 1, by omega, by go_num, by rw [HS2.out], HB2.out⟩
        case measure => simp [intOf]; omega
      · obtain rfl : k = n := by omega
        have hki : ¬ (k : Int) < k := by omega
        go_wp2_with fail
        go_ret
        exact ⟨by unfold mnT; rw [HV.out, HN.out]; rfl, stepB HC.out HB.out⟩
  | false =>
    rintro e w1 ⟨rfl, b1⟩
    have HC := Lib.hid (stepB b0 b1)
    have HV := Lib.hid hv
    clear b0 b1
    go_wp2_with fail
    go_ret
    exact ⟨by unfold mnT; rw [HV.out]; rfl, HC.out⟩

set_option maxHeartbeats 1000000 in
theorem law_MineText (j : Int) (A : Option Addr) (n c : Nat) (xs : List AW) (hn : xs.length = n) (hm : n ≤ maxLen) (hs : ∀ k, k < n → (atA xs k).a.size ≤ maxLen) (w : World) (hx : Airs w A xs) (hp : Pow w) :
    Calls Tryd.prog 9 #[.agg #[.int .i64 j, .slice A n c]] w fun e w' => e = .returned (.bool true) ∧ Below w.heap.size w w' := by
  have HP := Lib.hid hp
  clear hp
  unfold maxLen at hm
  have HX := Lib.hid hx
  have HN := Lib.hid hn
  have HS := Lib.hid hs
  clear hx hn hs
  have b0 : Below w.heap.size w (w.alloc (.cells #[.int .i64 j, .slice A n c] 51)) := (Below.refl _ _).alloc (Nat.le_refl _) _
  go_enter Tryd.func9, Tryd.ntmps9
  go_wp2_with fail
  refine (szMine_any j A c xs n 1048576 _ HN.out (by unfold maxLen; omega) (by omega) (by omega) HS.out (HX.out.next b0)).mono ?_; rintro e w1 ⟨r, rfl, hr, b1⟩
  have m0 : w1.cell? ⟨w.heap.size, 0, none⟩ = some (.int .i64 j) := (b1.cell (by simp)).trans (by simp [go_sem])
  have m1 : w1.cell? ⟨w.heap.size, 1, none⟩ = some (.slice A n c) := (b1.cell (by simp)).trans (by simp [go_sem])
  have c1 := stepB b0 b1
  clear b0 b1
  by_cases hr0 : r < 0
  · go_wp2_with fail
    go_ret
    exact ⟨rfl, c1⟩
  · have hr2 := hr.resolve_left hr0
    have h20 : n ≤ 1048576 := by have := HN.out; omega
    clear hr
    have hr0 : 0 ≤ r := by omega
    clear hr2
    go_wp2_with fail
    refine (toMine_any j A c xs n _ HN.out h20 (HX.out.next c1)).mono ?_; rintro e w2 ⟨g2, rfl, hg2, r2, b2⟩
    go_wp2_with fail
    refine (mnS_any j _ _ xs n _ HN.out h20 HS.out (r2.airs HN.out)).mono ?_; rintro e w3 ⟨rfl, b3⟩
    have b23 := stepB b2 b3
    have n0 : w3.cell? ⟨w.heap.size, 0, none⟩ = some (.int .i64 j) := (b23.cell (World.block_lt_of_cell? w1 _ m0)).trans m0
    have n1 : w3.cell? ⟨w.heap.size, 1, none⟩ = some (.slice A n c) := (b23.cell (World.block_lt_of_cell? w1 _ m1)).trans m1
    have c3 := stepB c1 b23
    clear b2 b3 b23 m0 m1 c1 r2 hg2
    go_wp2_with fail
    refine (toMine_any j A c xs n _ HN.out h20 (HX.out.next c3)).mono ?_; rintro e w4 ⟨g4, rfl, hg4, r4, b4⟩
    have b4a : Below w3.heap.size w3 (w4.alloc (.cells #[.int .i64 j, .slice (some ⟨g4, 0, none⟩) n n] 56)) := b4.alloc b4.size _
    have o0 : (w4.alloc (.cells #[.int .i64 j, .slice (some ⟨g4, 0, none⟩) n n] 56)).cell? ⟨w.heap.size, 0, none⟩ = some (.int .i64 j) := (b4a.cell (World.block_lt_of_cell? w3 _ n0)).trans n0
    have o1 : (w4.alloc (.cells #[.int .i64 j, .slice (some ⟨g4, 0, none⟩) n n] 56)).cell? ⟨w.heap.size, 1, none⟩ = some (.slice A n c) := (b4a.cell (World.block_lt_of_cell? w3 _ n1)).trans n1
    have c4 := stepB c3 b4a
    have AX := (r4.airs HN.out).next ((Below.refl w4.heap.size w4).alloc (Nat.le_refl _) (.cells #[.int .i64 j, .slice (some ⟨g4, 0, none⟩) n n] 56))
    have RX := r4.next ((Below.refl w4.heap.size w4).alloc (Nat.le_refl _) (.cells #[.int .i64 j, .slice (some ⟨g4, 0, none⟩) n n] 56))
    have p0 : (w4.alloc (.cells #[.int .i64 j, .slice (some ⟨g4, 0, none⟩) n n] 56)).cell? ⟨w4.heap.size, 0, none⟩ = some (.int .i64 j) := by simp [go_sem]
    have p1 : (w4.alloc (.cells #[.int .i64 j, .slice (some ⟨g4, 0, none⟩) n n] 56)).cell? ⟨w4.heap.size, 1, none⟩ = some (.slice (some ⟨g4, 0, none⟩) n n) := by simp [go_sem]
    clear b4 b4a n0 n1 c3 r4
    go_wp2_with fail
    refine (mnP_any j _ _ xs n _ HN.out h20 HS.out AX (HP.out.step c4)).mono ?_; rintro e w5 ⟨rfl, b5⟩
    have c5 := stepB c4 b5
    have HQ := Lib.hid (q_next b5 ⟨o0, o1, p0, p1⟩)
    have AX5 := Lib.hid (AX.next b5)
    have CX5 := Lib.hid (HX.out.next c5)
    clear b5 o0 o1 p0 p1 AX c4 RX
    go_wp2_with fail
    go_region_held3 (fun w' => w'.cell? ⟨w.heap.size, 0, none⟩ = some (.int .i64 j) ∧ w'.cell? ⟨w.heap.size, 1, none⟩ = some (.slice A n c) ∧ w'.cell? ⟨w4.heap.size, 0, none⟩ = some (.int .i64 j) ∧ w'.cell? ⟨w4.heap.size, 1, none⟩ = some (.slice (some ⟨g4, 0, none⟩) n n)) (first | exact HQ.out | exact q_next b6 HQ.out | exact q_next b7 (q_next b6 HQ.out))
      ((first | (go_at_call 35; refine (toMine_any j A c xs n _ HN.out h20 CX5.out.drew).mono ?_; rintro e w6 ⟨g6, rfl, hg6, r6, b6⟩) | (go_at_call 37; refine (eqMine_same j _ _ _ _ xs n _ HN.out (by omega) (AX5.out.drew.next b6) (r6.airs HN.out)).mono ?_; rintro e w7 ⟨rfl, b7⟩)))
    have c7 := stepB (stepB c5 (below_undrew b6)) b7
    clear b6 b7 r6
    go_wp2_with fail
    go_ret
    exact ⟨rfl, c7⟩

/-! ### the row of FnExactMineText: the arguments are opened, the walk is met, each argument reads behind the call as before -/
namespace fnExactMineText
open Go.ChangeShapes Go.WideShapes Go.ChangeAt Go.RowKit Go.Joins
open Go.ChangeMaps (open_string shut_string)
set_option linter.unusedVariables false
set_option maxRecDepth 100000 in
theorem lifted (os : Os) (started : os.Started) (H : Type) (enc : TypeId × Value → H) :
    ReturnsInHanded {} Tryd.checked os 9 .any (fun w args => (Rows.fnExactMineTextSpec.pre enc Tryd.prog Tryd.f9 [] false w args ∧ laidMetH Tryd.prog Rows.fnExactMineTextRow.laid w) ∧ sizedMet enc Tryd.prog Tryd.f9 (OpenSpec.ofChange Rows.fnExactMineTextSpec) false w args) (Rows.fnExactMineTextSpec.post enc Tryd.prog Tryd.f9 false true false false) := by
  refine returnsInHanded_of_change_and (C := Tryd.checked) (X := fun w _ => laidMetH Tryd.prog Rows.fnExactMineTextRow.laid w) (fun _ _ _ hh h => h.of_heap hh) own started (by kernel_rfl) Tryd.func9
    (ChangeSpec.witness_shaped (enc := enc) (C := Tryd.checked) (os := os) (X := fun w _ => laidMetH Tryd.prog Rows.fnExactMineTextRow.laid w) false (World.doorLaid Tryd.prog 72 os) #[.agg #[.int .i64 0, .slice none 0 0]] 8 rfl (World.shaped_of_RefB (by kernel_rfl) (by kernel_rfl)) (by kernel_rfl) (by kernel_rfl) (by kernel_rfl) (pow3_door os _)) ?_
  intro W base args ds gs before hval0 hW _ _ hL _
  have hval : ∀ (j : Nat) t v, Tryd.f9.params[j]? = some t → args[j]? = some v → Value.okWide Tryd.prog W .any base t v := hval0
  have hW' := hW
  obtain ⟨p, q, hA0, hV, rfl, hfz, hnd⟩ := hW
  have hA : DataW.TrodAll enc Tryd.prog W 0 (fun _ => true) true Tryd.f9.params.toList args.toList ds p := hA0
  rw [Tryd.params9] at hA hval
  obtain ⟨v0, vs0, d0, ds0, p0, q0, hargs, rfl, rfl, h0, r0⟩ := trodAll_cons hA
  obtain ⟨rfl, rfl, rfl⟩ := trodAll_nil r0
  obtain rfl : args = #[v0] := by cases args; simp_all
  obtain ⟨rfl, rfl⟩ := trodVars_none hV
  clear hA0 hval0
  simp only [List.append_nil] at hW'
  have lt0 : ∀ x ∈ p0, x.block < W.heap.size := fun x hx => by simpa using hW'.lt x (by simp [hx])
  have k0 := h0
  obtain ⟨c0_0, c0_1, y0_0, y0_1, m0, rfl, rfl, rfl, hy0_0, hy0_1⟩ := open_agg2 Tryd.underlying51 (by kernel_rfl) (by kernel_rfl) (hval 0 51 v0 rfl rfl) h0
  obtain ⟨a0_0, e0_0, z0_0, w0_0⟩ := DataW.trod_int Tryd.underlying2 hy0_0
  simp only [List.cons.injEq, and_true] at e0_0; subst e0_0
  obtain ⟨A0, len0, cap0, rfl⟩ := slice_shape Tryd.underlying49 Tryd.underlying41 (by kernel_rfl) (by kernel_rfl) hy0_1
  obtain ⟨xs0, hn0, hm0, hs0, hx0⟩ := view_airs Tryd.underlying49 Tryd.underlying41 (by kernel_rfl) (by kernel_rfl) Tryd.underlying9 Tryd.underlying2 Tryd.underlying2 Tryd.underlying2 Tryd.underlying2 Tryd.underlying2 Tryd.underlying2 hy0_1
  refine (law_MineText a0_0 A0 len0 cap0 xs0 hn0 hm0 hs0 W hx0 (pow3 hL)).mono fun e W' ⟨he, hb⟩ => ?_
  subst he
  exact ⟨_, rfl, _, _, _, _, _, [], hW', (trodAll_cons_mk (shut_bool Tryd.underlying4 _) trodAll_mk0), (trodAll_cons_mk (Below.trod laidOut (by kernel_rfl) (of_decide_eq_true (by kernel_rfl)) k0 hb lt0) trodAll_mk0), rfl, hb.frame _, fun h => by cases h⟩

theorem proved : Rows.FnExactMineTextSaid :=
  OpenClaim.holds_of_wide 9 Tryd.f9 rfl rfl rfl rfl rfl rfl rfl ⟨rfl, rfl, rfl, rfl, rfl⟩ rfl rfl rfl rfl rfl (by kernel_rfl) Tryd.func9 (by kernel_rfl)
    (of_decide_eq_true (by kernel_rfl)) (by unfold Func.isWrapper; first | (rw [if_pos (by decide +kernel)]; kernel_rfl) | (rw [if_neg (by decide +kernel)]; exact ⟨rfl, rfl⟩))
    (fun os started H enc _ => lifted os started H enc)
theorem card : Rows.FnExactMineTextCardSaid :=
  Claim7.holds_tied_plain_at .later [] _ true Rows.fnExactMineTextCard.stood.harness Rows.fnExactMineTextCard.stood.looks
    proved (fun _ h => by cases h) (by kernel_rfl) (fun _ h => by cases h) fnExactMineText_row_tie rfl ⟨rfl, rfl⟩ (by kernel_rfl) rfl
    (fun f fn hf hfn => by
      obtain rfl : f = 9 := Option.some.inj ((show Tryd.prog.funcNamed "loop.example/g01021/laws.FnExactMineText" = some 9 by kernel_rfl).symm.trans hf) |>.symm
      obtain rfl : fn = Tryd.f9 := (Option.some.inj (Tryd.func9.symm.trans hfn)).symm
      exact ⟨by kernel_rfl, fun j t ht => by
        rw [Tryd.params9] at ht
        have hm : t ∈ [51] := by simpa using Array.mem_of_getElem? ht
        have hall : ([51].all fun u => !Tryd.prog.wantsStandIn u) = true := by kernel_rfl
        exact (show Tryd.prog.wantsStandIn t = false by simpa using List.all_eq_true.1 hall t hm)⟩)
    (by kernel_rfl)
#print axioms card
end fnExactMineText
end Go.Proofs.YtfgfoggnhjchiaaDoor
