/-
  FnExactMineText: for every mine the program's MineText returns what the reference's returns; the mine stays as it was.
-/
import Derived.Test.YtcfcmpblemagiaaGreatDoorAirwayText
import Derived.Test.YtcfcmpblemagiaaGreatDoorMineLaw
import Derived.Test.YtcfcmpblemagiaaGreatDoorRowM
import Derived.Test.YtcfcmpblemagiaaGreatDoorNum
import Derived.RowKit3
import Derived.ProofKit
import Derived.OpenShut
import Derived.Lib.SmallJoins
namespace Go.Proofs.YtcfcmpblemagiaaGreatDoor
open Go.RowKit
set_option linter.unusedVariables false

def lineT (x : AW) : ByteArray := (x.a ++ ⟨#[32]⟩) ++ listT (nums x)
def mnL (j : Int) (xs : List AW) : Nat → ByteArray
  | 0 => decS j
  | k + 1 => mnL j xs k ++ (⟨#[47]⟩ ++ lineT (atA xs k))
def mnT (j : Int) (xs : List AW) : ByteArray := if mineB j xs then mnL j xs xs.length else ⟨#[]⟩
theorem mine_ok {j : Int} {xs : List AW} (h : mineB j xs = true) : (1 ≤ j ∧ j ≤ 16) ∧ ∀ k, k < xs.length → (atA xs k).okB = true ∧ (atA xs k).a.size ≤ 10 := by
  unfold mineB at h
  simp only [Bool.and_eq_true, decide_eq_true_eq, List.all_eq_true, List.mem_range] at h
  obtain ⟨h1, h2, h3⟩ := h
  refine ⟨inB_true.1 h1, fun k hk => ?_⟩
  have hs := h3 k hk
  unfold stepOk at hs
  simp only [Bool.and_eq_true] at hs
  have ho := hs.1
  refine ⟨ho, ?_⟩
  unfold AW.okB airB nameB at ho
  simp only [Bool.and_eq_true, decide_eq_true_eq] at ho
  have := ho.1.2.1
  rwa [len_is] at this
theorem lineT_len {x : AW} (ho : x.okB = true) (ha : x.a.size ≤ 10) : (lineT x).size ≤ 150 := by
  have := listT_len (nums x) (nums_fit ho).2
  have e : (nums x).length = 6 := rfl
  unfold lineT
  rw [ByteArray.size_append, ByteArray.size_append]
  show x.a.size + 1 + _ ≤ _
  omega
theorem mnL_len {j : Int} {xs : List AW} (h : mineB j xs = true) (k : Nat) (hk : k ≤ xs.length) : (mnL j xs k).size ≤ 21 + 200 * k := by
  obtain ⟨hj, ho⟩ := mine_ok h
  induction k with
  | zero => exact decS_len j (by omega) (by omega)
  | succ k ih =>
    have := ih (by omega)
    have h2 := lineT_len (ho k (by omega)).1 (ho k (by omega)).2
    show (mnL j xs k ++ (⟨#[47]⟩ ++ lineT (atA xs k))).size ≤ _
    rw [ByteArray.size_append, ByteArray.size_append]
    show _ + (1 + _) ≤ _
    omega
theorem awT_is {x : AW} (ho : x.okB = true) : awT x = lineT x := by unfold awT; rw [ho]; rfl

set_option maxHeartbeats 1000000 in
theorem mnP_any (j : Int) (A : Option Addr) (c : Nat) (xs : List AW) (n : Nat) (w : World) (hn : xs.length = n) (h20 : n ≤ 1048576) (hs : ∀ k, k < n → (atA xs k).a.size ≤ maxLen) (hx : Airs w A xs) (hp : Pow w) :
    Calls Tryz.prog 13 #[.agg #[.int .i64 j, .slice A n c]] w (StrPost (mnT j xs) w) := by
  have b0 : Below w.heap.size w (w.alloc (.cells #[.int .i64 j, .slice A n c] 24)) := by ((repeat (first | with_reducible exact Below.refl _ _ | with_reducible apply below_drewN | with_reducible apply Below.drew | (with_reducible refine Below.alloc ?_ ?_ _) | (with_reducible refine Below.setCell ?_ ?_ _) | (with_reducible refine Below.trans ?_ (hb4.mono ?_)) | (with_reducible refine Below.trans ?_ (hb3.mono ?_)) | (with_reducible refine Below.trans ?_ (hb2.mono ?_)))); all_goals (first | (simp <;> omega) | (have h2s := hb2.size; (try simp at h2s); (try simp); omega) | (have h2s := hb2.size; have h3s := hb3.size; (try simp at h2s); (try simp at h3s); (try simp); omega) | (have h2s := hb2.size; have h3s := hb3.size; have h4s := hb4.size; (try simp at h2s); (try simp at h3s); (try simp at h4s); (try simp); omega)))
  have HX := Lib.hid (hx.next b0)
  have HN := Lib.hid hn
  have HS := Lib.hid hs
  have HP := Lib.hid hp
  clear hx hn hs hp
  go_enter Tryz.func13, Tryz.ntmps13
  go_wp2_with fail
  refine (validMineP_any j _ _ xs n _ HN.out h20 HS.out HX.out).mono ?_
  cases hv : mineB j xs with
  | true =>
    have hj := (mine_ok hv).1
    rintro e w1 ⟨rfl, b1⟩
    have m0 : w1.cell? ⟨w.heap.size, 0, none⟩ = some (.int .i64 j) := (b1.cell (by simp)).trans (by simp [go_sem])
    have m1 : w1.cell? ⟨w.heap.size, 1, none⟩ = some (.slice A n c) := (b1.cell (by simp)).trans (by simp [go_sem])
    have HC := Lib.hid (stepB b0 b1)
    have HX1 := Lib.hid (HX.out.next b1)
    have HV := Lib.hid hv
    have HP1 := Lib.hid (HP.out.step HC.out)
    have M1 := Lib.hid m1
    clear b0 b1
    go_wp2_with (go_at_call 24; refine (decP_any j (by omega) (by omega) _ HP1.out).mono ?_; rintro e w2 ⟨rfl, b2⟩; have HB2 := Lib.hid b2; have n1 := (b2.cell (World.block_lt_of_cell? w1 _ M1.out)).trans M1.out; clear b2 m0 m1)
    clear n1
    go_loopw [3, 15] (fun v t wr => ∃ k : Nat, k ≤ n ∧ t = .int .i64 (k : Int) ∧ v = .string (mnL j xs k) ∧ Below w1.heap.size w1 wr) (fun _ t _ => n - (intOf t).toNat)
    case atStart => exact ⟨0, Nat.zero_le _, rfl, rfl, HB2.out⟩
    case round =>
      obtain ⟨k, hk, rfl, rfl, hb⟩ := hrel
      have HB := Lib.hid hb
      clear hb
      by_cases hlt : k < n
      · have hki : (k : Int) < n := by omega
        have hk0 : (0 : Int) ≤ k := by omega
        obtain ⟨b, off, rfl, _, hc⟩ := (HX1.out.next HB.out).at_ (k := k) (by have := HN.out; omega)
        have ho := (mine_ok HV.out).2 k (by have := HN.out; omega)
        have hl := mnL_len HV.out k (by have := HN.out; omega)
        have HS2 := Lib.hid (show mnL j xs (k + 1) = mnL j xs k ++ (⟨#[47]⟩ ++ lineT (atA xs k)) from rfl)
        have hll := lineT_len ho.1 ho.2
        generalize atA xs k = x at hc ho hll HS2
        generalize mnL j xs k = s at hl HS2 ⊢
        have HO := Lib.hid ho
        have h1 : (⟨#[47]⟩ : ByteArray).size + (lineT x).size ≤ 9223372036854775807 := by show 1 + _ ≤ _; omega
        have h2 : s.size + (⟨#[47]⟩ ++ lineT x : ByteArray).size ≤ 9223372036854775807 := by rw [ByteArray.size_append]; show _ + (1 + _) ≤ _; omega
        have HBA := Lib.hid (stepB HB.out ((Below.refl _ _).alloc (Nat.le_refl _) (.cells #[.string x.a, .int .i64 x.u, .int .i64 x.v, .int .i64 x.l, .int .i64 x.s, .int .i64 x.f, .int .i64 x.k] 35)))
        have HPA := Lib.hid (HP1.out.step HBA.out)
        obtain ⟨c0, c1, c2, c3, c4, c5, c6⟩ := hc
        clear ho hll
        go_wp2_with (go_at_call 26; refine (awP_any x _ (by have := HO.out.2; omega) HPA.out).mono ?_; rw [awT_is HO.out.1]; rintro e w2 ⟨rfl, b2⟩; have HB2 := Lib.hid (stepB HBA.out b2); clear b2)
        go_roundw
        case rel => exact ⟨k + 1, by omega, by go_num, by rw [HS2.out], HB2.out⟩
        case measure => simp [intOf]; omega
      · obtain rfl : k = n := by omega
        have hki : ¬ (k : Int) < k := by omega
        go_wp2_with fail
        go_ret
        exact ⟨by unfold mnT; rw [HV.out, HN.out]; rfl, stepB HC.out HB.out⟩
  | false =>
    rintro e w1 ⟨rfl, b1⟩
    have HC := Lib.hid (stepB b0 b1)
    have HV := Lib.hid hv
    clear b0 b1
    go_wp2_with fail
    go_ret
    exact ⟨by unfold mnT; rw [HV.out]; rfl, HC.out⟩

end Go.Proofs.YtcfcmpblemagiaaGreatDoor
