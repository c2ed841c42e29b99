/-
  FnExactAirwayText: for every airway the program's AirwayText returns what the reference's returns.
-/
import Derived.Test.YtcfcmpblemagiaaGreatDoorAirText
import Derived.Test.YtcfcmpblemagiaaGreatDoorAirwayM
import Derived.Test.YtcfcmpblemagiaaGreatDoorAgg
import Derived.Deep.RegionHeld3
import Derived.Test.YtcfcmpblemagiaaGreatDoorNum
import Derived.RowKit3
import Derived.ProofKit
import Derived.OpenShut
import Derived.Lib.SmallJoins
namespace Go.Proofs.YtcfcmpblemagiaaGreatDoor
open Go.RowKit
set_option linter.unusedVariables false

def nums (x : AW) : List Int := [x.u, x.v, x.l, x.s, x.f, x.k]
def awT (x : AW) : ByteArray := if x.okB then (x.a ++ ⟨#[32]⟩) ++ listT (nums x) else ⟨#[]⟩
theorem nums_bd {x : AW} (ho : x.okB = true) : ∀ k, k < 6 → -1000000000000 ≤ atI (nums x) k ∧ atI (nums x) k ≤ 1000000000000 := by
  have hb := air_bd ho
  intro k hk
  rcases (by omega : k = 0 ∨ k = 1 ∨ k = 2 ∨ k = 3 ∨ k = 4 ∨ k = 5) with rfl | rfl | rfl | rfl | rfl | rfl
  · show -1000000000000 ≤ x.u ∧ x.u ≤ 1000000000000; omega
  · show -1000000000000 ≤ x.v ∧ x.v ≤ 1000000000000; omega
  · show -1000000000000 ≤ x.l ∧ x.l ≤ 1000000000000; omega
  · show -1000000000000 ≤ x.s ∧ x.s ≤ 1000000000000; omega
  · show -1000000000000 ≤ x.f ∧ x.f ≤ 1000000000000; omega
  · show -1000000000000 ≤ x.k ∧ x.k ≤ 1000000000000; omega
theorem nums_fit {x : AW} (ho : x.okB = true) : listText (nums x) = listT (nums x) ∧ IB (nums x) := by
  have key := nums_bd ho
  refine ⟨?_, fun k hk => by have := key k hk; omega⟩
  unfold listText
  rw [fits_is _ 6 rfl, if_pos]
  simp only [Bool.and_eq_true, decide_eq_true_eq]
  refine ⟨?_, by omega⟩
  unfold inAll
  rw [List.all_eq_true]
  intro k hk
  exact inB_true.2 (key k (by simpa using hk))
theorem listT_len (xs : List Int) (hib : IB xs) : (listT xs).size ≤ 22 * xs.length + 1 := by
  unfold listT
  split
  · show 1 ≤ _; omega
  · have := ltT_len xs hib xs.length (Nat.le_refl _); omega
theorem ints6 (w : World) (x : AW) : Ints (w.alloc (.cells #[.int .i64 x.u, .int .i64 x.v, .int .i64 x.l, .int .i64 x.s, .int .i64 x.f, .int .i64 x.k] 2)) (w.alloc (.cells #[.int .i64 x.u, .int .i64 x.v, .int .i64 x.l, .int .i64 x.s, .int .i64 x.f, .int .i64 x.k] 2)).heap.size (some ⟨w.heap.size, 0, none⟩) (nums x) :=
  (Ints.new w (nums x) _).more (by simp)
theorem withId_any (a : ByteArray) (A : Option Addr) (c : Nat) (xs : List Int) (n : Nat) (w : World) (ha : a.size ≤ 1048576) (hn : xs.length = n) (h20 : n ≤ 64) (hib : IB xs) (hx : Ints w w.heap.size A xs) (hp : Pow w) (hf : listText xs = listT xs) :
    Calls Tryz.prog 45 #[.string a, .slice A n c] w (StrPost ((a ++ ⟨#[32]⟩) ++ listT xs) w) := by
  have h1 : a.size + (⟨#[32]⟩ : ByteArray).size ≤ 9223372036854775807 := by show a.size + 1 ≤ _; omega
  have h2 : (a ++ ⟨#[32]⟩ : ByteArray).size + (listT xs).size ≤ 9223372036854775807 := by
    have := listT_len xs hib
    rw [ByteArray.size_append]; show a.size + 1 + _ ≤ _; omega
  go_enter Tryz.func45, Tryz.ntmps45
  go_wp2_with (go_at_call 61; refine (ltP_any A c xs n _ hn (by omega) hib hx hp).mono ?_; rw [hf]; rintro e w1 ⟨rfl, b1⟩; have HB := Lib.hid b1; clear b1)
  go_ret
  exact ⟨rfl, HB.out⟩
theorem AirAt.all {w : World} {b o : Nat} {x : AW} (h : AirAt w b o x) : w.cell? ⟨b, o, none⟩ = some (.string x.a) ∧ w.cell? ⟨b, o + 1, none⟩ = some (.int .i64 x.u) ∧ w.cell? ⟨b, o + 2, none⟩ = some (.int .i64 x.v) ∧ w.cell? ⟨b, o + 3, none⟩ = some (.int .i64 x.l) ∧ w.cell? ⟨b, o + 4, none⟩ = some (.int .i64 x.s) ∧ w.cell? ⟨b, o + 5, none⟩ = some (.int .i64 x.f) ∧ w.cell? ⟨b, o + 6, none⟩ = some (.int .i64 x.k) :=
  ⟨h.c0, h.c1, h.c2, h.c3, h.c4, h.c5, h.c6⟩
theorem airAt_new (w : World) (x : AW) (t : TypeId) : AirAt (w.alloc (.cells #[.string x.a, .int .i64 x.u, .int .i64 x.v, .int .i64 x.l, .int .i64 x.s, .int .i64 x.f, .int .i64 x.k] t)) w.heap.size 0 x := by
  constructor <;> simp [go_sem]
theorem AirAt.zero {w : World} {b : Nat} {x : AW} (h : AirAt w b 0 x) : w.cell? ⟨b, 0, none⟩ = some (.string x.a) ∧ w.cell? ⟨b, 1, none⟩ = some (.int .i64 x.u) ∧ w.cell? ⟨b, 2, none⟩ = some (.int .i64 x.v) ∧ w.cell? ⟨b, 3, none⟩ = some (.int .i64 x.l) ∧ w.cell? ⟨b, 4, none⟩ = some (.int .i64 x.s) ∧ w.cell? ⟨b, 5, none⟩ = some (.int .i64 x.f) ∧ w.cell? ⟨b, 6, none⟩ = some (.int .i64 x.k) :=
  ⟨h.c0, h.c1, h.c2, h.c3, h.c4, h.c5, h.c6⟩
theorem awP_any (x : AW) (w : World) (ha : x.a.size ≤ 1048576) (hp : Pow w) : Calls Tryz.prog 26 #[x.val] w (StrPost (awT x) w) := by
  have b0 : Below w.heap.size w (w.alloc (.cells #[.string x.a, .int .i64 x.u, .int .i64 x.v, .int .i64 x.l, .int .i64 x.s, .int .i64 x.f, .int .i64 x.k] 35)) := (Below.refl _ _).alloc (Nat.le_refl _) _
  have HA0 := Lib.hid (airAt_new w x 35)
  have HP := Lib.hid hp
  have hml : x.a.size ≤ maxLen := by unfold maxLen; omega
  clear hp
  unfold AW.val
  go_enter Tryz.func26, Tryz.ntmps26
  go_wp2_with fail
  refine (validAW_any x _ hml).mono ?_
  cases ho : x.okB with
  | false =>
    rintro e w1 ⟨rfl, b1⟩
    have HB := Lib.hid (stepB b0 b1)
    have HO := Lib.hid ho
    clear b0 b1
    go_wp2_with fail
    go_ret
    exact ⟨by unfold awT; rw [HO.out]; rfl, HB.out⟩
  | true =>
    rintro e w1 ⟨rfl, b1⟩
    obtain ⟨c0, c1, c2, c3, c4, c5, c6⟩ := (HA0.out.below b1 (by simp)).zero
    have HB := Lib.hid (stepB b0 b1)
    have HO := Lib.hid ho
    have HI := Lib.hid (ints6 w1 x)
    have HB2 := Lib.hid (HB.out.alloc HB.out.size (.cells #[.int .i64 x.u, .int .i64 x.v, .int .i64 x.l, .int .i64 x.s, .int .i64 x.f, .int .i64 x.k] 2))
    have HP2 := Lib.hid (HP.out.step HB2.out)
    clear b0 b1 HA0
    go_wp2_with fail
    refine (withId_any x.a _ _ (nums x) 6 _ ha rfl (by omega) (nums_fit HO.out).2 HI.out HP2.out (nums_fit HO.out).1).mono ?_; rintro e w2 ⟨rfl, b2⟩
    have HB3 := Lib.hid (stepB HB2.out b2)
    clear b2
    go_wp2_with fail
    go_ret
    exact ⟨by unfold awT; rw [HO.out]; rfl, HB3.out⟩
end Go.Proofs.YtcfcmpblemagiaaGreatDoor
