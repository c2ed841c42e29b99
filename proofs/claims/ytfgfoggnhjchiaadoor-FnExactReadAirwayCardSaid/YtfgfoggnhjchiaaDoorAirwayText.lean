/-
  FnExactAirwayText: for every airway the program's AirwayText returns what the reference's returns.
-/
import Derived.Test.YtfgfoggnhjchiaaDoorAirText
import Derived.Test.YtfgfoggnhjchiaaDoorAirwayM
import Derived.Test.YtfgfoggnhjchiaaDoorAgg
import Derived.Deep.RegionHeld3
import Derived.Test.YtfgfoggnhjchiaaDoorNum
import Derived.RowKit3
import Derived.ProofKit
import Derived.OpenShut
import Derived.Lib.SmallJoins
namespace Go.Proofs.YtfgfoggnhjchiaaDoor
open Go.RowKit
set_option linter.unusedVariables false

def nums (x : AW) : List Int := [x.u, x.v, x.l, x.s, x.f, x.k]
def awT (x : AW) : ByteArray := if x.okB then (x.a ++ ⟨#[32]⟩) ++ listT (nums x) else ⟨#[]⟩
theorem nums_bd {x : AW} (ho : x.okB = true) : ∀ k, k < 6 → -1000000000000 ≤ atI (nums x) k ∧ atI (nums x) k ≤ 1000000000000 := by
  have hb := air_bd ho
  intro k hk
  rcases (by omega : k = 0 ∨ k = 1 ∨ k = 2 ∨ k = 3 ∨ k = 4 ∨ k = 5) with rfl | rfl | rfl | rfl | rfl | rfl
  · show -1000000000000 ≤ x.u ∧ x.u ≤ 1000000000000; omega
  · show -1000000000000 ≤ x.v ∧ x.v ≤ 1000000000000; omega
  · show -1000000000000 ≤ x.l ∧ x.l ≤ 1000000000000; omega
  · show -1000000000000 ≤ x.s ∧ x.s ≤ 1000000000000; omega
  · show -1000000000000 ≤ x.f ∧ x.f ≤ 1000000000000; omega
  · show -1000000000000 ≤ x.k ∧ x.k ≤ 1000000000000; omega
theorem nums_fit {x : AW} (ho : x.okB = true) : listText (nums x) = listT (nums x) ∧ IB (nums x) := by
  have key := nums_bd ho
  refine ⟨?_, fun k hk => by have := key k hk; omega⟩
  unfold listText
  rw [fits_is _ 6 rfl, if_pos]
  simp only [Bool.and_eq_true, decide_eq_true_eq]
  refine ⟨?_, by omega⟩
  unfold inAll
  rw [List.all_eq_true]
  intro k hk
  exact inB_true.2 (key k (by simpa using hk))
theorem listT_len (xs : List Int) (hib : IB xs) : (listT xs).size ≤ 22 * xs.length + 1 := by
  unfold listT
  split
  · show 1 ≤ _; omega
  · have := ltT_len xs hib xs.length (Nat.le_refl _); omega
theorem ints6 (w : World) (x : AW) : Ints (w.alloc (.cells #[.int .i64 x.u, .int .i64 x.v, .int .i64 x.l, .int .i64 x.s, .int .i64 x.f, .int .i64 x.k] 2)) (w.alloc (.cells #[.int .i64 x.u, .int .i64 x.v, .int .i64 x.l, .int .i64 x.s, .int .i64 x.f, .int .i64 x.k] 2)).heap.size (some ⟨w.heap.size, 0, none⟩) (nums x) :=
  (Ints.new w (nums x) _).more (by simp)
theorem withId_any (a : ByteArray) (A : Option Addr) (c : Nat) (xs : List Int) (n : Nat) (w : World) (ha : a.size ≤ 1048576) (hn : xs.length = n) (h20 : n ≤ 64) (hib : IB xs) (hx : Ints w w.heap.size A xs) (hp : Pow w) (hf : listText xs = listT xs) :
    Calls Tryd.prog 63 #[.string a, .slice A n c] w (StrPost ((a ++ ⟨#[32]⟩) ++ listT xs) w) := by
  have h1 : a.size + (⟨#[32]⟩ : ByteArray).size ≤ 9223372036854775807 := by show a.size + 1 ≤ _; omega
  have h2 : (a ++ ⟨#[32]⟩ : ByteArray).size + (listT xs).size ≤ 9223372036854775807 := by
    have := listT_len xs hib
    rw [ByteArray.size_append]; show a.size + 1 + _ ≤ _; omega
  go_enter Tryd.func63, Tryd.ntmps63
  go_wp2_with (go_at_call 22; refine (ltP_any A c xs n _ hn (by omega) hib hx hp).mono ?_; rw [hf]; rintro e w1 ⟨rfl, b1⟩; have HB := Lib.hid b1; clear b1)
  go_ret
  exact ⟨rfl, HB.out⟩
theorem AirAt.all {w : World} {b o : Nat} {x : AW} (h : AirAt w b o x) : w.cell? ⟨b, o, none⟩ = some (.string x.a) ∧ w.cell? ⟨b, o + 1, none⟩ = some (.int .i64 x.u) ∧ w.cell? ⟨b, o + 2, none⟩ = some (.int .i64 x.v) ∧ w.cell? ⟨b, o + 3, none⟩ = some (.int .i64 x.l) ∧ w.cell? ⟨b, o + 4, none⟩ = some (.int .i64 x.s) ∧ w.cell? ⟨b, o + 5, none⟩ = some (.int .i64 x.f) ∧ w.cell? ⟨b, o + 6, none⟩ = some (.int .i64 x.k) :=
  ⟨h.c0, h.c1, h.c2, h.c3, h.c4, h.c5, h.c6⟩
set_option maxHeartbeats 1000000 in
theorem l03Text_any (b o : Nat) (x : AW) (w : World) (ha : x.a.size ≤ 1048576) (ho : x.okB = true) (hc : AirAt w b o x) :
    Calls Tryd.prog 61 #[.pointer (some ⟨b, o, none⟩)] w (StrPost ((x.a ++ ⟨#[32]⟩) ++ listT (nums x)) w) := by
  have HI := Lib.hid (ints6 w.drew x)
  have HIB := Lib.hid (nums_fit ho).2
  have HA := Lib.hid hc
  have HA1 := Lib.hid (hc.below (drew_below w) (World.block_lt_of_cell? w _ hc.c0))
  have h1 : ¬ 9223372036854775807 < x.a.size + 1 := by omega
  have h2 : ¬ 9223372036854775807 < x.a.size + 1 + (listT (nums x)).size := by
    have := listT_len (nums x) HIB.out
    have e : (nums x).length = 6 := rfl
    omega
  have bA : Below w.heap.size w (w.drew.alloc (.cells #[.int .i64 x.u, .int .i64 x.v, .int .i64 x.l, .int .i64 x.s, .int .i64 x.f, .int .i64 x.k] 2)) := (drew_below w).alloc (Nat.le_refl _) _
  have HBA := Lib.hid bA
  have HAB := Lib.hid (hc.below bA (World.block_lt_of_cell? w _ hc.c0))
  have HSZ := Lib.hid (show b < (w.drew.alloc (.cells #[.int .i64 x.u, .int .i64 x.v, .int .i64 x.l, .int .i64 x.s, .int .i64 x.f, .int .i64 x.k] 2)).heap.size from Nat.lt_of_lt_of_le (World.block_lt_of_cell? w _ hc.c0) bA.size)
  clear hc bA ho
  go_enter Tryd.func61, Tryd.ntmps61
  go_wp2_with fail
  go_region_held3 (fun w' => w'.cell? ⟨b, o, none⟩ = some (.string x.a) ∧ w'.cell? ⟨b, o + 1, none⟩ = some (.int .i64 x.u) ∧ w'.cell? ⟨b, o + 2, none⟩ = some (.int .i64 x.v) ∧ w'.cell? ⟨b, o + 3, none⟩ = some (.int .i64 x.l) ∧ w'.cell? ⟨b, o + 4, none⟩ = some (.int .i64 x.s) ∧ w'.cell? ⟨b, o + 5, none⟩ = some (.int .i64 x.f) ∧ w'.cell? ⟨b, o + 6, none⟩ = some (.int .i64 x.k)) (first | exact HA1.out.all | exact HAB.out.all | exact (HAB.out.below bq HSZ.out).all)
    ((first | (go_at_call 54; refine (l01List_any _ _ (nums x) 6 _ rfl (by omega) HIB.out HI.out).mono ?_; rintro e w1 ⟨rfl, bq⟩)))
  have HB1 := Lib.hid (stepB HBA.out bq)
  clear bq
  go_wp2_with fail
  go_ret
  exact ⟨rfl, HB1.out⟩

theorem airAt_new (w : World) (x : AW) (t : TypeId) : AirAt (w.alloc (.cells #[.string x.a, .int .i64 x.u, .int .i64 x.v, .int .i64 x.l, .int .i64 x.s, .int .i64 x.f, .int .i64 x.k] t)) w.heap.size 0 x := by
  constructor <;> simp [go_sem]
theorem AirAt.zero {w : World} {b : Nat} {x : AW} (h : AirAt w b 0 x) : w.cell? ⟨b, 0, none⟩ = some (.string x.a) ∧ w.cell? ⟨b, 1, none⟩ = some (.int .i64 x.u) ∧ w.cell? ⟨b, 2, none⟩ = some (.int .i64 x.v) ∧ w.cell? ⟨b, 3, none⟩ = some (.int .i64 x.l) ∧ w.cell? ⟨b, 4, none⟩ = some (.int .i64 x.s) ∧ w.cell? ⟨b, 5, none⟩ = some (.int .i64 x.f) ∧ w.cell? ⟨b, 6, none⟩ = some (.int .i64 x.k) :=
  ⟨h.c0, h.c1, h.c2, h.c3, h.c4, h.c5, h.c6⟩
theorem awP_any (x : AW) (w : World) (ha : x.a.size ≤ 1048576) (hp : Pow w) : Calls Tryd.prog 30 #[x.val] w (StrPost (awT x) w) := by
  have b0 : Below w.heap.size w (w.alloc (.cells #[.string x.a, .int .i64 x.u, .int .i64 x.v, .int .i64 x.l, .int .i64 x.s, .int .i64 x.f, .int .i64 x.k] 44)) := (Below.refl _ _).alloc (Nat.le_refl _) _
  have HA0 := Lib.hid (airAt_new w x 44)
  have HP := Lib.hid hp
  have hml : x.a.size ≤ maxLen := by unfold maxLen; omega
  clear hp
  unfold AW.val
  go_enter Tryd.func30, Tryd.ntmps30
  go_wp2_with fail
  refine (validAW_any x _ hml).mono ?_
  cases ho : x.okB with
  | false =>
    rintro e w1 ⟨rfl, b1⟩
    have HB := Lib.hid (stepB b0 b1)
    have HO := Lib.hid ho
    clear b0 b1
    go_wp2_with fail
    go_ret
    exact ⟨by unfold awT; rw [HO.out]; rfl, HB.out⟩
  | true =>
    rintro e w1 ⟨rfl, b1⟩
    obtain ⟨c0, c1, c2, c3, c4, c5, c6⟩ := (HA0.out.below b1 (by simp)).zero
    have HB := Lib.hid (stepB b0 b1)
    have HO := Lib.hid ho
    have HI := Lib.hid (ints6 w1 x)
    have HB2 := Lib.hid (HB.out.alloc HB.out.size (.cells #[.int .i64 x.u, .int .i64 x.v, .int .i64 x.l, .int .i64 x.s, .int .i64 x.f, .int .i64 x.k] 2))
    have HP2 := Lib.hid (HP.out.step HB2.out)
    clear b0 b1 HA0
    go_wp2_with fail
    refine (withId_any x.a _ _ (nums x) 6 _ ha rfl (by omega) (nums_fit HO.out).2 HI.out HP2.out (nums_fit HO.out).1).mono ?_; rintro e w2 ⟨rfl, b2⟩
    have HB3 := Lib.hid (stepB HB2.out b2)
    clear b2
    go_wp2_with fail
    go_ret
    exact ⟨by unfold awT; rw [HO.out]; rfl, HB3.out⟩
theorem awS_any (x : AW) (w : World) (ha : x.a.size ≤ 1048576) : Calls Tryd.prog 28 #[x.val] w (StrPost (awT x) w) := by
  have b0 : Below w.heap.size w (w.alloc (.cells #[.string x.a, .int .i64 x.u, .int .i64 x.v, .int .i64 x.l, .int .i64 x.s, .int .i64 x.f, .int .i64 x.k] 44)) := (Below.refl _ _).alloc (Nat.le_refl _) _
  have HA0 := Lib.hid (airAt_new w x 44)
  have hml : x.a.size ≤ maxLen := by unfold maxLen; omega
  unfold AW.val
  go_enter Tryd.func28, Tryd.ntmps28
  go_wp2_with fail
  refine (l03OkAW_any _ 0 x _ hml HA0.out).mono ?_
  cases ho : x.okB with
  | false =>
    rintro e w1 ⟨rfl, q, rfl⟩
    have HB := Lib.hid (below_drewN b0 q)
    have HO := Lib.hid ho
    clear b0
    go_wp2_with fail
    go_ret
    exact ⟨by unfold awT; rw [HO.out]; rfl, HB.out⟩
  | true =>
    rintro e w1 ⟨rfl, q, rfl⟩
    have HB := Lib.hid (below_drewN b0 q)
    have HA1 := Lib.hid (show AirAt ((w.alloc (.cells #[.string x.a, .int .i64 x.u, .int .i64 x.v, .int .i64 x.l, .int .i64 x.s, .int .i64 x.f, .int .i64 x.k] 44)).drewN q) w.heap.size 0 x from HA0.out.below (below_drewN (Below.refl _ _) q) (World.block_lt_of_cell? _ _ HA0.out.c0))
    have HO := Lib.hid ho
    clear b0
    go_wp2_with (go_at_call 61; refine (l03Text_any _ 0 x _ ha HO.out HA1.out).mono ?_; rintro e w2 ⟨rfl, b2⟩; have HB2 := Lib.hid (stepB HB.out b2); clear b2)
    go_ret
    exact ⟨by unfold awT; rw [HO.out]; rfl, HB2.out⟩
theorem law_AirwayText (a : ByteArray) (hm : a.size ≤ maxLen) (u : Int) (_ : -9223372036854775808 ≤ u ∧ u ≤ 9223372036854775807) (v : Int) (_ : -9223372036854775808 ≤ v ∧ v ≤ 9223372036854775807) (l : Int) (_ : -9223372036854775808 ≤ l ∧ l ≤ 9223372036854775807) (s : Int) (_ : -9223372036854775808 ≤ s ∧ s ≤ 9223372036854775807) (f : Int) (_ : -9223372036854775808 ≤ f ∧ f ≤ 9223372036854775807) (k : Int) (_ : -9223372036854775808 ≤ k ∧ k ≤ 9223372036854775807) (w : World) (hp : Pow w) :
    Calls Tryd.prog 7 #[.agg #[.string a, .int .i64 u, .int .i64 v, .int .i64 l, .int .i64 s, .int .i64 f, .int .i64 k]] w fun e w' => e = .returned (.bool true) ∧ Below w.heap.size w w' := by
  obtain ⟨x, hx⟩ : ∃ x : AW, x = ⟨a, u, v, l, s, f, k⟩ := ⟨_, rfl⟩
  have hxm : x.a.size ≤ maxLen := by rw [hx]; exact hm
  have e : #[Value.agg #[.string a, .int .i64 u, .int .i64 v, .int .i64 l, .int .i64 s, .int .i64 f, .int .i64 k]] = #[x.val] := by rw [hx]; rfl
  rw [e]
  clear hx hm e
  have HP := Lib.hid hp
  have b0 : Below w.heap.size w (w.alloc (.cells #[.string x.a, .int .i64 x.u, .int .i64 x.v, .int .i64 x.l, .int .i64 x.s, .int .i64 x.f, .int .i64 x.k] 41)) := (Below.refl _ _).alloc (Nat.le_refl _) _
  have HA0 := Lib.hid (airAt_new w x 41)
  clear hp
  unfold AW.val
  go_enter Tryd.func7, Tryd.ntmps7
  go_wp2_with fail
  refine (szAirway_any x 1048576 _ (by omega) (by omega) hxm).mono ?_
  by_cases ha : (1048576 : Int) < x.a.size
  · rw [if_pos ha]
    rintro e w1 ⟨rfl, b1⟩
    have HB := Lib.hid (stepB b0 b1)
    clear b0 b1
    go_wp2_with fail
    go_ret
    exact ⟨rfl, HB.out⟩
  · rw [if_neg ha]
    have ha2 : x.a.size ≤ 1048576 := by omega
    have ha3 : ¬ (1048576 : Int) - x.a.size < 0 := by omega
    rintro e w1 ⟨rfl, b1⟩
    have HA1 := Lib.hid (HA0.out.below b1 (by simp))
    obtain ⟨c0, c1, c2, c3, c4, c5, c6⟩ := HA1.out.zero
    have HB1 := Lib.hid (stepB b0 b1)
    have HL := Lib.hid (World.block_lt_of_cell? w1 _ c0)
    clear b0 b1 HA0
    go_wp2_with fail
    refine (toAW_any x _).mono ?_; rintro e w2 ⟨rfl, b2⟩
    have HB2 := Lib.hid (stepB HB1.out b2)
    have HA2 := Lib.hid (HA1.out.below b2 HL.out)
    clear c0 c1 c2 c3 c4 c5 c6 b2
    unfold AW.val
    go_wp2_with fail
    refine (awS_any x _ ha2).mono ?_; rintro e w3 ⟨rfl, b3⟩
    have HL2 := Lib.hid (World.block_lt_of_cell? w2 _ HA2.out.c0)
    have HB3 := Lib.hid (stepB HB2.out b3)
    have HA3 := Lib.hid (HA2.out.below b3 HL2.out)
    clear b3
    obtain ⟨c0, c1, c2, c3, c4, c5, c6⟩ := HA3.out.zero
    go_wp2_with fail
    refine (toAW_any x _).mono ?_; rintro e w4 ⟨rfl, b4⟩
    have HB4 := Lib.hid (stepB HB3.out b4)
    have HP4 := Lib.hid (HP.out.step HB4.out)
    clear c0 c1 c2 c3 c4 c5 c6 b4
    unfold AW.val
    go_wp2_with fail
    refine (awP_any x _ ha2 HP4.out).mono ?_; rintro e w5 ⟨rfl, b5⟩
    have HB5 := Lib.hid (stepB HB4.out b5)
    clear b5
    go_wp2_with fail
    go_ret
    exact ⟨rfl, HB5.out⟩

/-! ### the row of FnExactAirwayText: the arguments are opened, the walk is met, each argument reads behind the call as before -/
namespace fnExactAirwayText
open Go.ChangeShapes Go.WideShapes Go.ChangeAt Go.RowKit Go.Joins
open Go.ChangeMaps (open_string shut_string)
set_option linter.unusedVariables false
set_option maxRecDepth 100000 in
theorem lifted (os : Os) (started : os.Started) (H : Type) (enc : TypeId × Value → H) :
    ReturnsInHanded {} Tryd.checked os 7 .any (fun w args => (Rows.fnExactAirwayTextSpec.pre enc Tryd.prog Tryd.f7 [] false w args ∧ laidMetH Tryd.prog Rows.fnExactAirwayTextRow.laid w) ∧ sizedMet enc Tryd.prog Tryd.f7 (OpenSpec.ofChange Rows.fnExactAirwayTextSpec) false w args) (Rows.fnExactAirwayTextSpec.post enc Tryd.prog Tryd.f7 false true false false) := by
  refine returnsInHanded_of_change_and (C := Tryd.checked) (X := fun w _ => laidMetH Tryd.prog Rows.fnExactAirwayTextRow.laid w) (fun _ _ _ hh h => h.of_heap hh) own started (by kernel_rfl) Tryd.func7
    (ChangeSpec.witness_shaped (enc := enc) (C := Tryd.checked) (os := os) (X := fun w _ => laidMetH Tryd.prog Rows.fnExactAirwayTextRow.laid w) false (World.doorLaid Tryd.prog 72 os) #[.agg #[.string ByteArray.empty, .int .i64 0, .int .i64 0, .int .i64 0, .int .i64 0, .int .i64 0, .int .i64 0]] 8 rfl (World.shaped_of_RefB (by kernel_rfl) (by kernel_rfl)) (by kernel_rfl) (by kernel_rfl) (by kernel_rfl) (pow3_door os _)) ?_
  intro W base args ds gs before hval0 hW _ _ hL _
  have hval : ∀ (j : Nat) t v, Tryd.f7.params[j]? = some t → args[j]? = some v → Value.okWide Tryd.prog W .any base t v := hval0
  have hW' := hW
  obtain ⟨p, q, hA0, hV, rfl, hfz, hnd⟩ := hW
  have hA : DataW.TrodAll enc Tryd.prog W 0 (fun _ => true) true Tryd.f7.params.toList args.toList ds p := hA0
  rw [Tryd.params7] at hA hval
  obtain ⟨v0, vs0, d0, ds0, p0, q0, hargs, rfl, rfl, h0, r0⟩ := trodAll_cons hA
  obtain ⟨rfl, rfl, rfl⟩ := trodAll_nil r0
  obtain rfl : args = #[v0] := by cases args; simp_all
  obtain ⟨rfl, rfl⟩ := trodVars_none hV
  clear hA0 hval0
  simp only [List.append_nil] at hW'
  have lt0 : ∀ x ∈ p0, x.block < W.heap.size := fun x hx => by simpa using hW'.lt x (by simp [hx])
  have k0 := h0
  obtain ⟨c0_0, c0_1, c0_2, c0_3, c0_4, c0_5, c0_6, y0_0, y0_1, y0_2, y0_3, y0_4, y0_5, y0_6, m0, rfl, rfl, rfl, hy0_0, hy0_1, hy0_2, hy0_3, hy0_4, hy0_5, hy0_6⟩ := open_agg7 Tryd.underlying41 (by kernel_rfl) (by kernel_rfl) (hval 0 41 v0 rfl rfl) h0
  obtain ⟨a0_0, e0_0, z0_0, w0_0⟩ := DataW.trod_string Tryd.underlying9 hy0_0
  simp only [List.cons.injEq, and_true] at e0_0; subst e0_0
  obtain ⟨a0_1, e0_1, z0_1, w0_1⟩ := DataW.trod_int Tryd.underlying2 hy0_1
  simp only [List.cons.injEq, and_true] at e0_1; subst e0_1
  obtain ⟨a0_2, e0_2, z0_2, w0_2⟩ := DataW.trod_int Tryd.underlying2 hy0_2
  simp only [List.cons.injEq, and_true] at e0_2; subst e0_2
  obtain ⟨a0_3, e0_3, z0_3, w0_3⟩ := DataW.trod_int Tryd.underlying2 hy0_3
  simp only [List.cons.injEq, and_true] at e0_3; subst e0_3
  obtain ⟨a0_4, e0_4, z0_4, w0_4⟩ := DataW.trod_int Tryd.underlying2 hy0_4
  simp only [List.cons.injEq, and_true] at e0_4; subst e0_4
  obtain ⟨a0_5, e0_5, z0_5, w0_5⟩ := DataW.trod_int Tryd.underlying2 hy0_5
  simp only [List.cons.injEq, and_true] at e0_5; subst e0_5
  obtain ⟨a0_6, e0_6, z0_6, w0_6⟩ := DataW.trod_int Tryd.underlying2 hy0_6
  simp only [List.cons.injEq, and_true] at e0_6; subst e0_6
  refine (law_AirwayText a0_0 w0_0 a0_1 (wf_bd w0_1) a0_2 (wf_bd w0_2) a0_3 (wf_bd w0_3) a0_4 (wf_bd w0_4) a0_5 (wf_bd w0_5) a0_6 (wf_bd w0_6) W (pow3 hL)).mono fun e W' ⟨he, hb⟩ => ?_
  subst he
  exact ⟨_, rfl, _, _, _, _, _, [], hW', (trodAll_cons_mk (shut_bool Tryd.underlying4 _) trodAll_mk0), (trodAll_cons_mk (Below.trod laidOut (by kernel_rfl) (of_decide_eq_true (by kernel_rfl)) k0 hb lt0) trodAll_mk0), rfl, hb.frame _, fun h => by cases h⟩

theorem proved : Rows.FnExactAirwayTextSaid :=
  OpenClaim.holds_of_wide 7 Tryd.f7 rfl rfl rfl rfl rfl rfl rfl ⟨rfl, rfl, rfl, rfl, rfl⟩ rfl rfl rfl rfl rfl (by kernel_rfl) Tryd.func7 (by kernel_rfl)
    (of_decide_eq_true (by kernel_rfl)) (by unfold Func.isWrapper; first | (rw [if_pos (by decide +kernel)]; kernel_rfl) | (rw [if_neg (by decide +kernel)]; exact ⟨rfl, rfl⟩))
    (fun os started H enc _ => lifted os started H enc)
theorem card : Rows.FnExactAirwayTextCardSaid :=
  Claim7.holds_tied_plain_at .later [] _ true Rows.fnExactAirwayTextCard.stood.harness Rows.fnExactAirwayTextCard.stood.looks
    proved (fun _ h => by cases h) (by kernel_rfl) (fun _ h => by cases h) fnExactAirwayText_row_tie rfl ⟨rfl, rfl⟩ (by kernel_rfl) rfl
    (fun f fn hf hfn => by
      obtain rfl : f = 7 := Option.some.inj ((show Tryd.prog.funcNamed "loop.example/g01021/laws.FnExactAirwayText" = some 7 by kernel_rfl).symm.trans hf) |>.symm
      obtain rfl : fn = Tryd.f7 := (Option.some.inj (Tryd.func7.symm.trans hfn)).symm
      exact ⟨by kernel_rfl, fun j t ht => by
        rw [Tryd.params7] at ht
        have hm : t ∈ [41] := by simpa using Array.mem_of_getElem? ht
        have hall : ([41].all fun u => !Tryd.prog.wantsStandIn u) = true := by kernel_rfl
        exact (show Tryd.prog.wantsStandIn t = false by simpa using List.all_eq_true.1 hall t hm)⟩)
    (by kernel_rfl)
#print axioms card
end fnExactAirwayText
end Go.Proofs.YtfgfoggnhjchiaaDoor
