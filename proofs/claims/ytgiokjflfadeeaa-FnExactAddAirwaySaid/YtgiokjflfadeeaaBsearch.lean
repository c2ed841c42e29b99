/-
  The program's search for the place of a name: cmp.Compare, the closure, slices.BinarySearchFunc.
-/
import Derived.Test.YtgiokjflfadeeaaAddT
import Derived.Deep.RegionHeld3
import Derived.Test.YtgiokjflfadeeaaNum
import Derived.RowKit3
import Derived.ProofKit
import Derived.OpenShut
import Derived.Lib.SmallJoins
namespace Go.Proofs.Ytgiokjflfadeeaa
open Go.RowKit
set_option linter.unusedVariables false

theorem airNew (w : World) (x : AW) (t : TypeId) : AirAt (w.alloc (.cells #[.string x.a, .int .i64 x.u, .int .i64 x.v, .int .i64 x.l, .int .i64 x.s, .int .i64 x.f, .int .i64 x.k] t)) w.heap.size 0 x := by
  constructor <;> simp [go_sem]
theorem airZero {w : World} {b : Nat} {x : AW} (h : AirAt w b 0 x) : w.cell? ⟨b, 0, none⟩ = some (.string x.a) ∧ w.cell? ⟨b, 1, none⟩ = some (.int .i64 x.u) ∧ w.cell? ⟨b, 2, none⟩ = some (.int .i64 x.v) ∧ w.cell? ⟨b, 3, none⟩ = some (.int .i64 x.l) ∧ w.cell? ⟨b, 4, none⟩ = some (.int .i64 x.s) ∧ w.cell? ⟨b, 5, none⟩ = some (.int .i64 x.f) ∧ w.cell? ⟨b, 6, none⟩ = some (.int .i64 x.k) :=
  ⟨h.c0, h.c1, h.c2, h.c3, h.c4, h.c5, h.c6⟩
theorem midIs (a b : Nat) : ((a : Int) + (b : Int)) / 2 = (((a + b) / 2 : Nat) : Int) := by omega
def cmpI (a b : ByteArray) : Int := if ltS a b then -1 else if leS a b then 0 else 1
theorem cmpI_neg (a b : ByteArray) : (cmpI a b < 0) ↔ ltS a b = true := by
  unfold cmpI
  cases ltS a b with
  | true => simp
  | false => cases leS a b <;> simp
theorem cmpI_zero (a b : ByteArray) (h : ltS a b = false) : (cmpI a b = 0) ↔ eqS a b = true := by
  unfold cmpI leS
  have h' := h
  unfold ltS at h'
  rw [h, h']
  unfold eqS
  cases (a.toList == b.toList) <;> simp
theorem isNaN_any (a : ByteArray) (w : World) : Calls Try.prog 69 #[.string a] w fun e w' => e = .returned (.bool false) ∧ w' = w := by
  have h : (a.toList == a.toList) = true := beq_self_eq_true _
  go_enter Try.func69, Try.ntmps69
  go_wp2_with fail
  go_ret
  exact ⟨rfl, rfl⟩
theorem cmp_any (a b : ByteArray) (w : World) : Calls Try.prog 51 #[.string a, .string b] w fun e w' => e = .returned (.int .i64 (cmpI a b)) ∧ w' = w := by
  unfold cmpI
  cases h1 : ltS a b with
  | true =>
    have h1' : Op.bytesLess a.toList b.toList = true := h1
    clear h1
    go_enter Try.func51, Try.ntmps51
    go_wp2_with (go_at_call 69; refine (isNaN_any _ _).mono ?_; rintro e w' ⟨rfl, rfl⟩)
    go_ret
    exact ⟨rfl, rfl⟩
  | false =>
    have h1' : Op.bytesLess a.toList b.toList = false := h1
    clear h1
    cases h2 : leS a b with
    | true =>
      have h2' : (Op.bytesLess a.toList b.toList || a.toList == b.toList) = true := h2
      rw [h1', Bool.false_or] at h2'
      clear h2
      go_enter Try.func51, Try.ntmps51
      go_wp2_with (go_at_call 69; refine (isNaN_any _ _).mono ?_; rintro e w' ⟨rfl, rfl⟩)
      go_ret
      exact ⟨rfl, rfl⟩
    | false =>
      have h2' : (Op.bytesLess a.toList b.toList || a.toList == b.toList) = false := h2
      rw [h1', Bool.false_or] at h2'
      clear h2
      go_enter Try.func51, Try.ntmps51
      go_wp2_with (go_at_call 69; refine (isNaN_any _ _).mono ?_; rintro e w' ⟨rfl, rfl⟩)
      go_ret
      exact ⟨rfl, rfl⟩
theorem cmpFun_any (x y : AW) (w : World) : Calls Try.prog 50 #[x.val, y.val] w fun e w' => e = .returned (.int .i64 (cmpI x.a y.a)) ∧ Below w.heap.size w w' := by
  unfold AW.val
  go_enter Try.func50, Try.ntmps50
  go_wp2_with (go_at_call 51; refine (cmp_any _ _ _).mono ?_; rintro e w' ⟨rfl, rfl⟩)
  go_ret
  exact ⟨rfl, by ((repeat (first | with_reducible exact Below.refl _ _ | with_reducible apply below_drewN | with_reducible apply Below.drew | (with_reducible refine Below.alloc ?_ ?_ _) | (with_reducible refine Below.setCell ?_ ?_ _) | (with_reducible refine Below.trans ?_ (hb4.mono ?_)) | (with_reducible refine Below.trans ?_ (hb3.mono ?_)) | (with_reducible refine Below.trans ?_ (hb2.mono ?_)))); all_goals (first | (simp <;> omega) | (have h2s := hb2.size; (try simp at h2s); (try simp); omega) | (have h2s := hb2.size; have h3s := hb3.size; (try simp at h2s); (try simp at h3s); (try simp); omega) | (have h2s := hb2.size; have h3s := hb3.size; have h4s := hb4.size; (try simp at h2s); (try simp at h3s); (try simp at h4s); (try simp); omega)))⟩
theorem bs_ret {a p : Nat} {b q : Bool} (h1 : a = p) (h2 : b = q) : Ending.returned (.tuple #[.int .i64 (a : Int), .bool b]) = .returned (.tuple #[.int .i64 (p : Int), .bool q]) := by rw [h1, h2]
def hasN (xs : List AW) (s : ByteArray) : Bool := decide (posL s xs < xs.length) && eqS (atA xs (posL s xs)).a s
theorem bs_next {w w1 : World} {x y : AW} {b o h : Nat} (hb : Below w.heap.size w w1) (hS : AirAt w b o x ∧ AirAt w h 0 y) : AirAt w1 b o x ∧ AirAt w1 h 0 y :=
  ⟨hS.1.below hb (World.block_lt_of_cell? w _ hS.1.c0), hS.2.below hb (World.block_lt_of_cell? w _ hS.2.c0)⟩
def SC (b o h : Nat) (x y : AW) (w' : World) : Prop := w'.cell? ⟨b, o, none⟩ = some (.string x.a) ∧ w'.cell? ⟨b, o + 1, none⟩ = some (.int .i64 x.u) ∧ w'.cell? ⟨b, o + 2, none⟩ = some (.int .i64 x.v) ∧ w'.cell? ⟨b, o + 3, none⟩ = some (.int .i64 x.l) ∧ w'.cell? ⟨b, o + 4, none⟩ = some (.int .i64 x.s) ∧ w'.cell? ⟨b, o + 5, none⟩ = some (.int .i64 x.f) ∧ w'.cell? ⟨b, o + 6, none⟩ = some (.int .i64 x.k) ∧ w'.cell? ⟨h, 0, none⟩ = some (.string y.a) ∧ w'.cell? ⟨h, 1, none⟩ = some (.int .i64 y.u) ∧ w'.cell? ⟨h, 2, none⟩ = some (.int .i64 y.v) ∧ w'.cell? ⟨h, 3, none⟩ = some (.int .i64 y.l) ∧ w'.cell? ⟨h, 4, none⟩ = some (.int .i64 y.s) ∧ w'.cell? ⟨h, 5, none⟩ = some (.int .i64 y.f) ∧ w'.cell? ⟨h, 6, none⟩ = some (.int .i64 y.k)
theorem sc_of {w' : World} {b o h : Nat} {x y : AW} (hx : AirAt w' b o x) (hy : AirAt w' h 0 y) : SC b o h x y w' := by
  obtain ⟨y0, y1, y2, y3, y4, y5, y6⟩ := airZero hy
  exact ⟨hx.c0, hx.c1, hx.c2, hx.c3, hx.c4, hx.c5, hx.c6, y0, y1, y2, y3, y4, y5, y6⟩
theorem sc_next {w w1 : World} {b o h : Nat} {x y : AW} (hb : Below w.heap.size w w1) (hS : SC b o h x y w) : SC b o h x y w1 := by
  obtain ⟨x0, x1, x2, x3, x4, x5, x6, y0, y1, y2, y3, y4, y5, y6⟩ := hS
  have f : ∀ {a : Addr} {v : Value}, w.cell? a = some v → w1.cell? a = some v := fun {a v} h => (hb.cell (World.block_lt_of_cell? w a h)).trans h
  exact ⟨f x0, f x1, f x2, f x3, f x4, f x5, f x6, f y0, f y1, f y2, f y3, f y4, f y5, f y6⟩
set_option maxHeartbeats 4000000 in
set_option maxRecDepth 100000 in
theorem bsearch_any (j : Int) (A : Option Addr) (c : Nat) (xs : List AW) (n : Nat) (y : AW) (w : World) (hn : xs.length = n) (h20 : n ≤ 1048576) (hm : mineB j xs = true) (hx : Airs w A xs) :
    Calls Try.prog 49 #[.slice A n c, y.val, .func (.func 50) #[] #[]] w fun e w' => e = .returned (.tuple #[.int .i64 (posL y.a xs : Int), .bool (hasN xs y.a)]) ∧ Below w.heap.size w w' := by
  unfold AW.val
  have b0 : Below w.heap.size w (w.alloc (.cells #[.string y.a, .int .i64 y.u, .int .i64 y.v, .int .i64 y.l, .int .i64 y.s, .int .i64 y.f, .int .i64 y.k] 51)) := (Below.refl _ _).alloc (Nat.le_refl _) _
  have HY := Lib.hid (airNew w y 51)
  have HX := Lib.hid (hx.next b0)
  have HN := Lib.hid hn
  have HM := Lib.hid hm
  have B0 := Lib.hid b0
  clear hx hn hm b0
  go_enter Try.func49, Try.ntmps49
  go_wp2_with fail
  obtain ⟨W0, hW0⟩ : ∃ W0, W0 = w.alloc (.cells #[.string y.a, .int .i64 y.u, .int .i64 y.v, .int .i64 y.l, .int .i64 y.s, .int .i64 y.f, .int .i64 y.k] 51) := ⟨_, rfl⟩
  rw [← hW0] at HY HX B0 ⊢
  clear hW0
  go_loopw [9, 10] (fun l r wr => ∃ a b : Nat, a ≤ b ∧ b ≤ n ∧ l = .int .i64 a ∧ r = .int .i64 b ∧ (∀ k, k < a → ltS (atA xs k).a y.a = true) ∧ (∀ k, b ≤ k → k < n → ltS (atA xs k).a y.a = false) ∧ Below W0.heap.size W0 wr) (fun l r _ => (intOf r - intOf l).toNat)
  case atStart => exact ⟨0, n, Nat.zero_le _, Nat.le_refl _, rfl, rfl, fun k hk => absurd hk (by omega), fun k h1 h2 => absurd h1 (by omega), Below.refl _ _⟩
  case round =>
    obtain ⟨a, b, hab, hbn, rfl, rfl, ha, hb, hw⟩ := hrel
    have HA := Lib.hid ha
    have HB := Lib.hid hb
    have HW := Lib.hid hw
    clear ha hb hw
    by_cases hlt : a < b
    · have hlti : (a : Int) < b := by omega
      obtain ⟨h, hh⟩ : ∃ h, h = (a + b) / 2 := ⟨_, rfl⟩
      have hhb : h < b := by omega
      have hha : a ≤ h := by omega
      have hmid : ((a : Int) + (b : Int)) / 2 = (h : Int) := by rw [midIs, hh]
      have HH := Lib.hid hh
      obtain ⟨bb, off, rfl, _, hc⟩ := (HX.out.next HW.out).at_ (k := h) (by rw [HN.out]; omega)
      have hhn : h < n := by omega
      have hhi : (h : Int) < n := by omega
      obtain ⟨x, hx⟩ : ∃ x, x = atA xs h := ⟨_, rfl⟩
      rw [← hx] at hc
      have HXK := Lib.hid hx
      have HS0 := Lib.hid (sc_of hc (HY.out.below HW.out (World.block_lt_of_cell? W0 _ HY.out.c0)))
      clear hh hx hc
      cases hl : ltS x.a y.a with
      | true =>
        have hneg : cmpI x.a y.a < 0 := (cmpI_neg _ _).2 hl
        have HL := Lib.hid hl
        clear hl
        go_wp2_with fail
        go_region_held3 (fun w' => w'.cell? ⟨bb, off + h * 7, none⟩ = some (.string x.a) ∧ w'.cell? ⟨bb, off + h * 7 + 1, none⟩ = some (.int .i64 x.u) ∧ w'.cell? ⟨bb, off + h * 7 + 2, none⟩ = some (.int .i64 x.v) ∧ w'.cell? ⟨bb, off + h * 7 + 3, none⟩ = some (.int .i64 x.l) ∧ w'.cell? ⟨bb, off + h * 7 + 4, none⟩ = some (.int .i64 x.s) ∧ w'.cell? ⟨bb, off + h * 7 + 5, none⟩ = some (.int .i64 x.f) ∧ w'.cell? ⟨bb, off + h * 7 + 6, none⟩ = some (.int .i64 x.k) ∧ w'.cell? ⟨w.heap.size, 0, none⟩ = some (.string y.a) ∧ w'.cell? ⟨w.heap.size, 1, none⟩ = some (.int .i64 y.u) ∧ w'.cell? ⟨w.heap.size, 2, none⟩ = some (.int .i64 y.v) ∧ w'.cell? ⟨w.heap.size, 3, none⟩ = some (.int .i64 y.l) ∧ w'.cell? ⟨w.heap.size, 4, none⟩ = some (.int .i64 y.s) ∧ w'.cell? ⟨w.heap.size, 5, none⟩ = some (.int .i64 y.f) ∧ w'.cell? ⟨w.heap.size, 6, none⟩ = some (.int .i64 y.k)) (first | exact HS0.out | exact sc_next bq HS0.out)
          ((go_at_call 50; refine (cmpFun_any x y _).mono ?_; rintro e w1 ⟨rfl, bq⟩))
        have HB1 := Lib.hid (stepB HW.out (below_undrew bq))
        clear bq
        go_wp2_with fail
        go_roundw
        case rel => exact ⟨h + 1, b, by omega, by omega, by go_num, rfl, fun k hk => less_below HM.out (a := h) (by rw [HN.out]; omega) (by omega) (by rw [← HXK.out]; exact HL.out), HB.out, HB1.out⟩
        case measure => simp [intOf]; omega
      | false =>
        have hneg : ¬ cmpI x.a y.a < 0 := fun h => by rw [(cmpI_neg _ _).1 h] at hl; cases hl
        have HL := Lib.hid hl
        clear hl
        go_wp2_with fail
        go_region_held3 (fun w' => w'.cell? ⟨bb, off + h * 7, none⟩ = some (.string x.a) ∧ w'.cell? ⟨bb, off + h * 7 + 1, none⟩ = some (.int .i64 x.u) ∧ w'.cell? ⟨bb, off + h * 7 + 2, none⟩ = some (.int .i64 x.v) ∧ w'.cell? ⟨bb, off + h * 7 + 3, none⟩ = some (.int .i64 x.l) ∧ w'.cell? ⟨bb, off + h * 7 + 4, none⟩ = some (.int .i64 x.s) ∧ w'.cell? ⟨bb, off + h * 7 + 5, none⟩ = some (.int .i64 x.f) ∧ w'.cell? ⟨bb, off + h * 7 + 6, none⟩ = some (.int .i64 x.k) ∧ w'.cell? ⟨w.heap.size, 0, none⟩ = some (.string y.a) ∧ w'.cell? ⟨w.heap.size, 1, none⟩ = some (.int .i64 y.u) ∧ w'.cell? ⟨w.heap.size, 2, none⟩ = some (.int .i64 y.v) ∧ w'.cell? ⟨w.heap.size, 3, none⟩ = some (.int .i64 y.l) ∧ w'.cell? ⟨w.heap.size, 4, none⟩ = some (.int .i64 y.s) ∧ w'.cell? ⟨w.heap.size, 5, none⟩ = some (.int .i64 y.f) ∧ w'.cell? ⟨w.heap.size, 6, none⟩ = some (.int .i64 y.k)) (first | exact HS0.out | exact sc_next bq HS0.out)
          ((go_at_call 50; refine (cmpFun_any x y _).mono ?_; rintro e w1 ⟨rfl, bq⟩))
        have HB1 := Lib.hid (stepB HW.out (below_undrew bq))
        clear bq
        go_wp2_with fail
        go_roundw
        case rel => exact ⟨a, h, by omega, by omega, rfl, rfl, HA.out, fun k h1 h2 => less_above HM.out (a := h) (by rw [HN.out]; omega) (by omega) (by rw [← HXK.out]; exact HL.out), HB1.out⟩
        case measure => simp [intOf]; omega
    · obtain rfl : a = b := by omega
      have hpa : a = posL y.a xs := pos_is ⟨by rw [HN.out]; exact hbn, HA.out, fun h => HB.out a (Nat.le_refl _) (by rw [← HN.out]; exact h)⟩
      have hlti : ¬ (a : Int) < a := by omega
      by_cases han : a < n
      · have hai : (a : Int) < n := by omega
        obtain ⟨bb, off, rfl, _, hc⟩ := (HX.out.next HW.out).at_ (k := a) (by rw [HN.out]; omega)
        obtain ⟨x, hx⟩ : ∃ x, x = atA xs a := ⟨_, rfl⟩
        rw [← hx] at hc
        have HS0 := Lib.hid (sc_of hc (HY.out.below HW.out (World.block_lt_of_cell? W0 _ HY.out.c0)))
        have hl : ltS x.a y.a = false := by rw [hx]; exact HB.out a (Nat.le_refl _) han
        have HPA := Lib.hid hpa
        have HXK := Lib.hid hx
        cases he : eqS x.a y.a with
        | true =>
          have hz : cmpI x.a y.a = 0 := (cmpI_zero _ _ hl).2 he
          have HE := Lib.hid (show hasN xs y.a = true by unfold hasN; rw [← HPA.out, ← HXK.out, he, HN.out]; simpa using han)
          clear hl he hx hc hpa
          go_wp2_with fail
          go_region_held3 (fun w' => w'.cell? ⟨bb, off + a * 7, none⟩ = some (.string x.a) ∧ w'.cell? ⟨bb, off + a * 7 + 1, none⟩ = some (.int .i64 x.u) ∧ w'.cell? ⟨bb, off + a * 7 + 2, none⟩ = some (.int .i64 x.v) ∧ w'.cell? ⟨bb, off + a * 7 + 3, none⟩ = some (.int .i64 x.l) ∧ w'.cell? ⟨bb, off + a * 7 + 4, none⟩ = some (.int .i64 x.s) ∧ w'.cell? ⟨bb, off + a * 7 + 5, none⟩ = some (.int .i64 x.f) ∧ w'.cell? ⟨bb, off + a * 7 + 6, none⟩ = some (.int .i64 x.k) ∧ w'.cell? ⟨w.heap.size, 0, none⟩ = some (.string y.a) ∧ w'.cell? ⟨w.heap.size, 1, none⟩ = some (.int .i64 y.u) ∧ w'.cell? ⟨w.heap.size, 2, none⟩ = some (.int .i64 y.v) ∧ w'.cell? ⟨w.heap.size, 3, none⟩ = some (.int .i64 y.l) ∧ w'.cell? ⟨w.heap.size, 4, none⟩ = some (.int .i64 y.s) ∧ w'.cell? ⟨w.heap.size, 5, none⟩ = some (.int .i64 y.f) ∧ w'.cell? ⟨w.heap.size, 6, none⟩ = some (.int .i64 y.k)) (first | exact HS0.out | exact sc_next bq HS0.out)
            ((go_at_call 50; refine (cmpFun_any x y _).mono ?_; rw [hz]; rintro e w1 ⟨rfl, bq⟩))
          have HB1 := Lib.hid (stepB HW.out (below_undrew bq))
          clear bq
          go_wp2_with fail
          go_ret2
          exact ⟨bs_ret HPA.out HE.out.symm, stepB B0.out HB1.out⟩
        | false =>
          have hz : ¬ cmpI x.a y.a = 0 := fun h => by rw [(cmpI_zero _ _ hl).1 h] at he; cases he
          have HE := Lib.hid (show hasN xs y.a = false by unfold hasN; rw [← HPA.out, ← HXK.out, he]; simp)
          clear hl he hx hc hpa
          go_wp2_with fail
          go_region_held3 (fun w' => w'.cell? ⟨bb, off + a * 7, none⟩ = some (.string x.a) ∧ w'.cell? ⟨bb, off + a * 7 + 1, none⟩ = some (.int .i64 x.u) ∧ w'.cell? ⟨bb, off + a * 7 + 2, none⟩ = some (.int .i64 x.v) ∧ w'.cell? ⟨bb, off + a * 7 + 3, none⟩ = some (.int .i64 x.l) ∧ w'.cell? ⟨bb, off + a * 7 + 4, none⟩ = some (.int .i64 x.s) ∧ w'.cell? ⟨bb, off + a * 7 + 5, none⟩ = some (.int .i64 x.f) ∧ w'.cell? ⟨bb, off + a * 7 + 6, none⟩ = some (.int .i64 x.k) ∧ w'.cell? ⟨w.heap.size, 0, none⟩ = some (.string y.a) ∧ w'.cell? ⟨w.heap.size, 1, none⟩ = some (.int .i64 y.u) ∧ w'.cell? ⟨w.heap.size, 2, none⟩ = some (.int .i64 y.v) ∧ w'.cell? ⟨w.heap.size, 3, none⟩ = some (.int .i64 y.l) ∧ w'.cell? ⟨w.heap.size, 4, none⟩ = some (.int .i64 y.s) ∧ w'.cell? ⟨w.heap.size, 5, none⟩ = some (.int .i64 y.f) ∧ w'.cell? ⟨w.heap.size, 6, none⟩ = some (.int .i64 y.k)) (first | exact HS0.out | exact sc_next bq HS0.out)
            ((go_at_call 50; refine (cmpFun_any x y _).mono ?_; rintro e w1 ⟨rfl, bq⟩))
          have HB1 := Lib.hid (stepB HW.out (below_undrew bq))
          clear bq
          go_wp2_with fail
          go_ret2
          exact ⟨bs_ret HPA.out (by rw [HE.out]; simpa using hz), stepB B0.out HB1.out⟩
      · obtain rfl : a = n := by omega
        have HE := Lib.hid (show hasN xs y.a = false by unfold hasN; rw [← hpa, HN.out]; simp)
        have HPA := Lib.hid hpa
        clear hpa
        go_wp2_with fail
        go_quiet (fail)
        go_wp2_with fail
        go_ret2
        exact ⟨bs_ret HPA.out HE.out.symm, stepB B0.out (below_drewN HW.out _)⟩
end Go.Proofs.Ytgiokjflfadeeaa
