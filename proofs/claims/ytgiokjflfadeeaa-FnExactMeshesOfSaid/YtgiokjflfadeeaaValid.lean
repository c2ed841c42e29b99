/-
  The contracts of the two tests of a mine.
-/
import Derived.Test.YtgiokjflfadeeaaAirwayM
import Derived.WalkLawsBesides
namespace Go.Proofs.Ytgiokjflfadeeaa
open Go.RowKit
set_option linter.unusedVariables false

theorem less_total (a p : List UInt8) : (Op.bytesLess a p || a == p) = !Op.bytesLess p a := by
  induction a generalizing p with
  | nil => cases p <;> simp [Op.bytesLess]
  | cons x s ih =>
    cases p with
    | nil => simp [Op.bytesLess]
    | cons y t =>
      have h := ih t
      simp only [Op.bytesLess]
      by_cases e : x = y
      · subst e
        have : ¬ x < x := by simp
        simpa [this] using h
      · have h1 : ¬ (x.toNat = y.toNat) := fun h => e (UInt8.toNat_inj.1 h)
        by_cases l : x < y
        · have : ¬ y < x := by rw [UInt8.lt_iff_toNat_lt] at *; omega
          simp [l, this, Ne.symm e]
        · have : y < x := by rw [UInt8.lt_iff_toNat_lt] at *; omega
          simp [l, this, e]
def leS (a p : ByteArray) : Bool := Op.bytesLess a.toList p.toList || a.toList == p.toList
theorem leS_ge (a p : ByteArray) : leS a p = !Op.bytesLess p.toList a.toList := less_total _ _

def endsB (j : Int) (x : AW) : Bool := inB x.u 0 (j - 1) && inB x.v 0 (j - 1)
def stepOk (j : Int) (xs : List AW) (k : Nat) : Bool := (atA xs k).okB && (endsB j (atA xs k) && (decide (k = 0) || !leS (atA xs k).a (atA xs (k - 1)).a))
def mineB (j : Int) (xs : List AW) : Bool := inB j 1 16 && (decide (xs.length ≤ 24) && (List.range xs.length).all (stepOk j xs))
theorem range_take (j : Int) (xs : List AW) (k : Nat) : (List.range (k + 1)).all (stepOk j xs) = ((List.range k).all (stepOk j xs) && stepOk j xs k) := by
  rw [List.range_succ, List.all_append]; simp
theorem stepOk_is (j : Int) (xs : List AW) (k : Nat) (x : AW) (hx : atA xs k = x) : stepOk j xs k = (x.okB && (endsB j x && (decide (k = 0) || !leS x.a (atA xs (k - 1)).a))) := by unfold stepOk; rw [hx]
theorem range_no (j : Int) (xs : List AW) (k n : Nat) (h : k < n) (hf : stepOk j xs k = false) : (List.range n).all (stepOk j xs) = false := by
  rw [List.all_eq_false]
  exact ⟨k, by simpa using h, by simp [hf]⟩

theorem mine_no {j : Int} {xs : List AW} {k : Nat} (h : k < xs.length) (hf : stepOk j xs k = false) : mineB j xs = false := by
  unfold mineB; rw [range_no j xs k _ h hf]; simp
theorem hasEnds_any (j : Int) (A : Option Addr) (n c : Nat) (x : AW) (w : World) (hj : 1 ≤ j ∧ j ≤ 16) :
    Calls Try.prog 52 #[.agg #[.int .i64 j, .slice A n c], x.val] w fun e w' => e = .returned (.bool (endsB j x)) ∧ Below w.heap.size w w' := by
  unfold AW.val endsB
  by_cases g1 : inB x.u 0 (j - 1) = true
  · go_enter Try.func52, Try.ntmps52
    go_wp2_with (first | (go_at_call 57; refine (within_any _ _ _ _).mono ?_; rintro e w' ⟨rfl, rfl⟩) | go_in)
    go_ret
    exact ⟨ret_bool (by simp [g1]), by ((repeat (first | with_reducible exact Below.refl _ _ | with_reducible apply below_drewN | with_reducible apply Below.drew | (with_reducible refine Below.alloc ?_ ?_ _) | (with_reducible refine Below.setCell ?_ ?_ _) | (with_reducible refine Below.trans ?_ (hb4.mono ?_)) | (with_reducible refine Below.trans ?_ (hb3.mono ?_)) | (with_reducible refine Below.trans ?_ (hb2.mono ?_)))); all_goals (first | (simp <;> omega) | (have h2s := hb2.size; (try simp at h2s); (try simp); omega) | (have h2s := hb2.size; have h3s := hb3.size; (try simp at h2s); (try simp at h3s); (try simp); omega) | (have h2s := hb2.size; have h3s := hb3.size; have h4s := hb4.size; (try simp at h2s); (try simp at h3s); (try simp at h4s); (try simp); omega)))⟩
  · simp only [Bool.not_eq_true] at g1
    go_enter Try.func52, Try.ntmps52
    go_wp2_with (first | (go_at_call 57; refine (within_any _ _ _ _).mono ?_; rintro e w' ⟨rfl, rfl⟩) | go_in)
    go_ret
    exact ⟨ret_bool (by simp [g1]), by ((repeat (first | with_reducible exact Below.refl _ _ | with_reducible apply below_drewN | with_reducible apply Below.drew | (with_reducible refine Below.alloc ?_ ?_ _) | (with_reducible refine Below.setCell ?_ ?_ _) | (with_reducible refine Below.trans ?_ (hb4.mono ?_)) | (with_reducible refine Below.trans ?_ (hb3.mono ?_)) | (with_reducible refine Below.trans ?_ (hb2.mono ?_)))); all_goals (first | (simp <;> omega) | (have h2s := hb2.size; (try simp at h2s); (try simp); omega) | (have h2s := hb2.size; have h3s := hb3.size; (try simp at h2s); (try simp at h3s); (try simp); omega) | (have h2s := hb2.size; have h3s := hb3.size; have h4s := hb4.size; (try simp at h2s); (try simp at h3s); (try simp at h4s); (try simp); omega)))⟩

theorem s_next {w w1 : World} {x : AW} {j : Int} {A : Option Addr} {n c g h bp op : Nat} {p : ByteArray} (hb : Below w.heap.size w w1) (hS : w.cell? ⟨g, 0, none⟩ = some (.int .i64 j) ∧ w.cell? ⟨g, 1, none⟩ = some (.slice A n c) ∧ w.cell? ⟨h, 0, none⟩ = some (.string x.a) ∧ w.cell? ⟨h, 1, none⟩ = some (.int .i64 x.u) ∧ w.cell? ⟨h, 2, none⟩ = some (.int .i64 x.v) ∧ w.cell? ⟨h, 3, none⟩ = some (.int .i64 x.l) ∧ w.cell? ⟨h, 4, none⟩ = some (.int .i64 x.s) ∧ w.cell? ⟨h, 5, none⟩ = some (.int .i64 x.f) ∧ w.cell? ⟨h, 6, none⟩ = some (.int .i64 x.k) ∧ w.cell? ⟨bp, op, none⟩ = some (.string p)) : w1.cell? ⟨g, 0, none⟩ = some (.int .i64 j) ∧ w1.cell? ⟨g, 1, none⟩ = some (.slice A n c) ∧ w1.cell? ⟨h, 0, none⟩ = some (.string x.a) ∧ w1.cell? ⟨h, 1, none⟩ = some (.int .i64 x.u) ∧ w1.cell? ⟨h, 2, none⟩ = some (.int .i64 x.v) ∧ w1.cell? ⟨h, 3, none⟩ = some (.int .i64 x.l) ∧ w1.cell? ⟨h, 4, none⟩ = some (.int .i64 x.s) ∧ w1.cell? ⟨h, 5, none⟩ = some (.int .i64 x.f) ∧ w1.cell? ⟨h, 6, none⟩ = some (.int .i64 x.k) ∧ w1.cell? ⟨bp, op, none⟩ = some (.string p) := by
  obtain ⟨m0, m1, x0, x1, x2, x3, x4, x5, x6, q⟩ := hS
  have f : ∀ {a : Addr} {v : Value}, w.cell? a = some v → w1.cell? a = some v := fun {a v} h => (hb.cell (World.block_lt_of_cell? w a h)).trans h
  exact ⟨f m0, f m1, f x0, f x1, f x2, f x3, f x4, f x5, f x6, f q⟩

set_option maxHeartbeats 6000000 in
set_option maxRecDepth 100000 in
theorem validMineP_any (j : Int) (A : Option Addr) (c : Nat) (xs : List AW) (n : Nat) (w : World) (hn : xs.length = n) (h20 : n ≤ 1048576) (hs : ∀ k, k < n → (atA xs k).a.size ≤ maxLen) (hx : Airs w A xs) :
    Calls Try.prog 33 #[.agg #[.int .i64 j, .slice A n c]] w fun e w' => e = .returned (.bool (mineB j xs)) ∧ Below w.heap.size w w' := by
  have HX := Lib.hid hx
  have HN := Lib.hid hn
  have HS := Lib.hid hs
  clear hx hn hs
  by_cases g0 : inB j 1 16 = true
  · have b0 := inB_true.1 g0
    by_cases h24 : n ≤ 24
    · have HB0 := Lib.hid (show Below w.heap.size w (w.alloc (.cells #[.int .i64 j, .slice A n c] 28)) from (Below.refl _ _).alloc (Nat.le_refl _) _)
      go_enter Try.func33, Try.ntmps33
      go_wp2_with (first | (go_at_call 54; refine (l00In_any _ _ _ _).mono ?_; rintro e w' ⟨rfl, rfl⟩) | (go_at_call 57; refine (within_any _ _ _ _).mono ?_; rintro e w' ⟨rfl, rfl⟩) | go_in)
      go_loopw [18] (fun i wr => ∃ k : Nat, k ≤ n ∧ i = .int .i64 k ∧ (List.range k).all (stepOk j xs) = true ∧ Below (w.alloc (.cells #[.int .i64 j, .slice A n c] 28)).heap.size (w.alloc (.cells #[.int .i64 j, .slice A n c] 28)) wr) (fun i _ => n - (intOf i).toNat)
      case atStart => exact ⟨0, Nat.zero_le _, rfl, rfl, Below.refl _ _⟩
      case round =>
        obtain ⟨k, hk, rfl, hall, hb⟩ := hrel
        have HA := Lib.hid hall
        have HB := Lib.hid hb
        clear hall hb
        by_cases hlt : k < n
        · obtain ⟨b, off, rfl, hb', hc⟩ := (((HX.out.next HB0.out).next HB.out)).at_ (k := k) (by have := HN.out; omega)
          have hki : (k : Int) < n := by omega
          have hsz := HS.out k hlt
          have m0 : wr.cell? ⟨w.heap.size, 0, none⟩ = some (.int .i64 j) := (HB.out.cell (by simp)).trans (by simp [go_sem])
          have m1 : wr.cell? ⟨w.heap.size, 1, none⟩ = some (.slice (some ⟨b, off, none⟩) n c) := (HB.out.cell (by simp)).trans (by simp [go_sem])
          have hwr : w.heap.size < wr.heap.size := by have := HB.out.size; simp at this; omega
          obtain ⟨bp, op, p, hbp, hpc, hpk⟩ : ∃ (bp op : Nat) (p : ByteArray), bp < wr.heap.size ∧ wr.cell? ⟨bp, op, none⟩ = some (.string p) ∧ (0 < k → bp = b ∧ op = off + (k - 1) * 7 ∧ p = (atA xs (k - 1)).a) := by
            by_cases h0 : 0 < k
            · obtain ⟨b2, off2, e2, hb2', hc2⟩ := (((HX.out.next HB0.out).next HB.out)).at_ (k := k - 1) (by have := HN.out; omega)
              injection e2 with e2; injection e2 with e21 e22
              subst e21 e22
              exact ⟨_, _, _, hb', hc2.c0, fun _ => ⟨rfl, rfl, rfl⟩⟩
            · exact ⟨_, _, _, hb', hc.c0, fun h => absurd h h0⟩
          have HPK := Lib.hid hpk
          clear hpk
          obtain ⟨c0, c1, c2, c3, c4, c5, c6⟩ := hc
          generalize hx : atA xs k = x at c0 c1 c2 c3 c4 c5 c6 hsz
          have HXK := Lib.hid hx
          clear hx
          have hS0 : Hid ((wr.alloc (.cells #[.string x.a, .int .i64 x.u, .int .i64 x.v, .int .i64 x.l, .int .i64 x.s, .int .i64 x.f, .int .i64 x.k] 51)).cell? ⟨w.heap.size, 0, none⟩ = some (.int .i64 j) ∧ (wr.alloc (.cells #[.string x.a, .int .i64 x.u, .int .i64 x.v, .int .i64 x.l, .int .i64 x.s, .int .i64 x.f, .int .i64 x.k] 51)).cell? ⟨w.heap.size, 1, none⟩ = some (.slice (some ⟨b, off, none⟩) n c) ∧ (wr.alloc (.cells #[.string x.a, .int .i64 x.u, .int .i64 x.v, .int .i64 x.l, .int .i64 x.s, .int .i64 x.f, .int .i64 x.k] 51)).cell? ⟨wr.heap.size, 0, none⟩ = some (.string x.a) ∧ (wr.alloc (.cells #[.string x.a, .int .i64 x.u, .int .i64 x.v, .int .i64 x.l, .int .i64 x.s, .int .i64 x.f, .int .i64 x.k] 51)).cell? ⟨wr.heap.size, 1, none⟩ = some (.int .i64 x.u) ∧ (wr.alloc (.cells #[.string x.a, .int .i64 x.u, .int .i64 x.v, .int .i64 x.l, .int .i64 x.s, .int .i64 x.f, .int .i64 x.k] 51)).cell? ⟨wr.heap.size, 2, none⟩ = some (.int .i64 x.v) ∧ (wr.alloc (.cells #[.string x.a, .int .i64 x.u, .int .i64 x.v, .int .i64 x.l, .int .i64 x.s, .int .i64 x.f, .int .i64 x.k] 51)).cell? ⟨wr.heap.size, 3, none⟩ = some (.int .i64 x.l) ∧ (wr.alloc (.cells #[.string x.a, .int .i64 x.u, .int .i64 x.v, .int .i64 x.l, .int .i64 x.s, .int .i64 x.f, .int .i64 x.k] 51)).cell? ⟨wr.heap.size, 4, none⟩ = some (.int .i64 x.s) ∧ (wr.alloc (.cells #[.string x.a, .int .i64 x.u, .int .i64 x.v, .int .i64 x.l, .int .i64 x.s, .int .i64 x.f, .int .i64 x.k] 51)).cell? ⟨wr.heap.size, 5, none⟩ = some (.int .i64 x.f) ∧ (wr.alloc (.cells #[.string x.a, .int .i64 x.u, .int .i64 x.v, .int .i64 x.l, .int .i64 x.s, .int .i64 x.f, .int .i64 x.k] 51)).cell? ⟨wr.heap.size, 6, none⟩ = some (.int .i64 x.k) ∧ (wr.alloc (.cells #[.string x.a, .int .i64 x.u, .int .i64 x.v, .int .i64 x.l, .int .i64 x.s, .int .i64 x.f, .int .i64 x.k] 51)).cell? ⟨bp, op, none⟩ = some (.string p)) := Lib.hid (by
            simp [go_sem, World.cell?_alloc_lt, hwr, m0, m1, hbp, hpc])
          go_wp2_with fail
          by_cases g1 : x.okB = true
          · by_cases g2 : endsB j x = true
            · by_cases h0 : 0 < k
              · obtain ⟨rfl, rfl, rfl⟩ := HPK.out h0
                have h0i : decide ((0 : Int) < k) = true := by simpa using h0
                have hk1 : IntKind.i64.wrap ((k : Int) - 1) = (k : Int) - 1 := IntWalk.i64_in _ (by omega)
                have hk2 : ((k : Int) - 1).toNat = k - 1 := by omega
                have hk3 : 0 ≤ (k : Int) - 1 := by omega
                have hk4 : (k : Int) - 1 < n := by omega
                have hk5 : 1 ≤ (k : Int) := by omega
                have hk6 : (k : Int) < n + 1 := by omega
                have hk7 : (k : Int) ≤ n := by omega
                have hk8 : 1 ≤ k := by omega
                go_region_held3 (fun w' => w'.cell? ⟨w.heap.size, 0, none⟩ = some (.int .i64 j) ∧ w'.cell? ⟨w.heap.size, 1, none⟩ = some (.slice (some ⟨bp, off, none⟩) n c) ∧ w'.cell? ⟨wr.heap.size, 0, none⟩ = some (.string x.a) ∧ w'.cell? ⟨wr.heap.size, 1, none⟩ = some (.int .i64 x.u) ∧ w'.cell? ⟨wr.heap.size, 2, none⟩ = some (.int .i64 x.v) ∧ w'.cell? ⟨wr.heap.size, 3, none⟩ = some (.int .i64 x.l) ∧ w'.cell? ⟨wr.heap.size, 4, none⟩ = some (.int .i64 x.s) ∧ w'.cell? ⟨wr.heap.size, 5, none⟩ = some (.int .i64 x.f) ∧ w'.cell? ⟨wr.heap.size, 6, none⟩ = some (.int .i64 x.k) ∧ w'.cell? ⟨bp, off + (k - 1) * 7, none⟩ = some (.string (atA xs (k - 1)).a)) (first | exact hS0.out | exact s_next be (by assumption) | exact s_next bv (by assumption))
                  ((first | (go_at_call 48; refine (validAW_any x _ hsz).mono ?_; rw [g1]; rintro e w1 ⟨rfl, bv⟩) | (go_at_call 52; refine (hasEnds_any j _ _ _ x _ b0).mono ?_; rw [g2]; rintro e w2 ⟨rfl, be⟩)))
                have HB2 := Lib.hid (stepB (stepB (HB.out.alloc HB.out.size _) (below_undrew bv)) be)
                have HP := Lib.hid (stepOk_is j xs k x HXK.out)
                clear bv be m0 m1 c0 c1 c2 c3 c4 c5 c6 hpc hk1 hk2 hk3 hk4 hk5 hk6 hk7 hk8
                generalize hle : (Op.bytesLess x.a.toList (atA xs (k - 1)).a.toList || x.a.toList == (atA xs (k - 1)).a.toList) = q at *
                have HL := Lib.hid hle
                clear hle
                cases q
                · go_wp2_with fail
                  go_roundw
                  case rel => exact ⟨k + 1, by omega, by go_num, by rw [range_take, HA.out, HP.out, g1, g2, show leS x.a (atA xs (k - 1)).a = false from HL.out]; simp, HB2.out⟩
                  case measure => simp [intOf]; omega
                · go_wp2_with fail
                  go_ret
                  exact ⟨ret_bool (by rw [mine_no (k := k) (by have := HN.out; omega) (by rw [HP.out, g1, g2, show leS x.a (atA xs (k - 1)).a = true from HL.out]; simp; omega)]), stepB HB0.out HB2.out⟩
              · have h0i : decide ((0 : Int) < k) = false := by simp; omega
                have H0 := Lib.hid (show k = 0 by omega)
                have h0n : decide (0 < k) = false := by simp; omega
                have h0l : (k : Int) ≤ 0 := by omega
                clear h0
                refine wp_region_held_drew (S := (fun w' => w'.cell? ⟨w.heap.size, 0, none⟩ = some (.int .i64 j) ∧ w'.cell? ⟨w.heap.size, 1, none⟩ = some (.slice (some ⟨b, off, none⟩) n c) ∧ w'.cell? ⟨wr.heap.size, 0, none⟩ = some (.string x.a) ∧ w'.cell? ⟨wr.heap.size, 1, none⟩ = some (.int .i64 x.u) ∧ w'.cell? ⟨wr.heap.size, 2, none⟩ = some (.int .i64 x.v) ∧ w'.cell? ⟨wr.heap.size, 3, none⟩ = some (.int .i64 x.l) ∧ w'.cell? ⟨wr.heap.size, 4, none⟩ = some (.int .i64 x.s) ∧ w'.cell? ⟨wr.heap.size, 5, none⟩ = some (.int .i64 x.f) ∧ w'.cell? ⟨wr.heap.size, 6, none⟩ = some (.int .i64 x.k) ∧ w'.cell? ⟨bp, op, none⟩ = some (.string p))) (by kernel_rfl) hS0.out (fun hHeld => ?_)
                refine wpAnyH_take (i := 0) (oi := ⟨some 23, _, _, _, _, _⟩) (v := ?_) rfl (by kernel_rfl) (by kernel_rfl) (by kernel_rfl) (fun _ _ _ h => h) (Or.inl ⟨by kernel_rfl, ?_⟩) (by assumption) ?_; rotate_left; (focus (intro w hSw; (try dsimp only at hSw); go_simp; (try with_reducible rfl))); (try simp only [Act.put, List.setIfInBounds_toArray, List.set_cons_zero, List.set_cons_succ])
                refine wpAnyH_ready (rs := [1]) (by kernel_rfl) (by simp) ?_; refine AllReadyH.cons rfl (fun K hK => ?_) AllReadyH.nil; go_simp; (go_at_call 48; refine (validAW_any x _ hsz).mono ?_; rw [g1]; rintro e w1 ⟨rfl, bv⟩); go_wp2_with fail; refine hK.out _ _ (s_next bv hHeld) (fun hHeld => ?_); clear hK K; (try simp only [Act.put, List.setIfInBounds_toArray, List.set_cons_zero, List.set_cons_succ])
                refine wpAnyH_take (i := 2) (oi := ⟨some 25, _, _, _, _, _⟩) (v := ?_) rfl (by kernel_rfl) (by kernel_rfl) (by kernel_rfl) (fun _ _ _ h => h) (Or.inl ⟨by kernel_rfl, ?_⟩) (by assumption) ?_; rotate_left; (focus (intro w hSw; (try dsimp only at hSw); go_simp; (try with_reducible rfl))); (try simp only [Act.put, List.setIfInBounds_toArray, List.set_cons_zero, List.set_cons_succ])
                refine wpAnyH_take (i := 3) (oi := ⟨some 26, _, _, _, _, _⟩) (v := ?_) rfl (by kernel_rfl) (by kernel_rfl) (by kernel_rfl) (fun _ _ _ h => h) (Or.inl ⟨by kernel_rfl, ?_⟩) (by assumption) ?_; rotate_left; (focus (intro w hSw; (try dsimp only at hSw); go_simp; (try with_reducible rfl))); (try simp only [Act.put, List.setIfInBounds_toArray, List.set_cons_zero, List.set_cons_succ])
                refine wpAnyH_take (i := 4) (oi := ⟨some 27, _, _, _, _, _⟩) (v := ?_) rfl (by kernel_rfl) (by kernel_rfl) (by kernel_rfl) (fun _ _ _ h => h) (Or.inl ⟨by kernel_rfl, ?_⟩) (by assumption) ?_; rotate_left; (focus (intro w hSw; (try dsimp only at hSw); go_simp; (try with_reducible rfl))); (try simp only [Act.put, List.setIfInBounds_toArray, List.set_cons_zero, List.set_cons_succ])
                refine wpAnyH_take (i := 5) (oi := ⟨some 28, _, _, _, _, _⟩) (v := ?_) rfl (by kernel_rfl) (by kernel_rfl) (by kernel_rfl) (fun _ _ _ h => h) (Or.inl ⟨by kernel_rfl, ?_⟩) (by assumption) ?_; rotate_left; (focus (intro w hSw; (try dsimp only at hSw); go_simp; (try with_reducible rfl))); (try simp only [Act.put, List.setIfInBounds_toArray, List.set_cons_zero, List.set_cons_succ])
                refine wpAnyH_ready (rs := [6]) (by kernel_rfl) (by simp) ?_; refine AllReadyH.cons rfl (fun K hK => ?_) AllReadyH.nil; go_simp; (go_at_call 52; refine (hasEnds_any j _ _ _ x _ b0).mono ?_; rw [g2]; rintro e w2 ⟨rfl, be⟩); go_wp2_with fail; refine hK.out _ _ (s_next be hHeld) (fun hHeld => ?_); clear hK K; (try simp only [Act.put, List.setIfInBounds_toArray, List.set_cons_zero, List.set_cons_succ])
                refine wpAnyH_take (i := 7) (oi := ⟨some 30, _, _, _, _, _⟩) (v := ?_) rfl (by kernel_rfl) (by kernel_rfl) (by kernel_rfl) (fun _ _ _ h => h) (Or.inl ⟨by kernel_rfl, ?_⟩) (by assumption) ?_; rotate_left; (focus (intro w hSw; (try dsimp only at hSw); go_simp; (try with_reducible rfl))); (try simp only [Act.put, List.setIfInBounds_toArray, List.set_cons_zero, List.set_cons_succ])
                refine wpAnyH_take (i := 8) (oi := ⟨some 31, _, _, _, _, _⟩) (v := ?_) rfl (by kernel_rfl) (by kernel_rfl) (by kernel_rfl) (fun _ _ _ h => h) (Or.inl ⟨by kernel_rfl, ?_⟩) (by assumption) ?_; rotate_left; (focus (intro w hSw; (try dsimp only at hSw); go_simp; (try with_reducible rfl))); (try simp only [Act.put, List.setIfInBounds_toArray, List.set_cons_zero, List.set_cons_succ])
                refine wpAnyH_take (i := 9) (oi := ⟨some 32, _, _, _, _, _⟩) (v := ?_) rfl (by kernel_rfl) (by kernel_rfl) (by kernel_rfl) (fun _ _ _ h => h) (Or.inl ⟨by kernel_rfl, ?_⟩) (by assumption) ?_; rotate_left; (focus (intro w hSw; (try dsimp only at hSw); go_simp; (try with_reducible rfl))); (try simp only [Act.put, List.setIfInBounds_toArray, List.set_cons_zero, List.set_cons_succ])
                refine wpAnyH_take (i := 10) (oi := ⟨some 33, _, _, _, _, _⟩) (v := ?_) rfl (by kernel_rfl) (by kernel_rfl) (by kernel_rfl) (fun _ _ _ h => h) (Or.inl ⟨by kernel_rfl, ?_⟩) (by assumption) ?_; rotate_left; (focus (intro w hSw; (try dsimp only at hSw); go_simp; (try with_reducible rfl))); (try simp only [Act.put, List.setIfInBounds_toArray, List.set_cons_zero, List.set_cons_succ])
                refine wpAnyH_take (i := 11) (oi := ⟨some 34, _, _, _, _, _⟩) (v := ?_) rfl (by kernel_rfl) (by kernel_rfl) (by kernel_rfl) (fun _ _ _ h => h) (Or.inl ⟨by kernel_rfl, ?_⟩) (by assumption) ?_; rotate_left; (focus (intro w hSw; (try dsimp only at hSw); go_simp; (try with_reducible rfl))); (try simp only [Act.put, List.setIfInBounds_toArray, List.set_cons_zero, List.set_cons_succ])
                refine wpAnyH_take (i := 12) (oi := ⟨some 35, _, _, _, _, _⟩) (v := ?_) rfl (by kernel_rfl) (by kernel_rfl) (by kernel_rfl) (fun _ _ _ h => h) (Or.inl ⟨by kernel_rfl, ?_⟩) (by assumption) ?_; rotate_left; (focus (intro w hSw; (try dsimp only at hSw); go_simp; (try with_reducible rfl))); (try simp only [Act.put, List.setIfInBounds_toArray, List.set_cons_zero, List.set_cons_succ])
                refine wpAnyH_take (i := 13) (oi := ⟨some 36, _, _, _, _, _⟩) (v := undef) rfl (by kernel_rfl) (by kernel_rfl) (by kernel_rfl) (fun _ _ _ h => h) (Or.inr ⟨by kernel_rfl, rfl⟩) (by assumption) ?_; (try simp only [Act.put, List.setIfInBounds_toArray, List.set_cons_zero, List.set_cons_succ])
                refine wpAnyH_take (i := 14) (oi := ⟨some 37, _, _, _, _, _⟩) (v := undef) rfl (by kernel_rfl) (by kernel_rfl) (by kernel_rfl) (fun _ _ _ h => h) (Or.inr ⟨by kernel_rfl, rfl⟩) (by assumption) ?_; (try simp only [Act.put, List.setIfInBounds_toArray, List.set_cons_zero, List.set_cons_succ])
                refine wpAnyH_take (i := 15) (oi := ⟨some 38, _, _, _, _, _⟩) (v := undef) rfl (by kernel_rfl) (by kernel_rfl) (by kernel_rfl) (fun _ _ _ h => h) (Or.inr ⟨by kernel_rfl, rfl⟩) (by assumption) ?_; (try simp only [Act.put, List.setIfInBounds_toArray, List.set_cons_zero, List.set_cons_succ])
                refine wpAnyH_take (i := 16) (oi := ⟨some 39, _, _, _, _, _⟩) (v := undef) rfl (by kernel_rfl) (by kernel_rfl) (by kernel_rfl) (fun _ _ _ h => h) (Or.inr ⟨by kernel_rfl, rfl⟩) (by assumption) ?_; (try simp only [Act.put, List.setIfInBounds_toArray, List.set_cons_zero, List.set_cons_succ])
                refine wpAnyH_take (i := 17) (oi := ⟨some 40, _, _, _, _, _⟩) (v := undef) rfl (by kernel_rfl) (by kernel_rfl) (by kernel_rfl) (fun _ _ _ h => h) (Or.inr ⟨by kernel_rfl, rfl⟩) (by assumption) ?_; (try simp only [Act.put, List.setIfInBounds_toArray, List.set_cons_zero, List.set_cons_succ])
                refine wpAnyH_take (i := 18) (oi := ⟨some 41, _, _, _, _, _⟩) (v := undef) rfl (by kernel_rfl) (by kernel_rfl) (by kernel_rfl) (fun _ _ _ h => h) (Or.inr ⟨by kernel_rfl, rfl⟩) (by assumption) ?_; (try simp only [Act.put, List.setIfInBounds_toArray, List.set_cons_zero, List.set_cons_succ])
                refine wpAnyH_take (i := 19) (oi := ⟨some 42, _, _, _, _, _⟩) (v := undef) rfl (by kernel_rfl) (by kernel_rfl) (by kernel_rfl) (fun _ _ _ h => h) (Or.inr ⟨by kernel_rfl, rfl⟩) (by assumption) ?_; (try simp only [Act.put, List.setIfInBounds_toArray, List.set_cons_zero, List.set_cons_succ])
                refine wpAnyH_take (i := 20) (oi := ⟨some 43, _, _, _, _, _⟩) (v := undef) rfl (by kernel_rfl) (by kernel_rfl) (by kernel_rfl) (fun _ _ _ h => h) (Or.inr ⟨by kernel_rfl, rfl⟩) (by assumption) ?_; (try simp only [Act.put, List.setIfInBounds_toArray, List.set_cons_zero, List.set_cons_succ])
                refine wpAnyH_take (i := 21) (oi := ⟨some 44, _, _, _, _, _⟩) (v := undef) rfl (by kernel_rfl) (by kernel_rfl) (by kernel_rfl) (fun _ _ _ h => h) (Or.inr ⟨by kernel_rfl, rfl⟩) (by assumption) ?_; (try simp only [Act.put, List.setIfInBounds_toArray, List.set_cons_zero, List.set_cons_succ])
                refine wpAnyH_take (i := 22) (oi := ⟨some 45, _, _, _, _, _⟩) (v := undef) rfl (by kernel_rfl) (by kernel_rfl) (by kernel_rfl) (fun _ _ _ h => h) (Or.inr ⟨by kernel_rfl, rfl⟩) (by assumption) ?_; (try simp only [Act.put, List.setIfInBounds_toArray, List.set_cons_zero, List.set_cons_succ])
                refine wpAnyH_take (i := 23) (oi := ⟨some 46, _, _, _, _, _⟩) (v := ?_) rfl (by kernel_rfl) (by kernel_rfl) (by kernel_rfl) (fun _ _ _ h => h) (Or.inl ⟨by kernel_rfl, ?_⟩) (by assumption) ?_; rotate_left; (focus (intro w hSw; (try dsimp only at hSw); go_simp; (try with_reducible rfl))); (try simp only [Act.put, List.setIfInBounds_toArray, List.set_cons_zero, List.set_cons_succ])
                refine wpAnyH_take (i := 24) (oi := ⟨some 47, _, _, _, _, _⟩) (v := ?_) rfl (by kernel_rfl) (by kernel_rfl) (by kernel_rfl) (fun _ _ _ h => h) (Or.inl ⟨by kernel_rfl, ?_⟩) (by assumption) ?_; rotate_left; (focus (intro w hSw; (try dsimp only at hSw); go_simp; (try with_reducible rfl))); (try simp only [Act.put, List.setIfInBounds_toArray, List.set_cons_zero, List.set_cons_succ])
                refine wpAnyH_done (by kernel_rfl) ?_ _
                have HB2 := Lib.hid (stepB (stepB (HB.out.alloc HB.out.size _) (below_undrew bv)) be)
                have HP := Lib.hid (stepOk_is j xs k x HXK.out)
                clear bv be m0 m1 c0 c1 c2 c3 c4 c5 c6 hpc
                go_wp2_with fail
                go_roundw
                case rel => exact ⟨k + 1, by omega, by go_num, by rw [range_take, HA.out, HP.out, g1, g2, H0.out]; simp, HB2.out⟩
                case measure => simp [intOf]; omega
            · simp only [Bool.not_eq_true] at g2
              refine wp_region_held_drew (S := (fun w' => w'.cell? ⟨w.heap.size, 0, none⟩ = some (.int .i64 j) ∧ w'.cell? ⟨w.heap.size, 1, none⟩ = some (.slice (some ⟨b, off, none⟩) n c) ∧ w'.cell? ⟨wr.heap.size, 0, none⟩ = some (.string x.a) ∧ w'.cell? ⟨wr.heap.size, 1, none⟩ = some (.int .i64 x.u) ∧ w'.cell? ⟨wr.heap.size, 2, none⟩ = some (.int .i64 x.v) ∧ w'.cell? ⟨wr.heap.size, 3, none⟩ = some (.int .i64 x.l) ∧ w'.cell? ⟨wr.heap.size, 4, none⟩ = some (.int .i64 x.s) ∧ w'.cell? ⟨wr.heap.size, 5, none⟩ = some (.int .i64 x.f) ∧ w'.cell? ⟨wr.heap.size, 6, none⟩ = some (.int .i64 x.k) ∧ w'.cell? ⟨bp, op, none⟩ = some (.string p))) (by kernel_rfl) hS0.out (fun hHeld => ?_)
              refine wpAnyH_take (i := 0) (oi := ⟨some 23, _, _, _, _, _⟩) (v := ?_) rfl (by kernel_rfl) (by kernel_rfl) (by kernel_rfl) (fun _ _ _ h => h) (Or.inl ⟨by kernel_rfl, ?_⟩) (by assumption) ?_; rotate_left; (focus (intro w hSw; (try dsimp only at hSw); go_simp; (try with_reducible rfl))); (try simp only [Act.put, List.setIfInBounds_toArray, List.set_cons_zero, List.set_cons_succ])
              refine wpAnyH_ready (rs := [1]) (by kernel_rfl) (by simp) ?_; refine AllReadyH.cons rfl (fun K hK => ?_) AllReadyH.nil; go_simp; (go_at_call 48; refine (validAW_any x _ hsz).mono ?_; rw [g1]; rintro e w1 ⟨rfl, bv⟩); go_wp2_with fail; refine hK.out _ _ (s_next bv hHeld) (fun hHeld => ?_); clear hK K; (try simp only [Act.put, List.setIfInBounds_toArray, List.set_cons_zero, List.set_cons_succ])
              refine wpAnyH_take (i := 2) (oi := ⟨some 25, _, _, _, _, _⟩) (v := ?_) rfl (by kernel_rfl) (by kernel_rfl) (by kernel_rfl) (fun _ _ _ h => h) (Or.inl ⟨by kernel_rfl, ?_⟩) (by assumption) ?_; rotate_left; (focus (intro w hSw; (try dsimp only at hSw); go_simp; (try with_reducible rfl))); (try simp only [Act.put, List.setIfInBounds_toArray, List.set_cons_zero, List.set_cons_succ])
              refine wpAnyH_take (i := 3) (oi := ⟨some 26, _, _, _, _, _⟩) (v := ?_) rfl (by kernel_rfl) (by kernel_rfl) (by kernel_rfl) (fun _ _ _ h => h) (Or.inl ⟨by kernel_rfl, ?_⟩) (by assumption) ?_; rotate_left; (focus (intro w hSw; (try dsimp only at hSw); go_simp; (try with_reducible rfl))); (try simp only [Act.put, List.setIfInBounds_toArray, List.set_cons_zero, List.set_cons_succ])
              refine wpAnyH_take (i := 4) (oi := ⟨some 27, _, _, _, _, _⟩) (v := ?_) rfl (by kernel_rfl) (by kernel_rfl) (by kernel_rfl) (fun _ _ _ h => h) (Or.inl ⟨by kernel_rfl, ?_⟩) (by assumption) ?_; rotate_left; (focus (intro w hSw; (try dsimp only at hSw); go_simp; (try with_reducible rfl))); (try simp only [Act.put, List.setIfInBounds_toArray, List.set_cons_zero, List.set_cons_succ])
              refine wpAnyH_take (i := 5) (oi := ⟨some 28, _, _, _, _, _⟩) (v := ?_) rfl (by kernel_rfl) (by kernel_rfl) (by kernel_rfl) (fun _ _ _ h => h) (Or.inl ⟨by kernel_rfl, ?_⟩) (by assumption) ?_; rotate_left; (focus (intro w hSw; (try dsimp only at hSw); go_simp; (try with_reducible rfl))); (try simp only [Act.put, List.setIfInBounds_toArray, List.set_cons_zero, List.set_cons_succ])
              refine wpAnyH_ready (rs := [6]) (by kernel_rfl) (by simp) ?_; refine AllReadyH.cons rfl (fun K hK => ?_) AllReadyH.nil; go_simp; (go_at_call 52; refine (hasEnds_any j _ _ _ x _ b0).mono ?_; rw [g2]; rintro e w2 ⟨rfl, be⟩); go_wp2_with fail; refine hK.out _ _ (s_next be hHeld) (fun hHeld => ?_); clear hK K; (try simp only [Act.put, List.setIfInBounds_toArray, List.set_cons_zero, List.set_cons_succ])
              refine wpAnyH_take (i := 7) (oi := ⟨some 30, _, _, _, _, _⟩) (v := ?_) rfl (by kernel_rfl) (by kernel_rfl) (by kernel_rfl) (fun _ _ _ h => h) (Or.inl ⟨by kernel_rfl, ?_⟩) (by assumption) ?_; rotate_left; (focus (intro w hSw; (try dsimp only at hSw); go_simp; (try with_reducible rfl))); (try simp only [Act.put, List.setIfInBounds_toArray, List.set_cons_zero, List.set_cons_succ])
              refine wpAnyH_take (i := 8) (oi := ⟨some 31, _, _, _, _, _⟩) (v := ?_) rfl (by kernel_rfl) (by kernel_rfl) (by kernel_rfl) (fun _ _ _ h => h) (Or.inl ⟨by kernel_rfl, ?_⟩) (by assumption) ?_; rotate_left; (focus (intro w hSw; (try dsimp only at hSw); go_simp; (try with_reducible rfl))); (try simp only [Act.put, List.setIfInBounds_toArray, List.set_cons_zero, List.set_cons_succ])
              refine wpAnyH_take (i := 9) (oi := ⟨some 32, _, _, _, _, _⟩) (v := ?_) rfl (by kernel_rfl) (by kernel_rfl) (by kernel_rfl) (fun _ _ _ h => h) (Or.inl ⟨by kernel_rfl, ?_⟩) (by assumption) ?_; rotate_left; (focus (intro w hSw; (try dsimp only at hSw); go_simp; (try with_reducible rfl))); (try simp only [Act.put, List.setIfInBounds_toArray, List.set_cons_zero, List.set_cons_succ])
              refine wpAnyH_take (i := 10) (oi := ⟨some 33, _, _, _, _, _⟩) (v := undef) rfl (by kernel_rfl) (by kernel_rfl) (by kernel_rfl) (fun _ _ _ h => h) (Or.inr ⟨by kernel_rfl, rfl⟩) (by assumption) ?_; (try simp only [Act.put, List.setIfInBounds_toArray, List.set_cons_zero, List.set_cons_succ])
              refine wpAnyH_take (i := 11) (oi := ⟨some 34, _, _, _, _, _⟩) (v := undef) rfl (by kernel_rfl) (by kernel_rfl) (by kernel_rfl) (fun _ _ _ h => h) (Or.inr ⟨by kernel_rfl, rfl⟩) (by assumption) ?_; (try simp only [Act.put, List.setIfInBounds_toArray, List.set_cons_zero, List.set_cons_succ])
              refine wpAnyH_take (i := 12) (oi := ⟨some 35, _, _, _, _, _⟩) (v := undef) rfl (by kernel_rfl) (by kernel_rfl) (by kernel_rfl) (fun _ _ _ h => h) (Or.inr ⟨by kernel_rfl, rfl⟩) (by assumption) ?_; (try simp only [Act.put, List.setIfInBounds_toArray, List.set_cons_zero, List.set_cons_succ])
              refine wpAnyH_take (i := 13) (oi := ⟨some 36, _, _, _, _, _⟩) (v := undef) rfl (by kernel_rfl) (by kernel_rfl) (by kernel_rfl) (fun _ _ _ h => h) (Or.inr ⟨by kernel_rfl, rfl⟩) (by assumption) ?_; (try simp only [Act.put, List.setIfInBounds_toArray, List.set_cons_zero, List.set_cons_succ])
              refine wpAnyH_take (i := 14) (oi := ⟨some 37, _, _, _, _, _⟩) (v := undef) rfl (by kernel_rfl) (by kernel_rfl) (by kernel_rfl) (fun _ _ _ h => h) (Or.inr ⟨by kernel_rfl, rfl⟩) (by assumption) ?_; (try simp only [Act.put, List.setIfInBounds_toArray, List.set_cons_zero, List.set_cons_succ])
              refine wpAnyH_take (i := 15) (oi := ⟨some 38, _, _, _, _, _⟩) (v := undef) rfl (by kernel_rfl) (by kernel_rfl) (by kernel_rfl) (fun _ _ _ h => h) (Or.inr ⟨by kernel_rfl, rfl⟩) (by assumption) ?_; (try simp only [Act.put, List.setIfInBounds_toArray, List.set_cons_zero, List.set_cons_succ])
              refine wpAnyH_take (i := 16) (oi := ⟨some 39, _, _, _, _, _⟩) (v := undef) rfl (by kernel_rfl) (by kernel_rfl) (by kernel_rfl) (fun _ _ _ h => h) (Or.inr ⟨by kernel_rfl, rfl⟩) (by assumption) ?_; (try simp only [Act.put, List.setIfInBounds_toArray, List.set_cons_zero, List.set_cons_succ])
              refine wpAnyH_take (i := 17) (oi := ⟨some 40, _, _, _, _, _⟩) (v := undef) rfl (by kernel_rfl) (by kernel_rfl) (by kernel_rfl) (fun _ _ _ h => h) (Or.inr ⟨by kernel_rfl, rfl⟩) (by assumption) ?_; (try simp only [Act.put, List.setIfInBounds_toArray, List.set_cons_zero, List.set_cons_succ])
              refine wpAnyH_take (i := 18) (oi := ⟨some 41, _, _, _, _, _⟩) (v := undef) rfl (by kernel_rfl) (by kernel_rfl) (by kernel_rfl) (fun _ _ _ h => h) (Or.inr ⟨by kernel_rfl, rfl⟩) (by assumption) ?_; (try simp only [Act.put, List.setIfInBounds_toArray, List.set_cons_zero, List.set_cons_succ])
              refine wpAnyH_take (i := 19) (oi := ⟨some 42, _, _, _, _, _⟩) (v := undef) rfl (by kernel_rfl) (by kernel_rfl) (by kernel_rfl) (fun _ _ _ h => h) (Or.inr ⟨by kernel_rfl, rfl⟩) (by assumption) ?_; (try simp only [Act.put, List.setIfInBounds_toArray, List.set_cons_zero, List.set_cons_succ])
              refine wpAnyH_take (i := 20) (oi := ⟨some 43, _, _, _, _, _⟩) (v := undef) rfl (by kernel_rfl) (by kernel_rfl) (by kernel_rfl) (fun _ _ _ h => h) (Or.inr ⟨by kernel_rfl, rfl⟩) (by assumption) ?_; (try simp only [Act.put, List.setIfInBounds_toArray, List.set_cons_zero, List.set_cons_succ])
              refine wpAnyH_take (i := 21) (oi := ⟨some 44, _, _, _, _, _⟩) (v := undef) rfl (by kernel_rfl) (by kernel_rfl) (by kernel_rfl) (fun _ _ _ h => h) (Or.inr ⟨by kernel_rfl, rfl⟩) (by assumption) ?_; (try simp only [Act.put, List.setIfInBounds_toArray, List.set_cons_zero, List.set_cons_succ])
              refine wpAnyH_take (i := 22) (oi := ⟨some 45, _, _, _, _, _⟩) (v := undef) rfl (by kernel_rfl) (by kernel_rfl) (by kernel_rfl) (fun _ _ _ h => h) (Or.inr ⟨by kernel_rfl, rfl⟩) (by assumption) ?_; (try simp only [Act.put, List.setIfInBounds_toArray, List.set_cons_zero, List.set_cons_succ])
              refine wpAnyH_take (i := 23) (oi := ⟨some 46, _, _, _, _, _⟩) (v := undef) rfl (by kernel_rfl) (by kernel_rfl) (by kernel_rfl) (fun _ _ _ h => h) (Or.inr ⟨by kernel_rfl, rfl⟩) (by assumption) ?_; (try simp only [Act.put, List.setIfInBounds_toArray, List.set_cons_zero, List.set_cons_succ])
              refine wpAnyH_take (i := 24) (oi := ⟨some 47, _, _, _, _, _⟩) (v := ?_) rfl (by kernel_rfl) (by kernel_rfl) (by kernel_rfl) (fun _ _ _ h => h) (Or.inl ⟨by kernel_rfl, ?_⟩) (by assumption) ?_; rotate_left; (focus (intro w hSw; (try dsimp only at hSw); go_simp; (try with_reducible rfl))); (try simp only [Act.put, List.setIfInBounds_toArray, List.set_cons_zero, List.set_cons_succ])
              refine wpAnyH_done (by kernel_rfl) ?_ _
              have HB2 := Lib.hid (stepB (stepB (HB.out.alloc HB.out.size _) (below_undrew bv)) be)
              have HP := Lib.hid (stepOk_is j xs k x HXK.out)
              clear bv be m0 m1 c0 c1 c2 c3 c4 c5 c6 hpc
              go_wp2_with fail
              go_ret
              exact ⟨ret_bool (by rw [mine_no (k := k) (by have := HN.out; omega) (by rw [HP.out, g1, g2]; simp)]), stepB HB0.out HB2.out⟩
          · simp only [Bool.not_eq_true] at g1
            refine wp_region_held_drew (S := (fun w' => w'.cell? ⟨w.heap.size, 0, none⟩ = some (.int .i64 j) ∧ w'.cell? ⟨w.heap.size, 1, none⟩ = some (.slice (some ⟨b, off, none⟩) n c) ∧ w'.cell? ⟨wr.heap.size, 0, none⟩ = some (.string x.a) ∧ w'.cell? ⟨wr.heap.size, 1, none⟩ = some (.int .i64 x.u) ∧ w'.cell? ⟨wr.heap.size, 2, none⟩ = some (.int .i64 x.v) ∧ w'.cell? ⟨wr.heap.size, 3, none⟩ = some (.int .i64 x.l) ∧ w'.cell? ⟨wr.heap.size, 4, none⟩ = some (.int .i64 x.s) ∧ w'.cell? ⟨wr.heap.size, 5, none⟩ = some (.int .i64 x.f) ∧ w'.cell? ⟨wr.heap.size, 6, none⟩ = some (.int .i64 x.k) ∧ w'.cell? ⟨bp, op, none⟩ = some (.string p))) (by kernel_rfl) hS0.out (fun hHeld => ?_)
            refine wpAnyH_take (i := 0) (oi := ⟨some 23, _, _, _, _, _⟩) (v := ?_) rfl (by kernel_rfl) (by kernel_rfl) (by kernel_rfl) (fun _ _ _ h => h) (Or.inl ⟨by kernel_rfl, ?_⟩) (by assumption) ?_; rotate_left; (focus (intro w hSw; (try dsimp only at hSw); go_simp; (try with_reducible rfl))); (try simp only [Act.put, List.setIfInBounds_toArray, List.set_cons_zero, List.set_cons_succ])
            refine wpAnyH_ready (rs := [1]) (by kernel_rfl) (by simp) ?_; refine AllReadyH.cons rfl (fun K hK => ?_) AllReadyH.nil; go_simp; (go_at_call 48; refine (validAW_any x _ hsz).mono ?_; rw [g1]; rintro e w1 ⟨rfl, bv⟩); go_wp2_with fail; refine hK.out _ _ (s_next bv hHeld) (fun hHeld => ?_); clear hK K; (try simp only [Act.put, List.setIfInBounds_toArray, List.set_cons_zero, List.set_cons_succ])
            refine wpAnyH_take (i := 2) (oi := ⟨some 25, _, _, _, _, _⟩) (v := ?_) rfl (by kernel_rfl) (by kernel_rfl) (by kernel_rfl) (fun _ _ _ h => h) (Or.inl ⟨by kernel_rfl, ?_⟩) (by assumption) ?_; rotate_left; (focus (intro w hSw; (try dsimp only at hSw); go_simp; (try with_reducible rfl))); (try simp only [Act.put, List.setIfInBounds_toArray, List.set_cons_zero, List.set_cons_succ])
            refine wpAnyH_take (i := 3) (oi := ⟨some 26, _, _, _, _, _⟩) (v := ?_) rfl (by kernel_rfl) (by kernel_rfl) (by kernel_rfl) (fun _ _ _ h => h) (Or.inl ⟨by kernel_rfl, ?_⟩) (by assumption) ?_; rotate_left; (focus (intro w hSw; (try dsimp only at hSw); go_simp; (try with_reducible rfl))); (try simp only [Act.put, List.setIfInBounds_toArray, List.set_cons_zero, List.set_cons_succ])
            refine wpAnyH_take (i := 4) (oi := ⟨some 27, _, _, _, _, _⟩) (v := undef) rfl (by kernel_rfl) (by kernel_rfl) (by kernel_rfl) (fun _ _ _ h => h) (Or.inr ⟨by kernel_rfl, rfl⟩) (by assumption) ?_; (try simp only [Act.put, List.setIfInBounds_toArray, List.set_cons_zero, List.set_cons_succ])
            refine wpAnyH_take (i := 5) (oi := ⟨some 28, _, _, _, _, _⟩) (v := undef) rfl (by kernel_rfl) (by kernel_rfl) (by kernel_rfl) (fun _ _ _ h => h) (Or.inr ⟨by kernel_rfl, rfl⟩) (by assumption) ?_; (try simp only [Act.put, List.setIfInBounds_toArray, List.set_cons_zero, List.set_cons_succ])
            refine wpAnyH_take (i := 6) (oi := ⟨some 29, _, _, _, _, _⟩) (v := undef) rfl (by kernel_rfl) (by kernel_rfl) (by kernel_rfl) (fun _ _ _ h => h) (Or.inr ⟨by kernel_rfl, rfl⟩) (by assumption) ?_; (try simp only [Act.put, List.setIfInBounds_toArray, List.set_cons_zero, List.set_cons_succ])
            refine wpAnyH_take (i := 7) (oi := ⟨some 30, _, _, _, _, _⟩) (v := undef) rfl (by kernel_rfl) (by kernel_rfl) (by kernel_rfl) (fun _ _ _ h => h) (Or.inr ⟨by kernel_rfl, rfl⟩) (by assumption) ?_; (try simp only [Act.put, List.setIfInBounds_toArray, List.set_cons_zero, List.set_cons_succ])
            refine wpAnyH_take (i := 8) (oi := ⟨some 31, _, _, _, _, _⟩) (v := ?_) rfl (by kernel_rfl) (by kernel_rfl) (by kernel_rfl) (fun _ _ _ h => h) (Or.inl ⟨by kernel_rfl, ?_⟩) (by assumption) ?_; rotate_left; (focus (intro w hSw; (try dsimp only at hSw); go_simp; (try with_reducible rfl))); (try simp only [Act.put, List.setIfInBounds_toArray, List.set_cons_zero, List.set_cons_succ])
            refine wpAnyH_take (i := 9) (oi := ⟨some 32, _, _, _, _, _⟩) (v := ?_) rfl (by kernel_rfl) (by kernel_rfl) (by kernel_rfl) (fun _ _ _ h => h) (Or.inl ⟨by kernel_rfl, ?_⟩) (by assumption) ?_; rotate_left; (focus (intro w hSw; (try dsimp only at hSw); go_simp; (try with_reducible rfl))); (try simp only [Act.put, List.setIfInBounds_toArray, List.set_cons_zero, List.set_cons_succ])
            refine wpAnyH_take (i := 10) (oi := ⟨some 33, _, _, _, _, _⟩) (v := undef) rfl (by kernel_rfl) (by kernel_rfl) (by kernel_rfl) (fun _ _ _ h => h) (Or.inr ⟨by kernel_rfl, rfl⟩) (by assumption) ?_; (try simp only [Act.put, List.setIfInBounds_toArray, List.set_cons_zero, List.set_cons_succ])
            refine wpAnyH_take (i := 11) (oi := ⟨some 34, _, _, _, _, _⟩) (v := undef) rfl (by kernel_rfl) (by kernel_rfl) (by kernel_rfl) (fun _ _ _ h => h) (Or.inr ⟨by kernel_rfl, rfl⟩) (by assumption) ?_; (try simp only [Act.put, List.setIfInBounds_toArray, List.set_cons_zero, List.set_cons_succ])
            refine wpAnyH_take (i := 12) (oi := ⟨some 35, _, _, _, _, _⟩) (v := undef) rfl (by kernel_rfl) (by kernel_rfl) (by kernel_rfl) (fun _ _ _ h => h) (Or.inr ⟨by kernel_rfl, rfl⟩) (by assumption) ?_; (try simp only [Act.put, List.setIfInBounds_toArray, List.set_cons_zero, List.set_cons_succ])
            refine wpAnyH_take (i := 13) (oi := ⟨some 36, _, _, _, _, _⟩) (v := undef) rfl (by kernel_rfl) (by kernel_rfl) (by kernel_rfl) (fun _ _ _ h => h) (Or.inr ⟨by kernel_rfl, rfl⟩) (by assumption) ?_; (try simp only [Act.put, List.setIfInBounds_toArray, List.set_cons_zero, List.set_cons_succ])
            refine wpAnyH_take (i := 14) (oi := ⟨some 37, _, _, _, _, _⟩) (v := undef) rfl (by kernel_rfl) (by kernel_rfl) (by kernel_rfl) (fun _ _ _ h => h) (Or.inr ⟨by kernel_rfl, rfl⟩) (by assumption) ?_; (try simp only [Act.put, List.setIfInBounds_toArray, List.set_cons_zero, List.set_cons_succ])
            refine wpAnyH_take (i := 15) (oi := ⟨some 38, _, _, _, _, _⟩) (v := undef) rfl (by kernel_rfl) (by kernel_rfl) (by kernel_rfl) (fun _ _ _ h => h) (Or.inr ⟨by kernel_rfl, rfl⟩) (by assumption) ?_; (try simp only [Act.put, List.setIfInBounds_toArray, List.set_cons_zero, List.set_cons_succ])
            refine wpAnyH_take (i := 16) (oi := ⟨some 39, _, _, _, _, _⟩) (v := undef) rfl (by kernel_rfl) (by kernel_rfl) (by kernel_rfl) (fun _ _ _ h => h) (Or.inr ⟨by kernel_rfl, rfl⟩) (by assumption) ?_; (try simp only [Act.put, List.setIfInBounds_toArray, List.set_cons_zero, List.set_cons_succ])
            refine wpAnyH_take (i := 17) (oi := ⟨some 40, _, _, _, _, _⟩) (v := undef) rfl (by kernel_rfl) (by kernel_rfl) (by kernel_rfl) (fun _ _ _ h => h) (Or.inr ⟨by kernel_rfl, rfl⟩) (by assumption) ?_; (try simp only [Act.put, List.setIfInBounds_toArray, List.set_cons_zero, List.set_cons_succ])
            refine wpAnyH_take (i := 18) (oi := ⟨some 41, _, _, _, _, _⟩) (v := undef) rfl (by kernel_rfl) (by kernel_rfl) (by kernel_rfl) (fun _ _ _ h => h) (Or.inr ⟨by kernel_rfl, rfl⟩) (by assumption) ?_; (try simp only [Act.put, List.setIfInBounds_toArray, List.set_cons_zero, List.set_cons_succ])
            refine wpAnyH_take (i := 19) (oi := ⟨some 42, _, _, _, _, _⟩) (v := undef) rfl (by kernel_rfl) (by kernel_rfl) (by kernel_rfl) (fun _ _ _ h => h) (Or.inr ⟨by kernel_rfl, rfl⟩) (by assumption) ?_; (try simp only [Act.put, List.setIfInBounds_toArray, List.set_cons_zero, List.set_cons_succ])
            refine wpAnyH_take (i := 20) (oi := ⟨some 43, _, _, _, _, _⟩) (v := undef) rfl (by kernel_rfl) (by kernel_rfl) (by kernel_rfl) (fun _ _ _ h => h) (Or.inr ⟨by kernel_rfl, rfl⟩) (by assumption) ?_; (try simp only [Act.put, List.setIfInBounds_toArray, List.set_cons_zero, List.set_cons_succ])
            refine wpAnyH_take (i := 21) (oi := ⟨some 44, _, _, _, _, _⟩) (v := undef) rfl (by kernel_rfl) (by kernel_rfl) (by kernel_rfl) (fun _ _ _ h => h) (Or.inr ⟨by kernel_rfl, rfl⟩) (by assumption) ?_; (try simp only [Act.put, List.setIfInBounds_toArray, List.set_cons_zero, List.set_cons_succ])
            refine wpAnyH_take (i := 22) (oi := ⟨some 45, _, _, _, _, _⟩) (v := undef) rfl (by kernel_rfl) (by kernel_rfl) (by kernel_rfl) (fun _ _ _ h => h) (Or.inr ⟨by kernel_rfl, rfl⟩) (by assumption) ?_; (try simp only [Act.put, List.setIfInBounds_toArray, List.set_cons_zero, List.set_cons_succ])
            refine wpAnyH_take (i := 23) (oi := ⟨some 46, _, _, _, _, _⟩) (v := undef) rfl (by kernel_rfl) (by kernel_rfl) (by kernel_rfl) (fun _ _ _ h => h) (Or.inr ⟨by kernel_rfl, rfl⟩) (by assumption) ?_; (try simp only [Act.put, List.setIfInBounds_toArray, List.set_cons_zero, List.set_cons_succ])
            refine wpAnyH_take (i := 24) (oi := ⟨some 47, _, _, _, _, _⟩) (v := ?_) rfl (by kernel_rfl) (by kernel_rfl) (by kernel_rfl) (fun _ _ _ h => h) (Or.inl ⟨by kernel_rfl, ?_⟩) (by assumption) ?_; rotate_left; (focus (intro w hSw; (try dsimp only at hSw); go_simp; (try with_reducible rfl))); (try simp only [Act.put, List.setIfInBounds_toArray, List.set_cons_zero, List.set_cons_succ])
            refine wpAnyH_done (by kernel_rfl) ?_ _
            have HB2 := Lib.hid (stepB (HB.out.alloc HB.out.size _) (below_undrew bv))
            have HP := Lib.hid (stepOk_is j xs k x HXK.out)
            clear bv m0 m1 c0 c1 c2 c3 c4 c5 c6 hpc
            go_wp2_with fail
            go_ret
            exact ⟨ret_bool (by rw [mine_no (k := k) (by have := HN.out; omega) (by rw [HP.out, g1]; simp)]), stepB HB0.out HB2.out⟩
        · obtain rfl : k = n := by omega
          go_wp2_with fail
          go_ret
          exact ⟨ret_bool (by unfold mineB; rw [HN.out, HA.out, g0]; simp [h24]), stepB HB0.out HB.out⟩
    · go_enter Try.func33, Try.ntmps33
      go_wp2_with (first | (go_at_call 54; refine (l00In_any _ _ _ _).mono ?_; rintro e w' ⟨rfl, rfl⟩) | (go_at_call 57; refine (within_any _ _ _ _).mono ?_; rintro e w' ⟨rfl, rfl⟩) | go_in)
      go_ret
      exact ⟨ret_bool (by unfold mineB; rw [HN.out]; simp [h24]), by ((repeat (first | with_reducible exact Below.refl _ _ | with_reducible apply below_drewN | with_reducible apply Below.drew | (with_reducible refine Below.alloc ?_ ?_ _) | (with_reducible refine Below.setCell ?_ ?_ _) | (with_reducible refine Below.trans ?_ (hb4.mono ?_)) | (with_reducible refine Below.trans ?_ (hb3.mono ?_)) | (with_reducible refine Below.trans ?_ (hb2.mono ?_)))); all_goals (first | (simp <;> omega) | (have h2s := hb2.size; (try simp at h2s); (try simp); omega) | (have h2s := hb2.size; have h3s := hb3.size; (try simp at h2s); (try simp at h3s); (try simp); omega) | (have h2s := hb2.size; have h3s := hb3.size; have h4s := hb4.size; (try simp at h2s); (try simp at h3s); (try simp at h4s); (try simp); omega)))⟩
  · simp only [Bool.not_eq_true] at g0
    go_enter Try.func33, Try.ntmps33
    go_wp2_with (first | (go_at_call 54; refine (l00In_any _ _ _ _).mono ?_; rintro e w' ⟨rfl, rfl⟩) | (go_at_call 57; refine (within_any _ _ _ _).mono ?_; rintro e w' ⟨rfl, rfl⟩) | go_in)
    go_ret
    exact ⟨ret_bool (by unfold mineB; rw [g0]; simp), by ((repeat (first | with_reducible exact Below.refl _ _ | with_reducible apply below_drewN | with_reducible apply Below.drew | (with_reducible refine Below.alloc ?_ ?_ _) | (with_reducible refine Below.setCell ?_ ?_ _) | (with_reducible refine Below.trans ?_ (hb4.mono ?_)) | (with_reducible refine Below.trans ?_ (hb3.mono ?_)) | (with_reducible refine Below.trans ?_ (hb2.mono ?_)))); all_goals (first | (simp <;> omega) | (have h2s := hb2.size; (try simp at h2s); (try simp); omega) | (have h2s := hb2.size; have h3s := hb3.size; (try simp at h2s); (try simp at h3s); (try simp); omega) | (have h2s := hb2.size; have h3s := hb3.size; have h4s := hb4.size; (try simp at h2s); (try simp at h3s); (try simp at h4s); (try simp); omega)))⟩
end Go.Proofs.Ytgiokjflfadeeaa
