/-
  FnLoops: closed loops have no error, and each drop is changed by nearly the same.
-/
import Derived.Test.YtjpmbjhkolgiiaaBytes
import Derived.Test.YtjpmbjhkolgiiaaClose
import Derived.Test.YtjpmbjhkolgiiaaLoopError
import Derived.Test.YtjpmbjhkolgiiaaJunctionError
import Derived.Test.YtjpmbjhkolgiiaaNum
import Derived.RowKit3
import Derived.ProofKit
import Derived.OpenShut
import Derived.Lib.SmallJoins
namespace Go.Proofs.Ytjpmbjhkolgiiaa
open Go.RowKit
set_option linter.unusedVariables false

/-- the number that a byte gives at place 0 is the same in every later world -/
theorem r8First (A : Option Addr) (n c : Nat) (w : World) (hn : n ≤ 9223372036854775807) (hx : Byts w A n) :
    ∃ v : Int, 0 ≤ v ∧ v ≤ 7 ∧ ∀ W, Below w.heap.size w W → Calls Try.prog 24 #[.slice A n c, .int .i64 0, .int .i64 8] W fun e w' => e = .returned (.int .i64 v) ∧ W = w' := by
  by_cases h0 : 0 < n
  · obtain ⟨b, off, z, rfl, hb, hc, h0', h1⟩ := hx 0 h0
    have := Int.emod_nonneg z (show (8 : Int) ≠ 0 by omega)
    have := Int.emod_lt_of_pos z (show (0 : Int) < 8 by omega)
    refine ⟨z % 8, by omega, by omega, fun W hW => ?_⟩
    have hcW : W.cell? ⟨b, off, none⟩ = some (.int .u8 z) := (hW.cell (by simpa using hb)).trans (by simpa using hc)
    clear hc hx hW
    go_enter Try.func24, Try.ntmps24
    go_wp2_with fail
    go_ret
    exact ⟨rfl, rfl⟩
  · obtain rfl : n = 0 := by omega
    refine ⟨0, by omega, by omega, fun W hW => ?_⟩
    clear hx hW
    go_enter Try.func24, Try.ntmps24
    go_wp2_with fail
    go_ret
    exact ⟨rfl, rfl⟩

theorem r8Abs_any (n : Int) (w : World) (h : -9223372036854775807 ≤ n) (h' : n ≤ 9223372036854775807) :
    Calls Try.prog 28 #[.int .i64 n] w fun e w' => e = .returned (.int .i64 (absI n)) ∧ w = w' := by
  go_enter Try.func28, Try.ntmps28
  go_wp2
  · go_ret
    exact ⟨ret_int (by unfold absI; rw [if_pos (by omega)]), rfl⟩
  · go_ret
    exact ⟨ret_int (by unfold absI; rw [if_neg (by omega)]), rfl⟩

theorem all_snoc {xs : List Int} {z lo hi : Int} (h : allB xs lo hi = true) (h1 : lo ≤ z) (h2 : z ≤ hi) : allB (xs ++ [z]) lo hi = true := by
  unfold allB at *
  rw [List.all_append, h]
  simp [inB_true.2 ⟨h1, h2⟩]
theorem all_mono {xs : List Int} {lo hi lo' hi' : Int} (h : allB xs lo hi = true) (h1 : lo' ≤ lo) (h2 : hi ≤ hi') : allB xs lo' hi' = true := by
  unfold allB at *
  rw [List.all_eq_true] at *
  intro x hx
  have := inB_true.1 (h x hx)
  exact inB_true.2 (by omega)
theorem all_of_at {xs : List Int} {lo hi : Int} (h : ∀ k, k < xs.length → lo ≤ atI xs k ∧ atI xs k ≤ hi) : allB xs lo hi = true := by
  unfold allB
  rw [List.all_eq_true]
  intro x hx
  obtain ⟨k, hk, rfl⟩ := List.getElem_of_mem hx
  have := h k hk
  rw [atI_is xs k hk] at this
  exact inB_true.2 this
theorem junA_same {xs : List Int} (h : allB xs 0 100000 = true) (hl : xs.length ≤ 64) : junA xs xs = 0 ∧ junB xs xs = 0 := by
  have := jun_yes h h ⟨hl, hl⟩
  omega
theorem junA_none {xs : List Int} (h : allB xs 0 100000 = true) (hl : xs.length ≤ 64) : junA xs [] = sumI xs ∧ junB xs [] = 0 := by
  have := jun_yes h (show allB [] 0 100000 = true by rfl) ⟨hl, by simp⟩
  simpa [sumI] using this
theorem sum_nonneg (xs : List Int) (h : allB xs 0 100000 = true) : ∀ k, k ≤ xs.length → 0 ≤ sumI (xs.take k) := by
  intro k
  induction k with
  | zero => intro _; simp [sumI]
  | succ k ih =>
    intro hk
    have a := ih (by omega)
    have b := allB_at xs 0 100000 k (by omega) h
    rw [sum_take xs k (by omega)]
    omega
/-- the closed list of a list of small drops: as long, small, of sum 0, near -/
theorem close_law (xs : List Int) (n : Nat) (hn : xs.length = n) (h0 : 0 < n) (h8 : n ≤ 8) (h : allB xs (-200) 200 = true) :
    (closeL (sumI xs) xs).length = n ∧ dropsB (closeL (sumI xs) xs) = true ∧ sumI (closeL (sumI xs) xs) = 0 ∧ (0 ≤ absI (sumI xs) ∧ absI (sumI xs) ≤ 1600) ∧ (∀ k, k < n → -2000 ≤ atI xs k ∧ atI xs k ≤ 2000 ∧ -2000 ≤ atI (closeL (sumI xs) xs) k ∧ atI (closeL (sumI xs) xs) k ≤ 2000 ∧ absI (atI xs k - atI (closeL (sumI xs) xs) k) ≤ absI (sumI xs) / n + 1) := by
  have hs := sum_bd xs 200 (by omega) h n (by omega)
  rw [List.take_of_length_le (by omega)] at hs
  have hA : absI (sumI xs) ≤ 1600 := absI_le (by omega) (by omega)
  have hA0 := absI_nonneg (sumI xs)
  have hq0 : 0 ≤ absI (sumI xs) / n := Int.ediv_nonneg hA0 (by omega)
  have hq1 : absI (sumI xs) / n ≤ absI (sumI xs) := Int.ediv_le_self _ hA0
  have hm1 := Int.ediv_mul_le (absI (sumI xs)) (show (n : Int) ≠ 0 by omega)
  have hm2 := Int.lt_ediv_add_one_mul_self (absI (sumI xs)) (show (0 : Int) < (n : Int) by omega)
  have hl : (closeL (sumI xs) xs).length = n := by rw [closeL_len, hn]
  have hnear : ∀ k, k < n → absI (atI xs k - atI (closeL (sumI xs) xs) k) ≤ absI (sumI xs) / n + 1 := fun k hk =>
    closeL_near (sumI xs) xs (absI (sumI xs) / n) hq0 (by rw [hn]; exact hm1) (by rw [hn]; omega) k (by omega)
  have hat := fun k (hk : k < n) => allB_at xs (-200) 200 k (by omega) h
  have hall : ∀ k, k < n → -10000 ≤ atI (closeL (sumI xs) xs) k ∧ atI (closeL (sumI xs) xs) k ≤ 10000 := by
    intro k hk
    have a := hnear k hk
    have b := hat k hk
    have c := of_absI a
    omega
  refine ⟨hl, ?_, by rw [closeL_sum _ _ (by intro e; rw [e] at hn; simp at hn; omega)]; omega, ⟨hA0, hA⟩, fun k hk => ?_⟩
  · unfold dropsB
    rw [hl, all_of_at (fun k hk => hall k (by omega))]
    simp; omega
  · have a := hnear k hk
    have b := hat k hk
    have c := of_absI a
    have hq2 : absI (sumI xs) / n * n ≤ 1600 := by omega
    exact ⟨by omega, by omega, by omega, by omega, a⟩

def TwoRows (w0 w : World) (v1 v2 : Value) (xs ys : List Int) : Prop :=
  OwnI w w0.heap.size v1 xs ∧ OwnI w w0.heap.size v2 ys ∧ (∃ g1 g2, v1.ownBlock = some g1 ∧ v2.ownBlock = some g2 ∧ g1 ≠ g2) ∧ Below w0.heap.size w0 w
theorem TwoRows.start (w : World) : TwoRows w ((w.alloc (.cells #[] 2)).alloc (.cells #[] 2)) (.slice (some ⟨w.heap.size, 0, none⟩) 0 0) (.slice (some ⟨w.heap.size + 1, 0, none⟩) 0 0) [] [] := by
  refine ⟨(OwnI.lit w _ (Nat.le_refl _)).alloc _, ?_, ⟨w.heap.size, w.heap.size + 1, rfl, rfl, by omega⟩, ((Below.refl _ _).alloc (Nat.le_refl _) _).alloc (by simp) _⟩
  have := OwnI.lit (w.alloc (.cells #[] 2)) w.heap.size (by simp)
  simpa using this
theorem TwoRows.drewN {w0 w : World} {v1 v2 : Value} {xs ys : List Int} (h : TwoRows w0 w v1 v2 xs ys) (n : Nat) : TwoRows w0 (w.drewN n) v1 v2 xs ys :=
  ⟨h.1, h.2.1, h.2.2.1, below_drewN h.2.2.2 n⟩
theorem TwoRows.alloc {w0 w : World} {v1 v2 : Value} {xs ys : List Int} (h : TwoRows w0 w v1 v2 xs ys) (o : Obj) : TwoRows w0 (w.alloc o) v1 v2 xs ys :=
  ⟨h.1.alloc o, h.2.1.alloc o, h.2.2.1, h.2.2.2.alloc h.2.2.2.size o⟩
theorem TwoRows.push1 {w0 w w' : World} {v1 v2 v' : Value} {xs ys : List Int} {z : Int} {o : Obj} (h : TwoRows w0 w v1 v2 xs ys) (ho : OwnI w' w0.heap.size v' (xs ++ [z])) (hg : (w.alloc o).grownBy w' v1.ownBlock) (hl : v'.ownBlock = v1.ownBlock ∨ v'.ownBlock = some (w.heap.size + 1)) :
    TwoRows w0 w' v' v2 (xs ++ [z]) ys := by
  obtain ⟨h1, h2, ⟨g1, g2, e1, e2, ne⟩, hb⟩ := h
  have l2 := h2.lt e2
  refine ⟨ho, (h2.alloc o).kept hg (.inr (by rw [e1, e2]; simpa using fun e => ne e.symm)), ?_, below_grown (hb.alloc hb.size o) hg (fun g e => (h1.lt e).1) (by have := hb.size; simp; omega)⟩
  rcases hl with hl | hl
  · exact ⟨g1, g2, hl.trans e1, e2, ne⟩
  · exact ⟨w.heap.size + 1, g2, hl, e2, by omega⟩
theorem TwoRows.push2 {w0 w w' : World} {v1 v2 v' : Value} {xs ys : List Int} {z : Int} {o : Obj} (h : TwoRows w0 w v1 v2 xs ys) (ho : OwnI w' w0.heap.size v' (ys ++ [z])) (hg : (w.alloc o).grownBy w' v2.ownBlock) (hl : v'.ownBlock = v2.ownBlock ∨ v'.ownBlock = some (w.heap.size + 1)) :
    TwoRows w0 w' v1 v' xs (ys ++ [z]) := by
  obtain ⟨h1, h2, ⟨g1, g2, e1, e2, ne⟩, hb⟩ := h
  have l1 := h1.lt e1
  refine ⟨(h1.alloc o).kept hg (.inr (by rw [e1, e2]; simpa using ne)), ho, ?_, below_grown (hb.alloc hb.size o) hg (fun g e => (h2.lt e).1) (by have := hb.size; simp; omega)⟩
  rcases hl with hl | hl
  · exact ⟨g1, g2, e1, hl.trans e2, ne⟩
  · exact ⟨g1, w.heap.size + 1, e1, hl, by omega⟩

set_option maxHeartbeats 1000000 in
set_option maxRecDepth 100000 in
theorem loops_walk (A : Option Addr) (n c : Nat) (hm : n ≤ maxLen) (w : World) (hx : Byts w A n) :
    Calls Try.prog 6 #[.slice A n c] w fun e w' => e = .returned (.bool true) ∧ Below w.heap.size w w' := by
  unfold maxLen at hm
  have HX := Lib.hid hx
  obtain ⟨v, hv0, hv7, hv⟩ := r8First A n c w (by omega) hx
  have HV := Lib.hid hv
  obtain ⟨N, hN⟩ : ∃ N : Nat, (N : Int) = 1 + v := ⟨(1 + v).toNat, by omega⟩
  obtain rfl : v = N - 1 := by omega
  clear hx hv hN
  by_cases h20 : 1048576 < n
  · go_enter Try.func6, Try.ntmps6
    go_wp2_with fail
    go_ret
    exact ⟨rfl, by ((repeat (first | with_reducible exact Below.refl _ _ | with_reducible apply below_drewN | with_reducible apply Below.drew | (with_reducible refine Below.alloc ?_ ?_ _) | (with_reducible refine Below.setCell ?_ ?_ _) | (with_reducible refine Below.trans ?_ (hb4.mono ?_)) | (with_reducible refine Below.trans ?_ (hb3.mono ?_)) | (with_reducible refine Below.trans ?_ (hb2.mono ?_)))); all_goals (first | (simp <;> omega) | (have h2s := hb2.size; (try simp at h2s); (try simp); omega) | (have h2s := hb2.size; have h3s := hb3.size; (try simp at h2s); (try simp at h3s); (try simp); omega) | (have h2s := hb2.size; have h3s := hb3.size; have h4s := hb4.size; (try simp at h2s); (try simp at h3s); (try simp at h4s); (try simp); omega)))⟩
  · have h20 : n ≤ 1048576 := by omega
    have H0 := Lib.hid (TwoRows.start w)
    go_enter Try.func6, Try.ntmps6
    go_wp2_with fail
    go_loopw [3, 4, 5] (fun v1 v2 i wr => ∃ (k : Nat) (xs ys : List Int), k ≤ N ∧ i = .int .i64 k ∧ xs.length = k ∧ ys.length = k ∧ allB xs (-200) 200 = true ∧ allB ys 0 4000 = true ∧ TwoRows w wr v1 v2 xs ys) (fun _ _ i _ => N - (intOf i).toNat)
    case atStart => exact ⟨0, [], [], by omega, rfl, rfl, rfl, rfl, rfl, H0.out⟩
    case round =>
      obtain ⟨k, xs, ys, hk, rfl, hl1, hl2, ha1, ha2, hT⟩ := hrel
      have HL1 := Lib.hid hl1
      have HL2 := Lib.hid hl2
      have HA1 := Lib.hid ha1
      have HA2 := Lib.hid ha2
      have HT := Lib.hid hT
      clear hl1 hl2 ha1 ha2 hT
      by_cases hlt : k < N
      · have hlt' : (k : Int) < N := by omega
        go_wp2_with (go_at_call 24; refine (HV.out _ HT.out.2.2.2).mono ?_; rintro e w' ⟨rfl, rfl⟩)
        refine (r8Wide_any _ _ _ _ _ _ (by omega) (by omega) (by omega) (by omega) (by omega) (HX.out.next HT.out.2.2.2)).mono ?_; rintro e w' ⟨d, rfl, d1, d2, q1, rfl⟩
        have HT1 := Lib.hid (HT.out.drewN q1)
        clear HT
        generalize wr.drewN q1 = wa at HT1 ⊢
        go_wp2_with (at_builtin; refine push_law rfl (.tmp 30) (.tmp 37) rfl _ w.heap.size _ xs (d - 200) rfl HT1.out.1 rfl (by have := HL1.out; omega) HT1.out.2.2.2.size ?_; intro v1' wb ho hg hl; have HT2 := Lib.hid (HT1.out.push1 ho hg hl); clear ho hg hl HT1)
        refine (r8Wide_any _ _ _ _ _ _ (by omega) (by omega) (by omega) (by omega) (by omega) (HX.out.next HT2.out.2.2.2)).mono ?_; rintro e w' ⟨d', rfl, d3, d4, q2, rfl⟩
        have HT3 := Lib.hid (HT2.out.drewN q2)
        clear HT2
        generalize wb.drewN q2 = wc at HT3 ⊢
        go_wp2_with (at_builtin; refine push_law rfl (.tmp 39) (.tmp 45) rfl _ w.heap.size _ ys d' rfl HT3.out.2.1 rfl (by have := HL2.out; omega) HT3.out.2.2.2.size ?_; intro v2' wd ho hg hl; have HT4 := Lib.hid (HT3.out.push2 ho hg hl); clear ho hg hl HT3)
        go_roundw
        case rel => exact ⟨k + 1, xs ++ [d - 200], ys ++ [d'], by omega, by go_num, by simp [HL1.out], by simp [HL2.out], all_snoc HA1.out (by omega) (by omega), all_snoc HA2.out (by omega) (by omega), HT4.out⟩
        case measure => simp [intOf]; omega
      · obtain rfl : k = N := by omega
        have hlt' : ¬ (k : Int) < 1 + ((k : Int) - 1) := by omega
        obtain ⟨L1, L2, L3, L4, L5⟩ := close_law xs k HL1.out (by omega) (by omega) HA1.out
        have L6 := of_absI L4.2
        have hq0 : 0 ≤ absI (sumI xs) / (k : Int) := Int.ediv_nonneg L4.1 (by omega)
        have hq1 : absI (sumI xs) / (k : Int) ≤ absI (sumI xs) := Int.ediv_le_self _ L4.1
        have M1 := Lib.hid L1
        have M2 := Lib.hid L2
        have M3 := Lib.hid L3
        have M5 := Lib.hid L5
        clear L1 L2 L3 L5
        obtain ⟨A1, c1, e1, i1⟩ := HT.out.1.reads
        obtain ⟨A2, c2, e2, i2⟩ := HT.out.2.1.reads
        have b0 := HT.out.2.2.2
        rw [HL1.out] at e1
        rw [HL2.out] at e2
        clear HT
        subst e1 e2
        have hd1 := Lib.hid (show dropsB xs = true by unfold dropsB; rw [HL1.out, all_mono HA1.out (by omega) (by omega)]; simp; omega)
        have hj := Lib.hid (all_mono (lo' := 0) (hi' := 100000) HA2.out (by omega) (by omega))
        have j1 := Lib.hid (junA_same hj.out (by have := HL2.out; omega))
        have j2 := Lib.hid (junA_none hj.out (by have := HL2.out; omega))
        have j3 : 0 ≤ sumI ys := by
          have := sum_nonneg ys hj.out ys.length (Nat.le_refl _)
          rwa [List.take_of_length_le (Nat.le_refl _)] at this
        go_wp2_with (go_at_call 24; refine (HV.out _ b0).mono ?_; rintro e w' ⟨rfl, rfl⟩)
        refine (loopErrP_yes _ _ xs _ _ HL1.out i1 hd1.out).mono ?_; rintro e w1 ⟨rfl, b1⟩
        go_wp2_with fail
        refine (closeLoop_any _ _ xs _ _ HL1.out (by omega) (i1.next b1) hd1.out).mono ?_; rintro e w2 ⟨g, cg, rfl, i3, b2⟩
        go_wp2_with fail
        refine (loopErrP_yes _ _ (closeL (sumI xs) xs) _ _ M1.out i3 M2.out).mono ?_; rw [M3.out]; rintro e w3 ⟨rfl, b3⟩
        go_wp2_with fail
        refine (junP_any _ _ _ _ ys ys _ _ _ HL2.out HL2.out (by omega) (by omega) (((i2.next b1).next b2).next b3) (((i2.next b1).next b2).next b3)).mono ?_
        rintro e w4 ⟨he, b4⟩
        rw [j1.out.1, j1.out.2] at he
        subst he
        go_wp2_with fail
        have b5 : Below w4.heap.size w4 (w4.alloc (.cells #[] 2)) := (Below.refl _ _).alloc (Nat.le_refl _) _
        refine (junP_any _ _ _ _ ys [] _ 0 _ HL2.out rfl (by omega) (by omega) (((((i2.next b1).next b2).next b3).next b4).next b5) (.inl rfl)).mono ?_
        rintro e w6 ⟨he, b6⟩
        rw [j2.out.1, j2.out.2] at he
        subst he
        have i3' := (((i3.next b3).next b4).next b5).next b6
        have i1' := (((((i1.next b1).next b2).next b3).next b4).next b5).next b6
        have c6 := stepB (stepB (stepB (stepB (stepB (stepB b0 b1) b2) b3) b4) b5) b6
        clear b0 b1 b2 b3 b4 b5 b6 i1 i2 i3
        go_wp2_with (go_at_call 28; refine (r8Abs_any _ _ (by omega) (by omega)).mono ?_; rintro e w' ⟨rfl, rfl⟩)
        go_loopw [17] (fun i wr => ∃ j : Nat, j ≤ k ∧ i = .int .i64 j ∧ Below w.heap.size w wr ∧ Below w6.heap.size w6 wr) (fun i _ => k - (intOf i).toNat)
        case atStart => exact ⟨0, by omega, rfl, c6, Below.refl _ _⟩
        case round =>
          obtain ⟨j, hj', rfl, bw, b6'⟩ := hrel
          have BW := Lib.hid bw
          have B6 := Lib.hid b6'
          clear bw b6'
          by_cases hlt2 : j < k
          · obtain ⟨t1, t2, t3, t4, t5⟩ := M5.out j hlt2
            obtain ⟨bb, off, rfl, _, hc⟩ := (i1'.next B6.out).at_ (k := j) (by have := HL1.out; omega)
            obtain ⟨bb', off', ea, _, hc'⟩ := (i3'.next B6.out).at_ (k := j) (by have := M1.out; omega)
            have e5 : bb' = g ∧ off' = 0 := by injection ea with ea; injection ea with ea1 ea2; exact ⟨ea1.symm, ea2.symm⟩
            obtain ⟨rfl, rfl⟩ := e5
            rw [Nat.zero_add] at hc'
            have hji : (j : Int) < k := by omega
            have qs : IntKind.i64.wrap (atI xs j - atI (closeL (sumI xs) xs) j) = atI xs j - atI (closeL (sumI xs) xs) j := IntWalk.i64_in _ (by omega)
            clear ea
            go_wp2_with fail
            go_quiet ((go_at_call 28; exact quiet_left (r8Abs_any _ _ (by omega) (by omega))))
            clear qs
            go_wp2_with fail
            go_roundw
            case rel => exact ⟨j + 1, by omega, by go_num, below_drewN BW.out _, below_drewN B6.out _⟩
            case measure => simp [intOf]; omega
          · obtain rfl : j = k := by omega
            go_wp2_with fail
            go_ret
            exact ⟨rfl, BW.out⟩

/-! ### the row of FnLoops: the arguments are opened, the walk is met, each argument reads behind the call as before -/
namespace fnLoops
open Go.ChangeShapes Go.WideShapes Go.ChangeAt Go.RowKit Go.Joins
open Go.ChangeMaps (open_string shut_string)
set_option linter.unusedVariables false
set_option maxRecDepth 100000 in
theorem lifted (os : Os) (started : os.Started) (H : Type) (enc : TypeId × Value → H) :
    ReturnsInHanded {} Try.checked os 6 .any (Rows.fnLoopsSpec.pre6 enc Try.prog Try.f6 Rows.fnLoopsRow.domain false) (Rows.fnLoopsSpec.post enc Try.prog Try.f6 false true false false) := by
  refine returnsInHanded_of_change (C := Try.checked) own started (by kernel_rfl) Try.func6
    (ChangeSpec.witness6 (enc := enc) (C := Try.checked) false ⟨#[], #[.slice none 0 0], []⟩ 8 (by kernel_rfl) (by kernel_rfl) (by kernel_rfl) (by kernel_rfl)) ?_
  intro W base args ds gs before hval0 hW hcnd _
  have hval : ∀ (j : Nat) t v, Try.f6.params[j]? = some t → args[j]? = some v → Value.okWide Try.prog W .any base t v := hval0
  have hW' := hW
  obtain ⟨p, q, hA0, hV, rfl, hfz, hnd⟩ := hW
  have hA : DataW.TrodAll enc Try.prog W 0 (fun _ => true) true Try.f6.params.toList args.toList ds p := hA0
  rw [Try.params6] at hA hval
  obtain ⟨v0, vs0, d0, ds0, p0, q0, hargs, rfl, rfl, h0, r0⟩ := trodAll_cons hA
  obtain ⟨rfl, rfl, rfl⟩ := trodAll_nil r0
  obtain rfl : args = #[v0] := by cases args; simp_all
  obtain ⟨rfl, rfl⟩ := trodVars_none hV
  clear hA0 hval0
  simp only [List.append_nil] at hW'
  have lt0 : ∀ x ∈ p0, x.block < W.heap.size := fun x hx => by simpa using hW'.lt x (by simp [hx])
  have k0 := h0
  obtain ⟨A0, len0, cap0, rfl⟩ := okWide_slice Try.underlying36 (hval 0 36 v0 rfl rfl)
  obtain ⟨hm0, hx0⟩ := view_bytes Try.underlying36 Try.underlying5 (by kernel_rfl) h0
  refine (loops_walk A0 len0 cap0 hm0 W hx0).mono fun e W' ⟨he, hb⟩ => ?_
  subst he
  exact ⟨_, rfl, _, _, _, _, _, [], hW', (trodAll_cons_mk (shut_bool Try.underlying4 _) trodAll_mk0), (trodAll_cons_mk (Below.trod laidOut (by kernel_rfl) (of_decide_eq_true (by kernel_rfl)) k0 hb lt0) trodAll_mk0), rfl, hb.frame _, fun h => by cases h⟩

theorem proved : Rows.FnLoopsSaid :=
  OpenClaim.holds_of_wide 6 Try.f6 rfl rfl rfl rfl rfl rfl rfl ⟨rfl, rfl, rfl, rfl, rfl⟩ rfl rfl rfl rfl rfl (by kernel_rfl) Try.func6 (by kernel_rfl)
    (of_decide_eq_true (by kernel_rfl)) (by unfold Func.isWrapper; first | (rw [if_pos (by decide +kernel)]; kernel_rfl) | (rw [if_neg (by decide +kernel)]; exact ⟨rfl, rfl⟩))
    (fun os started H enc _ => lifted os started H enc)
#print axioms proved
end fnLoops
end Go.Proofs.Ytjpmbjhkolgiiaa
