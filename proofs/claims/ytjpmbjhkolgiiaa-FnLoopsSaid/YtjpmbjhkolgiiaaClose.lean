/-
  Closing a loop: plain law (the parts that are taken off add up to the rest, and differ by one at most) and the contract of CloseLoop.
-/
import Derived.Test.YtjpmbjhkolgiiaaSums
import Derived.Test.YtjpmbjhkolgiiaaOwn
import Derived.Test.YtjpmbjhkolgiiaaMono
import Derived.WalkSpells
namespace Go.Proofs.Ytjpmbjhkolgiiaa
open Go.RowKit
set_option linter.unusedVariables false

/-- what is left of the rest r behind k of n steps -/
def restN (r : Int) (n : Nat) : Nat → Int
  | 0 => r
  | k + 1 => restN r n k - (restN r n k).tdiv ((n - k : Nat) : Int)
def closeL (r : Int) : List Int → List Int
  | [] => []
  | x :: t => (x - r.tdiv ((t.length + 1 : Nat) : Int)) :: closeL (r - r.tdiv ((t.length + 1 : Nat) : Int)) t
theorem closeL_len (r : Int) (xs : List Int) : (closeL r xs).length = xs.length := by
  induction xs generalizing r with
  | nil => rfl
  | cons x t ih => simp [closeL, ih]
theorem restN_shift (r : Int) (n k : Nat) : restN r (n + 1) (k + 1) = restN (r - r.tdiv ((n + 1 : Nat) : Int)) n k := by
  induction k with
  | zero => simp [restN]
  | succ k ih =>
    show restN r (n + 1) (k + 1) - (restN r (n + 1) (k + 1)).tdiv ((n + 1 - (k + 1) : Nat) : Int) = _
    rw [ih, show n + 1 - (k + 1) = n - k by omega]
    rfl
theorem closeL_at (r : Int) (xs : List Int) (k : Nat) (h : k < xs.length) : atI (closeL r xs) k = atI xs k - (restN r xs.length k).tdiv ((xs.length - k : Nat) : Int) := by
  induction xs generalizing r k with
  | nil => simp at h
  | cons x t ih =>
    cases k with
    | zero => simp [closeL, atI, restN]
    | succ k =>
      have := ih (r - r.tdiv ((t.length + 1 : Nat) : Int)) k (by simpa using h)
      simp only [List.length_cons]
      rw [restN_shift, show t.length + 1 - (k + 1) = t.length - k by omega]
      simpa [closeL, atI] using this
theorem closeL_sum (r : Int) (xs : List Int) (h : xs ≠ []) : sumI (closeL r xs) = sumI xs - r := by
  induction xs generalizing r with
  | nil => exact absurd rfl h
  | cons x t ih =>
    by_cases ht : t = []
    · subst ht; simp [closeL, sumI]
    · have := ih (r - r.tdiv ((t.length + 1 : Nat) : Int)) ht
      simp only [closeL, sumI, List.sum_cons] at this ⊢
      omega
theorem tdiv_bd (r : Int) (m : Nat) (q : Int) (h0 : 0 ≤ q) (hm : 1 ≤ m) (h1 : q * m ≤ absI r) (h2 : absI r ≤ (q + 1) * m) :
    absI (r.tdiv m) ≤ q + 1 ∧ q * ((m - 1 : Nat) : Int) ≤ absI (r - r.tdiv m) ∧ absI (r - r.tdiv m) ≤ (q + 1) * ((m - 1 : Nat) : Int) := by
  have hmp : (0 : Int) < (m : Int) := by omega
  have e1 : ((m - 1 : Nat) : Int) = (m : Int) - 1 := by omega
  rw [e1, Int.mul_sub, Int.mul_sub, Int.mul_one, Int.mul_one]
  have key : ∀ s : Int, 0 ≤ s → q * m ≤ s → s ≤ (q + 1) * m → (q ≤ s / m ∧ s / m ≤ q + 1) ∧ (s / m = q + 1 → s = (q + 1) * m) := by
    intro s hs ha hb
    have c1 : q ≤ s / m := (Int.le_ediv_iff_mul_le hmp).2 ha
    have c2 : s / m ≤ q + 1 := by
      have := (Int.ediv_lt_iff_lt_mul hmp (a := s) (b := q + 2)).2 (by rw [show q + 2 = (q + 1) + 1 by omega, Int.add_mul (q + 1)]; omega)
      omega
    refine ⟨⟨c1, c2⟩, fun hq => ?_⟩
    have := Int.ediv_mul_le s (show (m : Int) ≠ 0 by omega)
    rw [hq] at this
    omega
  rcases absI_cases r with ⟨hn, ha⟩ | ⟨hn, ha⟩
  · have ht : r.tdiv m = -((-r) / m) := by
      have := Int.tdiv_eq_ediv_of_nonneg (a := -r) (b := (m : Int)) (by omega)
      rw [Int.neg_tdiv] at this
      omega
    rw [ha] at h1 h2
    obtain ⟨⟨k1, k2⟩, k3⟩ := key (-r) (by omega) h1 h2
    rw [ht]
    have hs : (-r) / m ≤ -r := Int.ediv_le_self _ (by omega)
    rw [show absI (-((-r) / m)) = (-r) / m by unfold absI; split <;> omega, show absI (r - -((-r) / m)) = -r - (-r) / m by unfold absI; split <;> omega]
    rw [Int.add_mul] at h2 k3 ⊢
    refine ⟨k2, by omega, ?_⟩
    by_cases hq : (-r) / m = q + 1
    · have := k3 hq; omega
    · have : (-r) / m = q := by omega
      have hlt : -r < (q + 1) * m := (Int.ediv_lt_iff_lt_mul hmp).1 (by omega)
      rw [Int.add_mul] at hlt
      omega
  · have ht : r.tdiv m = r / m := Int.tdiv_eq_ediv_of_nonneg hn
    rw [ha] at h1 h2
    obtain ⟨⟨k1, k2⟩, k3⟩ := key r hn h1 h2
    rw [ht]
    have hs : r / m ≤ r := Int.ediv_le_self _ hn
    rw [show absI (r / m) = r / m by unfold absI; split <;> omega, show absI (r - r / m) = r - r / m by unfold absI; split <;> omega]
    rw [Int.add_mul] at h2 k3 ⊢
    refine ⟨k2, by omega, ?_⟩
    by_cases hq : r / m = q + 1
    · have := k3 hq; omega
    · have : r / m = q := by omega
      have hlt : r < (q + 1) * m := (Int.ediv_lt_iff_lt_mul hmp).1 (by omega)
      rw [Int.add_mul] at hlt
      omega
theorem closeL_near (r : Int) (xs : List Int) (q : Int) (h0 : 0 ≤ q) (h1 : q * xs.length ≤ absI r) (h2 : absI r ≤ (q + 1) * xs.length) (k : Nat) (hk : k < xs.length) :
    absI (atI xs k - atI (closeL r xs) k) ≤ q + 1 := by
  induction xs generalizing r k with
  | nil => simp at hk
  | cons x t ih =>
    have hb := tdiv_bd r (t.length + 1) q h0 (by omega) h1 h2
    cases k with
    | zero =>
      have e : atI (x :: t) 0 - atI (closeL r (x :: t)) 0 = r.tdiv ((t.length + 1 : Nat) : Int) := by simp [atI, closeL]; omega
      rw [e]; exact hb.1
    | succ k =>
      have := ih (r - r.tdiv ((t.length + 1 : Nat) : Int)) (by simpa using hb.2.1) (by simpa using hb.2.2) k (by simpa using hk)
      simpa [atI, closeL] using this
theorem restN_bd (r : Int) (n k : Nat) (hk : k ≤ n) : absI (restN r n k) ≤ absI r := by
  induction k with
  | zero => simp [restN]
  | succ k ih =>
    have := ih (by omega)
    have hm : (0 : Int) < ((n - k : Nat) : Int) := by omega
    have hs : absI (restN r n k - (restN r n k).tdiv ((n - k : Nat) : Int)) ≤ absI (restN r n k) := by
      generalize restN r n k = s
      rcases absI_cases s with ⟨hn, ha⟩ | ⟨hn, ha⟩
      · have ht : s.tdiv ((n - k : Nat) : Int) = -((-s) / ((n - k : Nat) : Int)) := by
          have := Int.tdiv_eq_ediv_of_nonneg (a := -s) (b := ((n - k : Nat) : Int)) (by omega)
          rw [Int.neg_tdiv] at this
          omega
        have h1 : (-s) / ((n - k : Nat) : Int) ≤ -s := Int.ediv_le_self _ (by omega)
        have h2 : 0 ≤ (-s) / ((n - k : Nat) : Int) := Int.ediv_nonneg (by omega) (by omega)
        rw [ht, ha]; unfold absI; split <;> omega
      · have ht : s.tdiv ((n - k : Nat) : Int) = s / ((n - k : Nat) : Int) := Int.tdiv_eq_ediv_of_nonneg hn
        have h1 : s / ((n - k : Nat) : Int) ≤ s := Int.ediv_le_self _ hn
        have h2 : 0 ≤ s / ((n - k : Nat) : Int) := Int.ediv_nonneg hn (by omega)
        rw [ht, ha]; unfold absI; split <;> omega
    exact Int.le_trans hs this

section
variable {ops : Array Oper} {rest : List Oper} {o : Oper} {a : Act} {Q : Exit → Act → World → Prop}
theorem clone_law (hgd : o.guard = none) (s x : Operand)
    (ho : o.op = .call { callee := .builtin .append, args := #[s, x], argTypes := #[31, 31] })
    (W : World) (B : Nat) (v : Value) (A : Option Addr) (c : Nat) (xs : List Int) (hs : a.eval s = v) (hown : OwnI W B v []) (hx : a.eval x = .slice A xs.length c) (hr : Ints W W.heap.size A xs) (h0 : 0 < xs.length)
    (h40 : xs.length < 1099511627776) (hB : B ≤ W.heap.size)
    (h : ∀ v' w', OwnI w' B v' xs → W.grownBy w' v.ownBlock → wpList Try.prog ops Q rest (a.put o.dst v') w') :
    wpList Try.prog ops Q (o :: rest) a W := by
  refine wpList_plain hgd fun K hK => ?_
  obtain ⟨i, hi, hz0, hz1, hz2⟩ := info_parts info_i
  rcases hr with hr | ⟨b, off, rfl, hb, hc⟩
  · rw [hr] at h0; simp at h0
  obtain ⟨v', w', hrun, h2, h3, _, h5⟩ := run_append_own_at (P := Try.prog) W B 31 o.type 2 i (.int .i64 0) 1 8 Try.underlying31 hi hz0 hz1 hz2 rfl (by decide) v 0 [] hown
    ⟨b, off, none⟩ xs.length c (valsI xs) (by simp [valsI]) (by
      intro j u hj
      have hj' : j < xs.length := by
        have := (List.getElem?_eq_some_iff.1 hj).1
        simpa [valsI] using this
      rw [Go.WideShapes.add_plain, hc j hj', ← hj]
      simp [valsI, hj', atI_is]) (by intro u hu; simp [valsI] at hu; obtain ⟨z, _, rfl⟩ := hu; rfl) (by unfold maxLen; omega) (by omega) hB
  unfold Oper.wp execOp
  simp only [ho, resolve, invoke, builtin, Sem.run_bind, Sem.run_pure, Result.andThen_ok, List.map_toArray, List.map_cons, List.map_nil, hs, hx, hrun]
  refine hK _ _ (h v' w' ?_ h3)
  unfold OwnI
  simpa using h2
end

def ClonePost (xs : List Int) (w : World) (e : Ending) (w' : World) : Prop := ∃ v, e = .returned v ∧ OwnI w' w.heap.size v xs ∧ Below w.heap.size w w'
theorem clone_any (A : Option Addr) (c : Nat) (xs : List Int) (n : Nat) (w : World) (hn : xs.length = n) (h0 : 0 < n) (h40 : n < 1099511627776) (hx : Ints w w.heap.size A xs) :
    Calls Try.prog 67 #[.slice A n c] w (ClonePost xs w) := by
  subst hn
  obtain ⟨b, off, rfl, _, _⟩ := hx.at_ (k := 0) h0
  have HX := Lib.hid (hx.next ((Below.refl w.heap.size w).alloc (Nat.le_refl _) (.cells #[] 2)))
  have HO := Lib.hid (OwnI.lit w w.heap.size (Nat.le_refl _))
  have hnil := fun w : World => Lib.run_eql_slice_nil (P := Try.prog) w 31 2 (some ⟨b, off, none⟩) xs.length c 0 0 Try.underlying31
  clear hx
  go_enter Try.func67, Try.ntmps67
  go_wp2_with (at_builtin; refine clone_law rfl (.tmp 5) (.tmp 6) rfl _ w.heap.size _ _ _ xs rfl HO.out rfl HX.out h0 h40 (by simp) ?_; intro v' w1 hown hgrow)
  have HB := Lib.hid (below_grown ((Below.refl w.heap.size w).alloc (Nat.le_refl _) (.cells #[] 2)) hgrow (by intro g hg; have hg : some w.heap.size = some g := hg; injection hg with hg; omega) (by simp))
  clear hgrow
  go_wp2_with fail
  go_ret
  exact ⟨_, rfl, hown, HB.out⟩

def CloseRel (xs : List Int) (r : Int) (g k : Nat) (w0 wr : World) : Prop :=
  Below w0.heap.size w0 wr ∧ ∃ cur, wr.heap[g]? = some (.cells cur 2 (0, 0)) ∧ xs.length ≤ cur.size ∧ ∀ j, j < xs.length → cur[j]? = some (.int .i64 (if j < k then atI (closeL r xs) j else atI xs j))
theorem close_step {xs : List Int} {r : Int} {g k : Nat} {w0 wr : World} (h : CloseRel xs r g k w0 wr) (hg : w0.heap.size ≤ g) (hk : k < xs.length) :
    CloseRel xs r g (k + 1) w0 (wr.setCell ⟨g, k, none⟩ (.int .i64 (atI xs k - (restN r xs.length k).tdiv ((xs.length - k : Nat) : Int)))) := by
  obtain ⟨hb, cur, hh, hs, hc⟩ := h
  refine ⟨hb.setCell (by simpa using hg) _, cur.setIfInBounds k (.int .i64 (atI xs k - (restN r xs.length k).tdiv ((xs.length - k : Nat) : Int))), ?_, by simpa using hs, ?_⟩
  · simp [World.setCell, Array.getElem?_modify, hh]
  · intro j hj
    rw [Array.getElem?_setIfInBounds]
    by_cases e : k = j
    · subst e
      rw [if_pos rfl, if_pos (by omega), if_pos (by omega), closeL_at r xs k hk]
    · rw [if_neg e, hc j hj]
      by_cases e2 : j < k
      · rw [if_pos e2, if_pos (by omega)]
      · rw [if_neg e2, if_neg (by omega)]
theorem close_cell {xs : List Int} {r : Int} {g k : Nat} {w0 wr : World} (h : CloseRel xs r g k w0 wr) (hk : k < xs.length) :
    wr.cell? ⟨g, k, none⟩ = some (.int .i64 (atI xs k)) ∧ wr.frozen? ⟨g, k, none⟩ = false := by
  obtain ⟨hb, cur, hh, hs, hc⟩ := h
  refine ⟨?_, by simp [World.frozen?, hh]⟩
  rw [cell_of_row wr g k cur _ _ hh, hc k hk, if_neg (by omega)]
theorem close_done {xs : List Int} {r : Int} {g c : Nat} {w0 wr : World} (h : CloseRel xs r g xs.length w0 wr) : Ints wr wr.heap.size (some ⟨g, 0, none⟩) (closeL r xs) := by
  obtain ⟨hb, cur, hh, hs, hc⟩ := h
  refine .inr ⟨g, 0, rfl, ?_, fun j hj => ?_⟩
  · apply Classical.byContradiction; intro hx
    rw [Array.getElem?_eq_none (by omega)] at hh; cases hh
  · rw [closeL_len] at hj
    rw [Nat.zero_add, cell_of_row wr g j cur _ _ hh, hc j hj, if_pos hj]

def ClosePost (xs : List Int) (n : Nat) (w : World) (e : Ending) (w' : World) : Prop :=
  ∃ g c, e = .returned (.tuple #[.slice (some ⟨g, 0, none⟩) n c, .int .i64 0]) ∧ Ints w' w'.heap.size (some ⟨g, 0, none⟩) (closeL (sumI xs) xs) ∧ Below w.heap.size w w'
set_option maxHeartbeats 400000 in
theorem closeLoop_any (A : Option Addr) (c : Nat) (xs : List Int) (n : Nat) (w : World) (hn : xs.length = n) (h0 : 0 < n) (hx : Ints w w.heap.size A xs) (hd : dropsB xs = true) :
    Calls Try.prog 26 #[.slice A n c] w (ClosePost xs n w) := by
  have hq := drops_wide hd
  have h64 : n ≤ 64 := by omega
  have HX := Lib.hid hx
  have HN := Lib.hid hn
  have HD := Lib.hid hd
  have HQ := Lib.hid hq.2
  have hsum := sum_bd xs 1000000 (by omega) HQ.out n (by omega)
  rw [List.take_of_length_le (by omega)] at hsum
  clear hx hn hd hq
  go_enter Try.func26, Try.ntmps26
  go_wp2_with (go_at_call 65; refine (loopOk_any _ _ xs _ _ HN.out (by omega) HX.out).mono ?_; rw [HD.out]; rintro e w2 ⟨rfl, hb2⟩)
  refine (clone_any _ _ xs _ _ HN.out h0 (by omega) (HX.out.next hb2)).mono ?_; rintro e w3 ⟨v, rfl, hown, hb3⟩
  have c3 := stepB hb2 hb3
  obtain ⟨g, c', cur, rfl, hg1, hg2, hh, hcs, hcc⟩ := hown.block (by rw [HN.out]; exact h0)
  rw [HN.out]
  have hrel0 := Lib.hid (show CloseRel xs (sumI xs) g 0 w w3 from ⟨c3, cur, hh, hcs, fun j hj => by rw [hcc j hj, if_neg (by omega)]⟩)
  have hgw : w.heap.size ≤ g := Nat.le_trans hb2.size hg1
  clear hown hh hcs hcc hb3
  go_wp2_with fail
  refine (sumOf_any _ _ xs _ _ HN.out h64 (HX.out.next c3) HQ.out).mono ?_; rintro e w4 ⟨rfl, rfl⟩
  clear c3 hb2
  go_wp2_with fail
  go_loopw [5, 17] (fun t i wr => ∃ k : Nat, k ≤ n ∧ i = .int .i64 k ∧ t = .int .i64 (restN (sumI xs) n k) ∧ CloseRel xs (sumI xs) g k w wr) (fun _ i _ => n - (intOf i).toNat)
  case atStart => exact ⟨0, Nat.zero_le _, rfl, rfl, hrel0.out⟩
  case round =>
    obtain ⟨k, hk, rfl, rfl, hr⟩ := hrel
    have HR := Lib.hid hr
    clear hr
    by_cases hlt : k < n
    · obtain ⟨hc, hf⟩ := close_cell HR.out (by have := HN.out; omega)
      have r1 := of_absI (restN_bd (sumI xs) n k (by omega))
      have s1 : absI (sumI xs) ≤ 64000000 := absI_le (by omega) (by omega)
      have HS := Lib.hid (close_step HR.out hgw (by have := HN.out; omega))
      have t1 := tquo_bd (restN (sumI xs) n k) ((n - k : Nat) : Int) (by omega)
      have t2 := of_absI (Int.le_trans t1 (Int.le_trans (restN_bd (sumI xs) n k (by omega)) s1))
      have a1 := allB_at xs (-1000000) 1000000 k (by have := HN.out; omega) HQ.out
      have e1 : ((n - k : Nat) : Int) = (n : Int) - k := by omega
      have HE := Lib.hid e1
      rw [e1] at t2
      clear t1 e1
      go_wp2_with fail
      go_roundw
      case rel => exact ⟨k + 1, by omega, by go_num, by show _ = Value.int .i64 (restN (sumI xs) n k - (restN (sumI xs) n k).tdiv ((n - k : Nat) : Int)); rw [HE.out], by have h := HS.out; rw [HN.out, HE.out] at h; exact h⟩
      case measure => simp [intOf]; omega
    · obtain rfl : k = n := by omega
      have HI := Lib.hid (close_done (c := c') (by rw [HN.out]; exact HR.out))
      go_wp2_with fail
      go_ret2
      exact ⟨g, c', rfl, HI.out, HR.out.1⟩
end Go.Proofs.Ytjpmbjhkolgiiaa
