/-
  FnExactSameMine: for all two mines the program's SameMine says what the reference's says, and leaves the mines alone.
-/
import Derived.Test.YtpeocfjbdgbmmaaMineLaw
import Derived.Test.YtpeocfjbdgbmmaaRowM
import Derived.Laws.StructEq
import Derived.Test.YtpeocfjbdgbmmaaNum
import Derived.RowKit3
import Derived.ProofKit
import Derived.OpenShut
import Derived.Lib.SmallJoins
namespace Go.Proofs.Ytpeocfjbdgbmmaa
open Go.RowKit
set_option linter.unusedVariables false

def eqA (x y : AW) : Bool := (x.a.toList == y.a.toList) && ((x.u == y.u) && ((x.v == y.v) && ((x.l == y.l) && ((x.s == y.s) && ((x.f == y.f) && (x.k == y.k))))))
theorem neq_aw (x y : AW) (w : World) :
    (binOp .neq 58 x.val y.val).run Try.prog w = .ok (.bool (!eqA x y)) w := by
  unfold AW.val
  rw [run_neq_struct, run_equalIn_struct w 9999 _ _ _ (by kernel_rfl) (by kernel_rfl)]
  simp [Program.fieldsOf, Try.underlying58, Op.eqFields, go_sem]
  unfold eqA
  (repeat' split) <;> simp [*]
def allEq (xs ys : List AW) (k : Nat) : Bool := (List.range k).all fun i => eqA (atA xs i) (atA ys i)
theorem allEq_succ (xs ys : List AW) (k : Nat) : allEq xs ys (k + 1) = (allEq xs ys k && eqA (atA xs k) (atA ys k)) := by
  unfold allEq; rw [List.range_succ, List.all_append]; simp
theorem allEq_no (xs ys : List AW) (k n : Nat) (h : k < n) (hf : eqA (atA xs k) (atA ys k) = false) : allEq xs ys n = false := by
  unfold allEq; rw [List.all_eq_false]; exact ⟨k, by simpa using h, by simp [hf]⟩
def sameB (i j : Int) (xs ys : List AW) : Bool := (i == j) && (decide (xs.length = ys.length) && allEq xs ys xs.length)

theorem q2_next {w w1 : World} {i j : Int} {A B : Option Addr} {n m c d g h : Nat} (hb : Below w.heap.size w w1) (hS : w.cell? ⟨g, 0, none⟩ = some (.int .i64 i) ∧ w.cell? ⟨g, 1, none⟩ = some (.slice A n c) ∧ w.cell? ⟨h, 0, none⟩ = some (.int .i64 j) ∧ w.cell? ⟨h, 1, none⟩ = some (.slice B m d)) : w1.cell? ⟨g, 0, none⟩ = some (.int .i64 i) ∧ w1.cell? ⟨g, 1, none⟩ = some (.slice A n c) ∧ w1.cell? ⟨h, 0, none⟩ = some (.int .i64 j) ∧ w1.cell? ⟨h, 1, none⟩ = some (.slice B m d) := by
  obtain ⟨a0, a1, a2, a3⟩ := hS
  have f : ∀ {a : Addr} {v : Value}, w.cell? a = some v → w1.cell? a = some v := fun {a v} h => (hb.cell (World.block_lt_of_cell? w a h)).trans h
  exact ⟨f a0, f a1, f a2, f a3⟩

theorem equalAW_any (A B : Option Addr) (c d : Nat) (xs ys : List AW) (n m : Nat) (w : World) (hn : xs.length = n) (hm : ys.length = m) (h20 : n ≤ 1048576) (h21 : m ≤ 1048576) (hx : Airs w A xs) (hy : Airs w B ys) :
    Calls Try.prog 51 #[.slice A n c, .slice B m d] w fun e w' => e = .returned (.bool (decide (xs.length = ys.length) && allEq xs ys xs.length)) ∧ Below w.heap.size w w' := by
  have HX := Lib.hid hx
  have HY := Lib.hid hy
  have HN := Lib.hid hn
  have HM := Lib.hid hm
  clear hx hy hn hm
  by_cases he : n = m
  · subst he
    go_enter Try.func51, Try.ntmps51
    go_wp2_with fail
    go_loopw [13] (fun t wr => ∃ k : Nat, k ≤ n ∧ t = .int .i64 k ∧ allEq xs ys k = true ∧ ∃ q, wr = w.drewN q) (fun t _ => n - (intOf t).toNat)
    case atStart => exact ⟨0, Nat.zero_le _, rfl, rfl, 0, rfl⟩
    case round =>
      obtain ⟨k, hk, rfl, hall, q, rfl⟩ := hrel
      have HA := Lib.hid hall
      clear hall
      by_cases hlt : k < n
      · obtain ⟨b, off, rfl, hb', hc⟩ := HX.out.at_ (k := k) (by have := HN.out; omega)
        obtain ⟨b2, off2, rfl, hb2', hc2⟩ := HY.out.at_ (k := k) (by have := HM.out; omega)
        obtain ⟨c0, c1, c2, c3, c4, c5, c6⟩ := hc
        obtain ⟨d0, d1, d2, d3, d4, d5, d6⟩ := hc2
        have hki : (k : Int) < n := by omega
        generalize hx : atA xs k = x at c0 c1 c2 c3 c4 c5 c6
        generalize hy : atA ys k = y at d0 d1 d2 d3 d4 d5 d6
        have HXK := Lib.hid hx
        have HYK := Lib.hid hy
        clear hx hy
        have hne := neq_aw x y
        unfold AW.val at hne
        by_cases hq : eqA x y = true
        · rw [hq] at hne
          have HQ := Lib.hid hq
          clear hq
          go_wp2_with fail
          go_quiet (fail)
          clear c0 c1 c2 c3 c4 c5 c6 d0 d1 d2 d3 d4 d5 d6 hne
          go_wp2_with fail
          go_roundw
          case rel => exact ⟨k + 1, by omega, by go_num, by rw [allEq_succ, HA.out, HXK.out, HYK.out, HQ.out]; rfl, _, by first | rw [World.drewN_drewN] | rfl⟩
          case measure => simp [intOf]; omega
        · simp only [Bool.not_eq_true] at hq
          rw [hq] at hne
          have HQ := Lib.hid hq
          clear hq
          go_wp2_with fail
          go_quiet (fail)
          clear c0 c1 c2 c3 c4 c5 c6 d0 d1 d2 d3 d4 d5 d6 hne
          go_wp2_with fail
          go_ret
          exact ⟨ret_bool (by rw [allEq_no xs ys k _ (by rw [HN.out]; exact hlt) (by rw [HXK.out, HYK.out]; exact HQ.out)]; simp), by ((repeat (first | with_reducible exact Below.refl _ _ | with_reducible apply below_drewN | with_reducible apply Below.drew | (with_reducible refine Below.alloc ?_ ?_ _) | (with_reducible refine Below.setCell ?_ ?_ _) | (with_reducible refine Below.trans ?_ (hb4.mono ?_)) | (with_reducible refine Below.trans ?_ (hb3.mono ?_)) | (with_reducible refine Below.trans ?_ (hb2.mono ?_)))); all_goals (first | (simp <;> omega) | (have h2s := hb2.size; (try simp at h2s); (try simp); omega) | (have h2s := hb2.size; have h3s := hb3.size; (try simp at h2s); (try simp at h3s); (try simp); omega) | (have h2s := hb2.size; have h3s := hb3.size; have h4s := hb4.size; (try simp at h2s); (try simp at h3s); (try simp at h4s); (try simp); omega)))⟩
      · obtain rfl : k = n := by omega
        go_wp2_with fail
        go_ret
        exact ⟨ret_bool (by rw [HN.out, HM.out, HA.out]; simp), by ((repeat (first | with_reducible exact Below.refl _ _ | with_reducible apply below_drewN | with_reducible apply Below.drew | (with_reducible refine Below.alloc ?_ ?_ _) | (with_reducible refine Below.setCell ?_ ?_ _) | (with_reducible refine Below.trans ?_ (hb4.mono ?_)) | (with_reducible refine Below.trans ?_ (hb3.mono ?_)) | (with_reducible refine Below.trans ?_ (hb2.mono ?_)))); all_goals (first | (simp <;> omega) | (have h2s := hb2.size; (try simp at h2s); (try simp); omega) | (have h2s := hb2.size; have h3s := hb3.size; (try simp at h2s); (try simp at h3s); (try simp); omega) | (have h2s := hb2.size; have h3s := hb3.size; have h4s := hb4.size; (try simp at h2s); (try simp at h3s); (try simp at h4s); (try simp); omega)))⟩
  · have hne : ¬ (n : Int) = m := by omega
    have hnb : ((n : Int) == m) = false := by simpa using hne
    have hnb2 : ((n : Int) != m) = true := by simpa using hne
    have HE := Lib.hid he
    clear he hne
    go_enter Try.func51, Try.ntmps51
    go_wp2_with fail
    go_ret
    exact ⟨ret_bool (by rw [HN.out, HM.out]; simp [HE.out]), by ((repeat (first | with_reducible exact Below.refl _ _ | with_reducible apply below_drewN | with_reducible apply Below.drew | (with_reducible refine Below.alloc ?_ ?_ _) | (with_reducible refine Below.setCell ?_ ?_ _) | (with_reducible refine Below.trans ?_ (hb4.mono ?_)) | (with_reducible refine Below.trans ?_ (hb3.mono ?_)) | (with_reducible refine Below.trans ?_ (hb2.mono ?_)))); all_goals (first | (simp <;> omega) | (have h2s := hb2.size; (try simp at h2s); (try simp); omega) | (have h2s := hb2.size; have h3s := hb3.size; (try simp at h2s); (try simp at h3s); (try simp); omega) | (have h2s := hb2.size; have h3s := hb3.size; have h4s := hb4.size; (try simp at h2s); (try simp at h3s); (try simp at h4s); (try simp); omega)))⟩

theorem sameP_any (i j : Int) (A B : Option Addr) (c d : Nat) (xs ys : List AW) (n m : Nat) (w : World) (hn : xs.length = n) (hm : ys.length = m) (h20 : n ≤ 1048576) (h21 : m ≤ 1048576) (hx : Airs w A xs) (hy : Airs w B ys) :
    Calls Try.prog 17 #[.agg #[.int .i64 i, .slice A n c], .agg #[.int .i64 j, .slice B m d]] w fun e w' => e = .returned (.bool (sameB i j xs ys)) ∧ Below w.heap.size w w' := by
  have b0 : Below w.heap.size w ((w.alloc (.cells #[.int .i64 i, .slice A n c] 29)).alloc (.cells #[.int .i64 j, .slice B m d] 29)) := by ((repeat (first | with_reducible exact Below.refl _ _ | with_reducible apply below_drewN | with_reducible apply Below.drew | (with_reducible refine Below.alloc ?_ ?_ _) | (with_reducible refine Below.setCell ?_ ?_ _) | (with_reducible refine Below.trans ?_ (hb4.mono ?_)) | (with_reducible refine Below.trans ?_ (hb3.mono ?_)) | (with_reducible refine Below.trans ?_ (hb2.mono ?_)))); all_goals (first | (simp <;> omega) | (have h2s := hb2.size; (try simp at h2s); (try simp); omega) | (have h2s := hb2.size; have h3s := hb3.size; (try simp at h2s); (try simp at h3s); (try simp); omega) | (have h2s := hb2.size; have h3s := hb3.size; have h4s := hb4.size; (try simp at h2s); (try simp at h3s); (try simp at h4s); (try simp); omega)))
  have HX := Lib.hid (hx.next b0)
  have HY := Lib.hid (hy.next b0)
  have HN := Lib.hid hn
  have HM := Lib.hid hm
  clear hx hy hn hm
  by_cases he : i = j
  · subst he
    go_enter Try.func17, Try.ntmps17
    go_wp2_with fail
    refine (equalAW_any _ _ _ _ xs ys _ _ _ HN.out HM.out h20 h21 HX.out HY.out).mono ?_; rintro e w1 ⟨rfl, b1⟩
    have c1 := stepB b0 b1
    go_wp2_with fail
    go_ret
    exact ⟨ret_bool (by unfold sameB; simp), c1⟩
  · have hnb : (i == j) = false := by simpa using he
    have hnb2 : (i != j) = true := by simpa using he
    clear he
    go_enter Try.func17, Try.ntmps17
    go_wp2_with fail
    go_ret
    exact ⟨ret_bool (by unfold sameB; rw [hnb]; simp), b0⟩

set_option maxHeartbeats 600000 in
theorem sameS_any (i j : Int) (A B : Option Addr) (c d : Nat) (xs ys : List AW) (n m : Nat) (w : World) (hn : xs.length = n) (hm : ys.length = m) (h20 : n ≤ 1048576) (h21 : m ≤ 1048576) (hx : Airs w A xs) (hy : Airs w B ys) :
    Calls Try.prog 15 #[.agg #[.int .i64 i, .slice A n c], .agg #[.int .i64 j, .slice B m d]] w fun e w' => e = .returned (.bool (sameB i j xs ys)) ∧ Below w.heap.size w w' := by
  have b0 : Below w.heap.size w ((w.alloc (.cells #[.int .i64 i, .slice A n c] 29)).alloc (.cells #[.int .i64 j, .slice B m d] 29)) := by ((repeat (first | with_reducible exact Below.refl _ _ | with_reducible apply below_drewN | with_reducible apply Below.drew | (with_reducible refine Below.alloc ?_ ?_ _) | (with_reducible refine Below.setCell ?_ ?_ _) | (with_reducible refine Below.trans ?_ (hb4.mono ?_)) | (with_reducible refine Below.trans ?_ (hb3.mono ?_)) | (with_reducible refine Below.trans ?_ (hb2.mono ?_)))); all_goals (first | (simp <;> omega) | (have h2s := hb2.size; (try simp at h2s); (try simp); omega) | (have h2s := hb2.size; have h3s := hb3.size; (try simp at h2s); (try simp at h3s); (try simp); omega) | (have h2s := hb2.size; have h3s := hb3.size; have h4s := hb4.size; (try simp at h2s); (try simp at h3s); (try simp at h4s); (try simp); omega)))
  have HX := Lib.hid (hx.next b0)
  have HY := Lib.hid (hy.next b0)
  have HN := Lib.hid hn
  have HM := Lib.hid hm
  have HB0 := Lib.hid b0
  clear hx hy hn hm b0
  by_cases he : i = j
  · subst he
    by_cases hl : n = m
    · subst hl
      go_enter Try.func15, Try.ntmps15
      go_wp2_with fail
      go_loopw [5] (fun t wr => ∃ k : Nat, k ≤ n ∧ t = .int .i64 k ∧ allEq xs ys k = true ∧ ∃ q, wr = ((w.alloc (.cells #[.int .i64 i, .slice A n c] 29)).alloc (.cells #[.int .i64 i, .slice B n d] 29)).drewN q) (fun t _ => n - (intOf t).toNat)
      case atStart => exact ⟨0, Nat.zero_le _, rfl, rfl, 0, rfl⟩
      case round =>
        obtain ⟨k, hk, rfl, hall, q, rfl⟩ := hrel
        have HA := Lib.hid hall
        clear hall
        by_cases hlt : k < n
        · obtain ⟨b, off, rfl, hb', hc⟩ := HX.out.at_ (k := k) (by have := HN.out; omega)
          obtain ⟨b2, off2, rfl, hb2', hc2⟩ := HY.out.at_ (k := k) (by have := HM.out; omega)
          obtain ⟨wz, hwz⟩ : ∃ wz, wz = ((w.alloc (.cells #[.int .i64 i, .slice (some ⟨b, off, none⟩) n c] 29)).alloc (.cells #[.int .i64 i, .slice (some ⟨b2, off2, none⟩) n d] 29)) := ⟨_, rfl⟩
          have e0 : wz.cell? ⟨w.heap.size, 1, none⟩ = some (.slice (some ⟨b, off, none⟩) n c) := by rw [hwz]; simp [go_sem, World.cell?_alloc_past]
          have e1 : wz.cell? ⟨w.heap.size + 1, 1, none⟩ = some (.slice (some ⟨b2, off2, none⟩) n d) := by rw [hwz]; simp [go_sem]
          rw [← hwz] at hc hc2 ⊢
          have HWZ := Lib.hid hwz
          clear hwz hb' hb2'
          obtain ⟨c0, c1, c2, c3, c4, c5, c6⟩ := hc
          obtain ⟨d0, d1, d2, d3, d4, d5, d6⟩ := hc2
          have hki : (k : Int) < n := by omega
          generalize hx : atA xs k = x at c0 c1 c2 c3 c4 c5 c6
          generalize hy : atA ys k = y at d0 d1 d2 d3 d4 d5 d6
          have HXK := Lib.hid hx
          have HYK := Lib.hid hy
          clear hx hy
          have hne := neq_aw x y
          unfold AW.val at hne
          by_cases hq : eqA x y = true
          · rw [hq] at hne
            have HQ := Lib.hid hq
            clear hq
            go_wp2_with fail
            go_quiet (fail)
            clear c0 c1 c2 c3 c4 c5 c6 d0 d1 d2 d3 d4 d5 d6 hne
            go_wp2_with fail
            go_roundw
            case rel => exact ⟨k + 1, by omega, by go_num, by rw [allEq_succ, HA.out, HXK.out, HYK.out, HQ.out]; rfl, q + nq, rfl⟩
            case measure => simp [intOf]; omega
          · simp only [Bool.not_eq_true] at hq
            rw [hq] at hne
            have HQ := Lib.hid hq
            clear hq
            go_wp2_with fail
            go_quiet (fail)
            clear c0 c1 c2 c3 c4 c5 c6 d0 d1 d2 d3 d4 d5 d6 hne
            go_wp2_with fail
            go_ret
            exact ⟨ret_bool (by unfold sameB; rw [allEq_no xs ys k _ (by rw [HN.out]; exact hlt) (by rw [HXK.out, HYK.out]; exact HQ.out)]; simp), by have := HB0.out; rw [← HWZ.out] at this; first | exact below_drewN (below_drewN this _) _ | exact below_drewN this _⟩
        · obtain rfl : k = n := by omega
          have c1 := Lib.hid (below_drewN HB0.out q)
          go_wp2_with fail
          go_ret
          exact ⟨ret_bool (by unfold sameB; rw [HN.out, HM.out, HA.out]; simp), c1.out⟩
    · have hne : ¬ (n : Int) = m := by omega
      have hnb : ((n : Int) == m) = false := by simpa using hne
      have hnb2 : ((n : Int) != m) = true := by simpa using hne
      have HE := Lib.hid hl
      clear hl hne
      go_enter Try.func15, Try.ntmps15
      go_wp2_with fail
      go_ret
      exact ⟨ret_bool (by unfold sameB; rw [HN.out, HM.out]; simp [HE.out]), HB0.out⟩
  · have hnb : (i == j) = false := by simpa using he
    have hnb2 : (i != j) = true := by simpa using he
    clear he
    go_enter Try.func15, Try.ntmps15
    go_wp2_with fail
    go_ret
    exact ⟨ret_bool (by unfold sameB; rw [hnb]; simp), HB0.out⟩

set_option maxHeartbeats 2000000 in
theorem law_SameMine (i : Int) (A : Option Addr) (n c : Nat) (xs : List AW) (hn : xs.length = n) (hm : n ≤ maxLen) (hs : ∀ k, k < n → (atA xs k).a.size ≤ maxLen) (j : Int) (B : Option Addr) (m d : Nat) (ys : List AW) (hn2 : ys.length = m) (hm2 : m ≤ maxLen) (hs2 : ∀ k, k < m → (atA ys k).a.size ≤ maxLen) (w : World) (hx : Airs w A xs) (hy : Airs w B ys) :
    Calls Try.prog 3 #[.agg #[.int .i64 i, .slice A n c], .agg #[.int .i64 j, .slice B m d]] w fun e w' => e = .returned (.bool true) ∧ Below w.heap.size w w' := by
  unfold maxLen at hm hm2
  have HX := Lib.hid hx
  have HN := Lib.hid hn
  have HS := Lib.hid hs
  have HY := Lib.hid hy
  have HM := Lib.hid hn2
  have HS2 := Lib.hid hs2
  clear hx hn hs hy hn2 hs2
  have b0 : Below w.heap.size w ((w.alloc (.cells #[.int .i64 i, .slice A n c] 24)).alloc (.cells #[.int .i64 j, .slice B m d] 24)) := by ((repeat (first | with_reducible exact Below.refl _ _ | with_reducible apply below_drewN | with_reducible apply Below.drew | (with_reducible refine Below.alloc ?_ ?_ _) | (with_reducible refine Below.setCell ?_ ?_ _) | (with_reducible refine Below.trans ?_ (hb4.mono ?_)) | (with_reducible refine Below.trans ?_ (hb3.mono ?_)) | (with_reducible refine Below.trans ?_ (hb2.mono ?_)))); all_goals (first | (simp <;> omega) | (have h2s := hb2.size; (try simp at h2s); (try simp); omega) | (have h2s := hb2.size; have h3s := hb3.size; (try simp at h2s); (try simp at h3s); (try simp); omega) | (have h2s := hb2.size; have h3s := hb3.size; have h4s := hb4.size; (try simp at h2s); (try simp at h3s); (try simp at h4s); (try simp); omega)))
  have HQ0 := Lib.hid (show ((w.alloc (.cells #[.int .i64 i, .slice A n c] 24)).alloc (.cells #[.int .i64 j, .slice B m d] 24)).cell? ⟨w.heap.size, 0, none⟩ = some (.int .i64 i) ∧ ((w.alloc (.cells #[.int .i64 i, .slice A n c] 24)).alloc (.cells #[.int .i64 j, .slice B m d] 24)).cell? ⟨w.heap.size, 1, none⟩ = some (.slice A n c) ∧ ((w.alloc (.cells #[.int .i64 i, .slice A n c] 24)).alloc (.cells #[.int .i64 j, .slice B m d] 24)).cell? ⟨(w.heap.size + 1), 0, none⟩ = some (.int .i64 j) ∧ ((w.alloc (.cells #[.int .i64 i, .slice A n c] 24)).alloc (.cells #[.int .i64 j, .slice B m d] 24)).cell? ⟨(w.heap.size + 1), 1, none⟩ = some (.slice B m d) from ⟨by simp [go_sem, World.cell?_alloc_past], by simp [go_sem, World.cell?_alloc_past], by simp [go_sem], by simp [go_sem]⟩)
  go_enter Try.func3, Try.ntmps3
  go_wp2_with fail
  refine (szMine_any i A c xs n 1048576 _ HN.out (by unfold maxLen; omega) (by omega) (by omega) HS.out (HX.out.next b0)).mono ?_; rintro e w1 ⟨r, rfl, hr, b1⟩
  have HQ1 := Lib.hid (q2_next b1 HQ0.out)
  obtain ⟨m0, m1, m2, m3⟩ := HQ1.out
  have c1 := stepB b0 b1
  clear b0 b1
  by_cases hr0 : r < 0
  · go_wp2_with fail
    go_ret
    exact ⟨rfl, c1⟩
  have hr2 := hr.resolve_left hr0
  have h20 : n ≤ 1048576 := by have := HN.out; omega
  have hrr : r ≤ 1048576 := hr2.1
  have hr0 : 0 ≤ r := by omega
  clear hr hr2
  go_wp2_with fail
  refine (szMine_any j B d ys m r _ HM.out (by unfold maxLen; omega) hr0 hrr HS2.out (HY.out.next c1)).mono ?_; rintro e w2 ⟨r2, rfl, hr2, b2⟩
  have HQ2 := Lib.hid (q2_next b2 HQ1.out)
  have c2 := stepB c1 b2
  clear m0 m1 m2 m3 c1 b2
  by_cases hr20 : r2 < 0
  · go_wp2_with fail
    go_ret
    exact ⟨rfl, c2⟩
  have hr3 := hr2.resolve_left hr20
  have h21 : m ≤ 1048576 := by have := HM.out; have := hr3.2.1; omega
  have hr20 : 0 ≤ r2 := by omega
  clear hr2 hr3
  go_wp2_with fail
  have dr2 : Below w2.heap.size w2 w2.drew := ⟨rfl, rfl, rfl, Nat.le_refl _, fun _ _ => rfl⟩
  refine wp_region_held_drew (S := (fun w' => w'.cell? ⟨w.heap.size, 0, none⟩ = some (.int .i64 i) ∧ w'.cell? ⟨w.heap.size, 1, none⟩ = some (.slice A n c) ∧ w'.cell? ⟨(w.heap.size + 1), 0, none⟩ = some (.int .i64 j) ∧ w'.cell? ⟨(w.heap.size + 1), 1, none⟩ = some (.slice B m d))) (by kernel_rfl) HQ2.out (fun hHeld => ?_)
  refine wpAnyH_take (i := 0) (oi := ⟨some 20, _, _, _, _, _⟩) (v := ?_) rfl (by kernel_rfl) (by kernel_rfl) (by kernel_rfl) (fun _ _ _ h => h) (Or.inl ⟨by kernel_rfl, ?_⟩) (by assumption) ?_; rotate_left; (focus (intro w hSw; (try dsimp only at hSw); go_simp; (try with_reducible rfl))); (try simp only [Act.put, List.setIfInBounds_toArray, List.set_cons_zero, List.set_cons_succ])
  refine wpAnyH_take (i := 2) (oi := ⟨some 22, _, _, _, _, _⟩) (v := ?_) rfl (by kernel_rfl) (by kernel_rfl) (by kernel_rfl) (fun _ _ _ h => h) (Or.inl ⟨by kernel_rfl, ?_⟩) (by assumption) ?_; rotate_left; (focus (intro w hSw; (try dsimp only at hSw); go_simp; (try with_reducible rfl))); (try simp only [Act.put, List.setIfInBounds_toArray, List.set_cons_zero, List.set_cons_succ])
  refine wpAnyH_ready (rs := [1]) (by kernel_rfl) (by simp) ?_
  refine AllReadyH.cons rfl (fun K hK => ?_) AllReadyH.nil
  go_simp
  refine (toMine_any i A c xs n _ HN.out h20 (HX.out.next (stepB c2 (dr2)))).mono ?_; rintro e wx ⟨ga, rfl, hga, ra, bx⟩
  go_wp2_with fail
  refine hK.out _ _ (q2_next bx hHeld) (fun hHeld => ?_)
  clear hK K
  (try simp only [Act.put, List.setIfInBounds_toArray, List.set_cons_zero, List.set_cons_succ])
  have bx' := stepB dr2 bx
  refine wpAnyH_ready (rs := [3]) (by kernel_rfl) (by simp) ?_; refine AllReadyH.cons rfl (fun K hK => ?_) AllReadyH.nil; go_simp
  refine (toMine_any j B d ys m _ HM.out h21 (HY.out.next (stepB c2 bx'))).mono ?_; rintro e wy ⟨gb, rfl, hgb, rb, bz⟩
  go_wp2_with fail
  refine hK.out _ _ (q2_next bz hHeld) (fun hHeld => ?_)
  clear hK K
  (try simp only [Act.put, List.setIfInBounds_toArray, List.set_cons_zero, List.set_cons_succ])
  refine wpAnyH_ready (rs := [4]) (by kernel_rfl) (by simp) ?_; refine AllReadyH.cons rfl (fun K hK => ?_) AllReadyH.nil; go_simp
  refine (sameS_any i j _ _ _ _ xs ys n m _ HN.out HM.out h20 h21 ((ra.next bz).airs HN.out) (rb.airs HM.out)).mono ?_; rintro e w4 ⟨rfl, bw⟩
  go_wp2_with fail
  refine hK.out _ _ (q2_next bw hHeld) (fun hHeld => ?_)
  clear hK K
  (try simp only [Act.put, List.setIfInBounds_toArray, List.set_cons_zero, List.set_cons_succ])
  refine wpAnyH_take (i := 5) (oi := ⟨some 6, _, _, _, _, _⟩) (v := ?_) rfl (by kernel_rfl) (by kernel_rfl) (by kernel_rfl) (fun _ _ _ h => h) (Or.inl ⟨by kernel_rfl, ?_⟩) (by assumption) ?_; rotate_left; (focus (intro w hSw; (try dsimp only at hSw); go_simp; (try with_reducible rfl))); (try simp only [Act.put, List.setIfInBounds_toArray, List.set_cons_zero, List.set_cons_succ])
  refine wpAnyH_done (by kernel_rfl) ?_ _
  have cc4 := stepB (stepB bx' bz) bw
  clear bx bx' bz bw ra rb
  have hq4 := Lib.hid hHeld
  have c4 := Lib.hid (stepB c2 cc4)
  clear hHeld
  obtain ⟨pa0, pa1, pb0, pb1⟩ := hq4.out
  clear hq4
  go_wp2_with fail
  refine (toMine_any i A c xs n _ HN.out h20 (HX.out.next c4.out)).mono ?_; rintro e w5 ⟨g5, rfl, hg5, r5, b5⟩
  have b5a : Below w4.heap.size w4 (w5.alloc (.cells #[.int .i64 i, .slice (some ⟨g5, 0, none⟩) n n] 29)) := b5.alloc b5.size _
  have HQ5 := Lib.hid (q2_next b5a ⟨pa0, pa1, pb0, pb1⟩)
  have X0 : (w5.alloc (.cells #[.int .i64 i, .slice (some ⟨g5, 0, none⟩) n n] 29)).cell? ⟨w5.heap.size, 0, none⟩ = some (.int .i64 i) := by simp [go_sem]
  have X1 : (w5.alloc (.cells #[.int .i64 i, .slice (some ⟨g5, 0, none⟩) n n] 29)).cell? ⟨w5.heap.size, 1, none⟩ = some (.slice (some ⟨g5, 0, none⟩) n n) := by simp [go_sem]
  have AX := Lib.hid ((r5.airs HN.out).next ((Below.refl w5.heap.size w5).alloc (Nat.le_refl _) (.cells #[.int .i64 i, .slice (some ⟨g5, 0, none⟩) n n] 29)))
  have c5 := Lib.hid (stepB c4.out b5a)
  clear pa0 pa1 pb0 pb1 b5 b5a r5 hg5
  obtain ⟨pa0, pa1, pb0, pb1⟩ := HQ5.out
  go_wp2_with fail
  refine (toMine_any j B d ys m _ HM.out h21 (HY.out.next c5.out)).mono ?_; rintro e w6 ⟨g6, rfl, hg6, r6, b6⟩
  have b6a : Below (w5.alloc (.cells #[.int .i64 i, .slice (some ⟨g5, 0, none⟩) n n] 29)).heap.size (w5.alloc (.cells #[.int .i64 i, .slice (some ⟨g5, 0, none⟩) n n] 29)) (w6.alloc (.cells #[.int .i64 j, .slice (some ⟨g6, 0, none⟩) m m] 29)) := b6.alloc b6.size _
  have HQa := Lib.hid (q2_next b6a ⟨pa0, pa1, X0, X1⟩)
  have HQb := Lib.hid (q2_next b6a ⟨pb0, pb1, X0, X1⟩)
  have Y0 : (w6.alloc (.cells #[.int .i64 j, .slice (some ⟨g6, 0, none⟩) m m] 29)).cell? ⟨w6.heap.size, 0, none⟩ = some (.int .i64 j) := by simp [go_sem]
  have Y1 : (w6.alloc (.cells #[.int .i64 j, .slice (some ⟨g6, 0, none⟩) m m] 29)).cell? ⟨w6.heap.size, 1, none⟩ = some (.slice (some ⟨g6, 0, none⟩) m m) := by simp [go_sem]
  have AY := Lib.hid ((r6.airs HM.out).next ((Below.refl w6.heap.size w6).alloc (Nat.le_refl _) (.cells #[.int .i64 j, .slice (some ⟨g6, 0, none⟩) m m] 29)))
  have AX6 := Lib.hid (AX.out.next b6a)
  have c6 := Lib.hid (stepB c5.out b6a)
  clear pa0 pa1 pb0 pb1 X0 X1 b6 b6a r6 hg6
  obtain ⟨pa0, pa1, X0, X1⟩ := HQa.out
  obtain ⟨pb0, pb1, _, _⟩ := HQb.out
  go_wp2_with fail
  refine (sameP_any i j _ _ _ _ xs ys n m _ HN.out HM.out h20 h21 AX6.out AY.out).mono ?_; rintro e w7 ⟨rfl, b7⟩
  have HQc := Lib.hid (q2_next b7 ⟨pa0, pa1, X0, X1⟩)
  have HQd := Lib.hid (q2_next b7 ⟨pb0, pb1, Y0, Y1⟩)
  have AX7 := Lib.hid (AX6.out.next b7)
  have AY7 := Lib.hid (AY.out.next b7)
  have c7 := Lib.hid (stepB c6.out b7)
  have CX7 := Lib.hid (HX.out.next c7.out)
  clear pa0 pa1 pb0 pb1 X0 X1 Y0 Y1 b7
  go_wp2_with fail
  go_region_held3 (fun w' => w'.cell? ⟨w.heap.size, 0, none⟩ = some (.int .i64 i) ∧ w'.cell? ⟨w.heap.size, 1, none⟩ = some (.slice A n c) ∧ w'.cell? ⟨w5.heap.size, 0, none⟩ = some (.int .i64 i) ∧ w'.cell? ⟨w5.heap.size, 1, none⟩ = some (.slice (some ⟨g5, 0, none⟩) n n)) (first | exact HQc.out | exact q2_next bq HQc.out | exact q2_next br (q2_next bq HQc.out))
    ((first | (go_at_call 16; refine (toMine_any i A c xs n _ HN.out h20 CX7.out.drew).mono ?_; rintro e w8 ⟨g8, rfl, hg8, r8, bq⟩) | (go_at_call 18; refine (eqMine_same i _ _ _ _ xs n _ HN.out (by omega) (AX7.out.drew.next bq) (r8.airs HN.out)).mono ?_; rintro e w9 ⟨rfl, br⟩)))
  have b9 := stepB (below_undrew bq) br
  have HQe := Lib.hid (q2_next b9 HQd.out)
  have AY9 := Lib.hid (AY7.out.next b9)
  have c9 := Lib.hid (stepB c7.out b9)
  have CY9 := Lib.hid (HY.out.next c9.out)
  clear bq br r8 b9
  go_wp2_with fail
  go_region_held3 (fun w' => w'.cell? ⟨(w.heap.size + 1), 0, none⟩ = some (.int .i64 j) ∧ w'.cell? ⟨(w.heap.size + 1), 1, none⟩ = some (.slice B m d) ∧ w'.cell? ⟨w6.heap.size, 0, none⟩ = some (.int .i64 j) ∧ w'.cell? ⟨w6.heap.size, 1, none⟩ = some (.slice (some ⟨g6, 0, none⟩) m m)) (first | exact HQe.out | exact q2_next bs HQe.out | exact q2_next bt (q2_next bs HQe.out))
    ((first | (go_at_call 16; refine (toMine_any j B d ys m _ HM.out h21 CY9.out.drew).mono ?_; rintro e w10 ⟨g10, rfl, hg10, r10, bs⟩) | (go_at_call 18; refine (eqMine_same j _ _ _ _ ys m _ HM.out (by omega) (AY9.out.drew.next bs) (r10.airs HM.out)).mono ?_; rintro e w11 ⟨rfl, bt⟩)))
  have c11 := stepB (stepB c9.out (below_undrew bs)) bt
  clear bs bt r10
  go_wp2_with fail
  go_ret
  exact ⟨rfl, c11⟩

/-! ### the row of FnExactSameMine: the arguments are opened, the walk is met, each argument reads behind the call as before -/
namespace fnExactSameMine
open Go.ChangeShapes Go.WideShapes Go.ChangeAt Go.RowKit Go.Joins
open Go.ChangeMaps (open_string shut_string)
set_option linter.unusedVariables false
set_option maxRecDepth 100000 in
theorem lifted (os : Os) (started : os.Started) (H : Type) (enc : TypeId × Value → H) :
    ReturnsInHanded {} Try.checked os 3 .any (Rows.fnExactSameMineSpec.pre6 enc Try.prog Try.f3 Rows.fnExactSameMineRow.domain false) (Rows.fnExactSameMineSpec.post enc Try.prog Try.f3 false true false false) := by
  refine returnsInHanded_of_change (C := Try.checked) own started (by kernel_rfl) Try.func3
    (ChangeSpec.witness6 (enc := enc) (C := Try.checked) false ⟨#[], #[.agg #[.int .i64 0, .slice none 0 0], .agg #[.int .i64 0, .slice none 0 0]], []⟩ 8 (by kernel_rfl) (by kernel_rfl) (by kernel_rfl) (by kernel_rfl)) ?_
  intro W base args ds gs before hval0 hW hcnd _
  have hval : ∀ (j : Nat) t v, Try.f3.params[j]? = some t → args[j]? = some v → Value.okWide Try.prog W .any base t v := hval0
  have hW' := hW
  obtain ⟨p, q, hA0, hV, rfl, hfz, hnd⟩ := hW
  have hA : DataW.TrodAll enc Try.prog W 0 (fun _ => true) true Try.f3.params.toList args.toList ds p := hA0
  rw [Try.params3] at hA hval
  obtain ⟨v0, vs0, d0, ds0, p0, q0, hargs, rfl, rfl, h0, r0⟩ := trodAll_cons hA
  obtain ⟨v1, vs1, d1, ds1, p1, q1, rfl, rfl, rfl, h1, r1⟩ := trodAll_cons r0
  obtain ⟨rfl, rfl, rfl⟩ := trodAll_nil r1
  obtain rfl : args = #[v0, v1] := by cases args; simp_all
  obtain ⟨rfl, rfl⟩ := trodVars_none hV
  clear hA0 hval0
  simp only [List.append_nil] at hW'
  have lt0 : ∀ x ∈ p0, x.block < W.heap.size := fun x hx => by simpa using hW'.lt x (by simp [hx])
  have k0 := h0
  have lt1 : ∀ x ∈ p1, x.block < W.heap.size := fun x hx => by simpa using hW'.lt x (by simp [hx])
  have k1 := h1
  obtain ⟨c0_0, c0_1, y0_0, y0_1, m0, rfl, rfl, rfl, hy0_0, hy0_1⟩ := open_agg2 Try.underlying24 (by kernel_rfl) (by kernel_rfl) (hval 0 24 v0 rfl rfl) h0
  obtain ⟨a0_0, e0_0, z0_0, w0_0⟩ := DataW.trod_int Try.underlying2 hy0_0
  simp only [List.cons.injEq, and_true] at e0_0; subst e0_0
  obtain ⟨A0, len0, cap0, rfl⟩ := slice_shape Try.underlying22 Try.underlying55 (by kernel_rfl) (by kernel_rfl) hy0_1
  obtain ⟨xs0, hn0, hm0, hs0, hx0⟩ := view_airs Try.underlying22 Try.underlying55 (by kernel_rfl) (by kernel_rfl) Try.underlying9 Try.underlying2 Try.underlying2 Try.underlying2 Try.underlying2 Try.underlying2 Try.underlying2 hy0_1
  obtain ⟨c1_0, c1_1, y1_0, y1_1, m1, rfl, rfl, rfl, hy1_0, hy1_1⟩ := open_agg2 Try.underlying24 (by kernel_rfl) (by kernel_rfl) (hval 1 24 v1 rfl rfl) h1
  obtain ⟨a1_0, e1_0, z1_0, w1_0⟩ := DataW.trod_int Try.underlying2 hy1_0
  simp only [List.cons.injEq, and_true] at e1_0; subst e1_0
  obtain ⟨A1, len1, cap1, rfl⟩ := slice_shape Try.underlying22 Try.underlying55 (by kernel_rfl) (by kernel_rfl) hy1_1
  obtain ⟨xs1, hn1, hm1, hs1, hx1⟩ := view_airs Try.underlying22 Try.underlying55 (by kernel_rfl) (by kernel_rfl) Try.underlying9 Try.underlying2 Try.underlying2 Try.underlying2 Try.underlying2 Try.underlying2 Try.underlying2 hy1_1
  refine (law_SameMine a0_0 A0 len0 cap0 xs0 hn0 hm0 hs0 a1_0 A1 len1 cap1 xs1 hn1 hm1 hs1 W hx0 hx1).mono fun e W' ⟨he, hb⟩ => ?_
  subst he
  exact ⟨_, rfl, _, _, _, _, _, [], hW', (trodAll_cons_mk (shut_bool Try.underlying4 _) trodAll_mk0), (trodAll_cons_mk (Below.trod laidOut (by kernel_rfl) (of_decide_eq_true (by kernel_rfl)) k0 hb lt0) (trodAll_cons_mk (Below.trod laidOut (by kernel_rfl) (of_decide_eq_true (by kernel_rfl)) k1 hb lt1) trodAll_mk0)), rfl, hb.frame _, fun h => by cases h⟩

theorem proved : Rows.FnExactSameMineSaid :=
  OpenClaim.holds_of_wide 3 Try.f3 rfl rfl rfl rfl rfl rfl rfl ⟨rfl, rfl, rfl, rfl, rfl⟩ rfl rfl rfl rfl rfl (by kernel_rfl) Try.func3 (by kernel_rfl)
    (of_decide_eq_true (by kernel_rfl)) (by unfold Func.isWrapper; first | (rw [if_pos (by decide +kernel)]; kernel_rfl) | (rw [if_neg (by decide +kernel)]; exact ⟨rfl, rfl⟩))
    (fun os started H enc _ => lifted os started H enc)
#print axioms proved
end fnExactSameMine
end Go.Proofs.Ytpeocfjbdgbmmaa
