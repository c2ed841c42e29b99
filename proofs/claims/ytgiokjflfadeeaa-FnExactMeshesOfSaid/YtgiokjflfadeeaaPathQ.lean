/-
  A queue of numbers (a window of the call's own row, appended to behind and struck in front); a map from junctions to distances.
-/
import Derived.Test.YtgiokjflfadeeaaDist
import Derived.Test.YtgiokjflfadeeaaAll
import Derived.ArgAppend
import Derived.Maps.OwnSet
namespace Go.Proofs.Ytgiokjflfadeeaa
open Go.RowKit Go.Maps
set_option linter.unusedVariables false

def Win (w : World) (B : Nat) (v : Value) (xs : List Int) : Prop :=
  ∃ g o c, v = .slice (some ⟨g, o, none⟩) xs.length c ∧ B ≤ g ∧ g < w.heap.size ∧ xs.length ≤ c ∧ (∀ j, j < xs.length → w.cell? ⟨g, o + j, none⟩ = some (.int .i64 (atI xs j))) ∧ ∀ j, j < c → (w.cell? ⟨g, o + j, none⟩).isSome = true ∧ w.frozen? ⟨g, o + j, none⟩ = false
theorem Win.lit1 (w : World) (B : Nat) (z : Int) (hB : B ≤ w.heap.size) : Win (w.alloc (.cells #[.int .i64 z] 2)) B (.slice (some ⟨w.heap.size, 0, none⟩) 1 1) [z] := by
  have hc : (w.alloc (.cells #[.int .i64 z] 2)).cell? ⟨w.heap.size, 0, none⟩ = some (.int .i64 z) := by simp [go_sem]
  have hf : (w.alloc (.cells #[.int .i64 z] 2)).frozen? ⟨w.heap.size, 0, none⟩ = false := by
    have h := World.ownsRow.frozenAt (OwnI.lit1 w B z hB) 0
    exact h
  refine ⟨w.heap.size, 0, 1, rfl, hB, by simp, by simp, fun j hj => ?_, fun j hj => ?_⟩
  · obtain rfl : j = 0 := by simpa using hj
    exact hc
  · obtain rfl : j = 0 := by omega
    exact ⟨by rw [Nat.zero_add, hc]; rfl, by rw [Nat.zero_add]; exact hf⟩
theorem Win.kept {w w' : World} {B : Nat} {v : Value} {xs : List Int} {row : Option Nat} (h : Win w B v xs) (hg : w.grownBy w' row) (hr : ∀ g, row = some g → g < B) : Win w' B v xs := by
  obtain ⟨g, o, c, hv, hB, hlt, hle, h1, h2⟩ := h
  have hb : w'.heap[g]? = w.heap[g]? := hg.block g hlt (fun e => by have := hr g e.symm; omega)
  exact ⟨g, o, c, hv, hB, Nat.lt_of_lt_of_le hlt hg.size, hle, fun j hj => (World.cell?_of_block hb).trans (h1 j hj), fun j hj => by
    rw [World.cell?_of_block (w := w) (w' := w') (a := ⟨g, o + j, none⟩) hb, World.frozen?_of_block (w := w) (w' := w') (a := ⟨g, o + j, none⟩) hb]; exact h2 j hj⟩
theorem Win.below {w w' : World} {B : Nat} {v : Value} {xs : List Int} (h : Win w B v xs) (hb : Below w.heap.size w w') : Win w' B v xs := h.kept (grown_of_below hb) (fun g e => by cases e)
theorem Win.alloc {w : World} {B : Nat} {v : Value} {xs : List Int} (h : Win w B v xs) (o : Obj) : Win (w.alloc o) B v xs := h.kept (World.grownBy_alloc w o none) (fun g e => by cases e)
theorem Win.drewN {w : World} {B : Nat} {v : Value} {xs : List Int} (h : Win w B v xs) (n : Nat) : Win (w.drewN n) B v xs := h
theorem Win.is {w : World} {B : Nat} {v : Value} {xs : List Int} (h : Win w B v xs) : ∃ g o c, v = .slice (some ⟨g, o, none⟩) xs.length c ∧ B ≤ g ∧ g < w.heap.size ∧ ∀ j, j < xs.length → w.cell? ⟨g, o + j, none⟩ = some (.int .i64 (atI xs j)) := by
  obtain ⟨g, o, c, hv, hB, hlt, hle, h1, h2⟩ := h
  exact ⟨g, o, c, hv, hB, hlt, h1⟩
theorem grown_setCell (w : World) (g o : Nat) (v : Value) : w.grownBy (w.setCell ⟨g, o, none⟩ v) (some g) :=
  ⟨rfl, rfl, rfl, by simp [World.setCell], fun k _ hk => Below.heap_setCell _ _ _ _ (fun e => hk (by rw [e]))⟩
theorem valsI_at (xs : List Int) {j : Nat} {u : Value} (h : (valsI xs)[j]? = some u) : j < xs.length ∧ u = .int .i64 (atI xs j) := by
  unfold valsI at h
  rw [List.getElem?_map] at h
  rcases Nat.lt_or_ge j xs.length with hj | hj
  · rw [List.getElem?_eq_getElem hj] at h
    exact ⟨hj, by rw [atI_is xs j hj]; simpa using h.symm⟩
  · rw [List.getElem?_eq_none hj] at h; cases h
theorem atI_app_last (xs : List Int) (z : Int) : atI (xs ++ [z]) xs.length = z := by simp [atI]
def Push (W w' : World) (B : Nat) (v' : Value) (xs : List Int) : Prop := Win w' B v' xs ∧ ∃ row, W.grownBy w' row ∧ ∀ g, row = some g → B ≤ g
theorem push_win (W : World) (B : Nat) (v : Value) (xs : List Int) (z : Int) (ty : TypeId) (hw : Win W B v xs) (a : Addr) (c : Nat) (hc : W.cell? a = some (.int .i64 z)) (h40 : xs.length < 1099511627776) (hB : B ≤ W.heap.size) :
    ∃ v' w', (Builtin.append_ #[35, 35] ty #[v, .slice (some a) 1 c]).run Try.prog W = .ok v' w' ∧ Push W w' B v' (xs ++ [z]) := by
  obtain ⟨i, hi, hz0, hz1, hz2⟩ := info_parts info_i
  obtain ⟨g, o, cap, hv, hg, hlt, hle, h1, h2⟩ := hw
  subst hv
  have hnews : ∀ j u, [Value.int .i64 z][j]? = some u → W.cell? (a.add j) = some u := by
    intro j u hj
    match j, hj with
    | 0, hj =>
      simp at hj
      subst hj
      simpa [Addr.add] using hc
  by_cases hroom : xs.length + 1 ≤ cap
  · have hcell : (W.cell? ⟨g, o + xs.length, none⟩).isSome = true := (h2 xs.length (by omega)).1
    have hrun := run_append_room_cells (P := Try.prog) W 35 ty 2 i Try.underlying35 hi g o xs.length cap a 1 c [.int .i64 z] (by rw [hz1]; rfl) hnews (by intro u hu; simp at hu; subst hu; rfl) hroom
      (fun j hj => by
        obtain rfl : j = 0 := by simpa using hj
        rw [hz1]; simpa using hcell) (fun j hj => by
        obtain rfl : j = 0 := by simpa using hj
        rw [hz1]; simpa using (h2 xs.length (by omega)).2)
    rw [hz1, Nat.mul_one] at hrun
    have hset : W.setCells g (o + xs.length) [.int .i64 z] = W.setCell ⟨g, o + xs.length, none⟩ (.int .i64 z) := rfl
    rw [hset] at hrun
    refine ⟨_, _, hrun, ⟨g, o, cap, by simp, hg, by simpa [World.setCell] using hlt, by simpa using hroom, fun j hj => ?_, fun j hj => ?_⟩, some g, grown_setCell _ _ _ _, fun g' e => by cases e; exact hg⟩
    · by_cases e : j = xs.length
      · subst e
        obtain ⟨u, hu⟩ := Option.isSome_iff_exists.1 hcell
        rw [atI_app_last]
        exact World.cell?_setCell_same _ _ _ hu
      · have hj2 : j < xs.length := by simp at hj; omega
        rw [atI_app xs z j hj2, World.cell?_setCell_other _ _ _ _ (fun e2 => by injection e2 with _ e3 _; omega)]
        exact h1 j hj2
    · rw [World.frozen?_setCell]
      refine ⟨?_, (h2 j hj).2⟩
      by_cases e : j = xs.length
      · subst e
        obtain ⟨u, hu⟩ := Option.isSome_iff_exists.1 hcell
        rw [World.cell?_setCell_same _ _ _ hu]; rfl
      · rw [World.cell?_setCell_other _ _ _ _ (fun e2 => by injection e2 with _ e3 _; omega)]
        exact (h2 j hj).1
  · obtain ⟨v', w', hrun, hown, hgr⟩ := run_append_arg_grows (P := Try.prog) W 35 ty 2 i (.int .i64 0) 1 8 Try.underlying35 hi hz0 hz1 hz2 rfl (by decide) ⟨g, o, none⟩ xs.length cap (valsI xs) (by simp [valsI])
      (fun j u hj => by
        obtain ⟨hj1, rfl⟩ := valsI_at xs hj
        rw [Addr.add_lit]
        exact h1 j hj1) a 1 c [.int .i64 z] rfl hnews (by omega) (by unfold maxLen; omega) (by omega)
    have hown2 : OwnI w' W.heap.size v' (xs ++ [z]) := by
      unfold OwnI
      rw [valsI_snoc]
      simpa using hown
    obtain ⟨g', c', ev, hi2⟩ := hown2.reads
    have hb := hown2.block (by simp)
    obtain ⟨gg, cc, cur, ev2, hgg, hgl, hheap, hcs, hcur⟩ := hb
    refine ⟨v', w', hrun, ?_, none, hgr, fun _ e => by cases e⟩
    have hrow := hown2
    unfold OwnI at hrow
    rcases hrow.2 with ⟨hv, h0⟩ | ⟨g3, cap3, cur3, hv3, hbg3, hh3, hnc3, hcm3, hsz3, htake3⟩
    · simp at h0
    · refine ⟨g3, 0, cap3, hv3, by omega, (World.ownsRow.lt hrow g3 (by rw [hv3]; rfl)).2, hnc3, fun j hj => ?_, fun j hj => ?_⟩
      · have e3 := ev2.symm.trans hv3
        have e4 : gg = g3 := congrArg Addr.block (Option.some.inj (Value.slice.inj e3).1)
        subst e4
        rw [Nat.zero_add, cell_of_row w' gg j cur _ _ hheap]
        exact hcur j hj
      · rw [Nat.zero_add]
        refine ⟨?_, ?_⟩
        · rw [cell_of_row w' g3 j cur3 _ _ hh3]
          rw [Array.getElem?_eq_getElem (by omega)]; rfl
        · have h := hrow
          rw [hv3] at h
          exact World.ownsRow.frozenAt h j
theorem tail_win {W : World} {B c : Nat} {a : Option Addr} {n : Nat} {x : Int} {xs : List Int} (h : Win W B (.slice a n c) (x :: xs)) : Win W B (sliced a 1 n c 1) xs := by
  obtain ⟨g, o, c', hv, hB, hlt, hle, h1, h2⟩ := h
  injection hv with e1 e2 e3
  subst e1 e2 e3
  have hat : ∀ j, atI (x :: xs) (j + 1) = atI xs j := fun j => by simp [atI]
  unfold sliced
  have hl : (x :: xs).length = xs.length + 1 := rfl
  rw [hl] at hle h1 ⊢
  by_cases hc : c = 1
  · subst hc
    have h0 : xs.length = 0 := by omega
    refine ⟨g, o, 0, by simp [h0], hB, hlt, by omega, fun j hj => by omega, fun j hj => by omega⟩
  · refine ⟨g, o + 1, c - 1, by simp [hc, Addr.add], hB, hlt, by omega, fun j hj => ?_, fun j hj => ?_⟩
    · have h := h1 (j + 1) (by omega)
      rw [hat, show o + (j + 1) = o + 1 + j by omega] at h
      exact h
    · have h := h2 (j + 1) (by omega)
      rw [show o + (j + 1) = o + 1 + j by omega] at h
      exact h

section
variable {ops : Array Oper} {rest : List Oper} {o : Oper} {a : Act} {Q : Exit → Act → World → Prop}
theorem pushq_law (hgd : o.guard = none) (s x : Operand)
    (ho : o.op = .call { callee := .builtin .append, args := #[s, x], argTypes := #[35, 35] })
    (W : World) (B : Nat) (v : Value) (xs : List Int) (z : Int) (hs : a.eval s = v) (hown : Win W B v xs) (hx : a.eval x = .slice (some ⟨W.heap.size, 0, none⟩) 1 1)
    (h40 : xs.length < 1099511627776) (hB : B ≤ W.heap.size)
    (h : ∀ v' w', Push (W.alloc (.cells #[.int .i64 z] 2)) w' B v' (xs ++ [z]) → wpList Try.prog ops Q rest (a.put o.dst v') w') :
    wpList Try.prog ops Q (o :: rest) a (W.alloc (.cells #[.int .i64 z] 2)) := by
  refine wpList_plain hgd fun K hK => ?_
  obtain ⟨v', w', hrun, h2⟩ := push_win (W.alloc (.cells #[.int .i64 z] 2)) B v xs z o.type (hown.alloc _) ⟨W.heap.size, 0, none⟩ 1 (by simp [go_sem]) h40 (by simp; omega)
  unfold Oper.wp execOp
  simp only [ho, resolve, invoke, builtin, Sem.run_bind, Sem.run_pure, Result.andThen_ok, List.map_toArray, List.map_cons, List.map_nil, hs, hx, hrun]
  exact hK _ _ (h v' w' h2)
theorem tail_law (hgd : o.guard = none) (s : Operand) (ho : o.op = .slice 35 s (some (.const (.int .i64 1))) none none)
    (W : World) (B : Nat) (v : Value) (x : Int) (xs : List Int) (hs : a.eval s = v) (hown : Win W B v (x :: xs))
    (h : ∀ v', Win W B v' xs → wpList Try.prog ops Q rest (a.put o.dst v') W) :
    wpList Try.prog ops Q (o :: rest) a W := by
  refine wpList_plain hgd fun K hK => ?_
  have hw := hown
  obtain ⟨g, off, c, hv, hB, hlt, hle, h1, h2⟩ := hown
  subst hv
  obtain ⟨i, hi, hz0, hz1, hz2⟩ := info_parts info_i
  have hel : Try.prog.elem 35 = 2 := by kernel_rfl
  have hund : Try.prog.underlying 35 = some (.slice (Try.prog.elem 35)) := by rw [hel]; exact Try.underlying35
  have hsz : (sizeOf (Try.prog.elem 35)).run Try.prog W = .ok 1 W := by rw [hel]; simp [sizeOf, typeInfo, hi, hz1]
  have hrun : (Instr.sliceAt 35 (.slice (some ⟨g, off, none⟩) (x :: xs).length c) (some (.int .i64 1)) none none).run Try.prog W = .ok (sliced (some ⟨g, off, none⟩) 1 (x :: xs).length c 1) W := by
    rw [run_sliceAt_slice _ _ _ _ _ _ hund, run_slice_l _ _ _ _ _ hund .i64 1 (by omega) (by simp; omega), hsz]
    rfl
  unfold Oper.wp execOp
  have hcv : a.eval (.const (.int .i64 1)) = .int .i64 1 := rfl
  simp only [ho, Option.map_some, Option.map_none, hs, hcv, Sem.run_bind, Sem.run_pure, Result.andThen_ok, hrun]
  exact hK _ _ (h _ (tail_win hw))
end
end Go.Proofs.Ytgiokjflfadeeaa
