/-
  Rows of numbers that the call itself made: appended to, read again.
-/
import Derived.Test.YtgiokjflfadeeaaInts
import Derived.Maps.AppendAt
import Derived.OwnWalk
import Derived.WalkSmall
namespace Go.Proofs.Ytgiokjflfadeeaa
open Go.RowKit
set_option linter.unusedVariables false

def valsI (xs : List Int) : List Value := xs.map (Value.int .i64)
def OwnI (w : World) (B : Nat) (v : Value) (xs : List Int) : Prop := w.ownsRow B 2 1 v xs.length (valsI xs)
theorem valsI_snoc (xs : List Int) (z : Int) : valsI (xs ++ [z]) = valsI xs ++ [.int .i64 z] := by simp [valsI]
theorem OwnI.lit (w : World) (B : Nat) (hB : B ≤ w.heap.size) : OwnI (w.alloc (.cells #[] 2)) B (.slice (some ⟨w.heap.size, 0, none⟩) 0 0) [] :=
  World.ownsRow_lit w #[] 0 hB (by simp [maxLen]) (by simp)
theorem OwnI.kept {w w' : World} {B : Nat} {v : Value} {xs : List Int} {row : Option Nat} (h : OwnI w B v xs) (hg : w.grownBy w' row) (hne : v.ownBlock = none ∨ v.ownBlock ≠ row) : OwnI w' B v xs := World.ownsRow.kept h hg hne
theorem OwnI.alloc {w : World} {B : Nat} {v : Value} {xs : List Int} (h : OwnI w B v xs) (o : Obj) : OwnI (w.alloc o) B v xs := World.ownsRow.alloc h o
theorem OwnI.drewN {w : World} {B : Nat} {v : Value} {xs : List Int} (h : OwnI w B v xs) (n : Nat) : OwnI (w.drewN n) B v xs := h
theorem OwnI.lt {w : World} {B : Nat} {v : Value} {xs : List Int} (h : OwnI w B v xs) {g : Nat} (hg : v.ownBlock = some g) : B ≤ g ∧ g < w.heap.size := World.ownsRow.lt h g hg
theorem grown_of_below {w w' : World} (h : Below w.heap.size w w') : w.grownBy w' none := ⟨h.os, h.tape, h.output, h.size, fun k hk _ => h.block k hk⟩
theorem OwnI.below {w w' : World} {B : Nat} {v : Value} {xs : List Int} (h : OwnI w B v xs) (hb : Below w.heap.size w w') : OwnI w' B v xs := by
  refine h.kept (grown_of_below hb) ?_
  cases v.ownBlock with
  | none => exact .inl rfl
  | some g => exact .inr (by simp)
theorem below_grown {B : Nat} {w W w' : World} {row : Option Nat} (h : Below B w W) (hg : W.grownBy w' row) (hr : ∀ g, row = some g → B ≤ g) (hB : B ≤ W.heap.size) : Below B w w' :=
  h.trans ⟨hg.os, hg.tape, hg.output, hg.size, fun k hk => hg.block k (by omega) (fun e => by have := hr k e.symm; omega)⟩
/-- what an owned row reads as -/
theorem OwnI.reads {w : World} {B : Nat} {v : Value} {xs : List Int} (h : OwnI w B v xs) :
    ∃ A c, v = .slice A xs.length c ∧ Ints w w.heap.size A xs := by
  unfold OwnI at h
  rcases h.2 with ⟨hv, h0⟩ | ⟨g, cap, cur, hv, hbg, hh, hnc, hcm, hsz, htake⟩
  · have : xs = [] := List.eq_nil_of_length_eq_zero h0
    subst this
    exact ⟨none, 0, hv, .inl rfl⟩
  · subst hv
    refine ⟨some ⟨g, 0, none⟩, cap, rfl, .inr ⟨g, 0, rfl, (World.ownsRow.lt h g rfl).2, fun k hk => ?_⟩⟩
    rw [Nat.zero_add, h.cellAt k (by omega)]
    simp [valsI, hk, atI_is]
theorem OwnI.block {w : World} {B : Nat} {v : Value} {xs : List Int} (h : OwnI w B v xs) (h0 : 0 < xs.length) :
    ∃ g c cur, v = .slice (some ⟨g, 0, none⟩) xs.length c ∧ B ≤ g ∧ g < w.heap.size ∧ w.heap[g]? = some (.cells cur 2 (0, 0)) ∧ xs.length ≤ cur.size ∧ ∀ j, j < xs.length → cur[j]? = some (.int .i64 (atI xs j)) := by
  unfold OwnI at h
  rcases h.2 with ⟨hv, h0⟩ | ⟨g, cap, cur, hv, hbg, hh, hnc, hcm, hsz, htake⟩
  · omega
  · subst hv
    refine ⟨g, cap, cur, rfl, hbg, (World.ownsRow.lt h g rfl).2, hh, by omega, fun j hj => ?_⟩
    have hc := h.cellAt j (by omega)
    rw [cell_of_row w g j cur _ _ hh] at hc
    rw [hc]
    simp [valsI, hj, atI_is]

section
variable {ops : Array Oper} {rest : List Oper} {o : Oper} {a : Act} {Q : Exit → Act → World → Prop}
theorem push_law (hgd : o.guard = none) (s x : Operand)
    (ho : o.op = .call { callee := .builtin .append, args := #[s, x], argTypes := #[35, 35] })
    (W : World) (B : Nat) (v : Value) (xs : List Int) (z : Int) (hs : a.eval s = v) (hown : OwnI W B v xs) (hx : a.eval x = .slice (some ⟨W.heap.size, 0, none⟩) 1 1)
    (h40 : xs.length < 1099511627776) (hB : B ≤ W.heap.size)
    (h : ∀ v' w', OwnI w' B v' (xs ++ [z]) → (W.alloc (.cells #[.int .i64 z] 2)).grownBy w' v.ownBlock → (v'.ownBlock = v.ownBlock ∨ v'.ownBlock = some (W.heap.size + 1)) → wpList Try.prog ops Q rest (a.put o.dst v') w') :
    wpList Try.prog ops Q (o :: rest) a (W.alloc (.cells #[.int .i64 z] 2)) := by
  refine wpList_plain hgd fun K hK => ?_
  obtain ⟨i, hi, hz0, hz1, hz2⟩ := info_parts info_i
  obtain ⟨v', w', hrun, h2, h3, _, h5⟩ := run_append_own_at (P := Try.prog) (W.alloc (.cells #[.int .i64 z] 2)) B 35 o.type 2 i (.int .i64 0) 1 8 Try.underlying35 hi hz0 hz1 hz2 rfl (by decide) v xs.length (valsI xs) (hown.alloc _)
    ⟨W.heap.size, 0, none⟩ 1 1 [.int .i64 z] rfl (by
      intro j u hj
      match j, hj with
      | 0, hj => simp at hj; subst hj; simp [Addr.add]) (by intro u hu; simp at hu; subst hu; rfl) (by unfold maxLen; omega) (by omega) (by simp; omega)
  unfold Oper.wp execOp
  simp only [ho, resolve, invoke, builtin, Sem.run_bind, Sem.run_pure, Result.andThen_ok, List.map_toArray, List.map_cons, List.map_nil, hs, hx, hrun]
  refine hK _ _ (h v' w' ?_ h3 (by simpa using h5))
  unfold OwnI
  rw [valsI_snoc]
  simpa using h2
end
end Go.Proofs.Ytgiokjflfadeeaa
