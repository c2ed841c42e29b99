/-
  Results that are a mine by value: the result's cell, the cell of a mine that is being built.
-/
import Derived.Test.YtgiokjflfadeeaaOwnC
import Derived.Test.YtgiokjflfadeeaaFind
import Derived.Test.YtgiokjflfadeeaaNum
import Derived.RowKit3
import Derived.ProofKit
import Derived.OpenShut
import Derived.Lib.SmallJoins
namespace Go.Proofs.Ytgiokjflfadeeaa
open Go.RowKit
set_option linter.unusedVariables false

def MinePost (j : Int) (xs : List AW) (cd : Int) (w : World) (e : Ending) (w' : World) : Prop :=
  ∃ v, e = .returned (.tuple #[.agg #[.int .i64 j, v], .int .i64 cd]) ∧ OwnA w' w.heap.size v xs ∧ Below w.heap.size w w'
theorem mine_ret {j j' : Int} {xs xs' : List AW} {cd cd' : Int} {v : Value} {w w' : World} (h : j' = j ∧ xs' = xs ∧ cd' = cd) (ho : OwnA w' w.heap.size v xs) (hb : Below w.heap.size w w') :
    MinePost j' xs' cd' w (.returned (.tuple #[.agg #[.int .i64 j, v], .int .i64 cd])) w' := by
  obtain ⟨rfl, rfl, rfl⟩ := h
  exact ⟨v, rfl, ho, hb⟩
/-- the result cell of a mine -/
structure ResM (w : World) (g : Nat) : Prop where
  r0 : ∃ x, w.cell? ⟨g, 0, none⟩ = some x
  r1 : ∃ x, w.cell? ⟨g, 1, none⟩ = some x
  fz : ∀ o, w.frozen? ⟨g, o, none⟩ = false
theorem ResM.next {w w' : World} {g : Nat} (h : ResM w g) (hb : Below w.heap.size w w') : ResM w' g := by
  obtain ⟨⟨x0, h0⟩, ⟨x1, h1⟩, hf⟩ := h
  have hg : g < w.heap.size := World.block_lt_of_cell? w _ h0
  exact ⟨⟨x0, (hb.cell hg).trans h0⟩, ⟨x1, (hb.cell hg).trans h1⟩, fun o => (hb.frozen (p := ⟨g, o, none⟩) hg).trans (hf o)⟩
theorem resM_new (w : World) (t : TypeId) : ResM (w.alloc (.cells #[.int .i64 0, .slice none 0 0] t)) w.heap.size :=
  ⟨⟨.int .i64 0, by simp [go_sem]⟩, ⟨.slice none 0 0, by simp [go_sem]⟩, fun o => by simp [go_sem]⟩
theorem mcells2 {w : World} {b : Nat} {v0 v1 x0 x1 : Value} (h0 : w.cell? ⟨b, 0, none⟩ = some x0) (h1 : w.cell? ⟨b, 1, none⟩ = some x1) :
    (w.setCell ⟨b, 0, none⟩ v0).cell? ⟨b, 0, none⟩ = some v0 ∧ ((w.setCell ⟨b, 0, none⟩ v0).setCell ⟨b, 1, none⟩ v1).cell? ⟨b, 1, none⟩ = some v1 := by
  obtain ⟨y1, e1⟩ := cell?_setCell_some (p := ⟨b, 0, none⟩) (x := v0) h1
  exact ⟨World.cell?_setCell_same _ _ _ h0, World.cell?_setCell_same _ _ _ e1⟩
theorem set2_below {B : Nat} {w w' : World} {g : Nat} {v0 v1 : Value} (h : Below B w w') (hg : B ≤ g) : Below B w ((w'.setCell ⟨g, 0, none⟩ v0).setCell ⟨g, 1, none⟩ v1) := (h.setCell hg _).setCell hg _
/-- the cell of a mine -/
structure MC (w : World) (g : Nat) (j : Int) (v : Value) : Prop where
  c0 : w.cell? ⟨g, 0, none⟩ = some (.int .i64 j)
  c1 : w.cell? ⟨g, 1, none⟩ = some v
theorem mc_new (w : World) (j : Int) (v : Value) (t : TypeId) : MC (w.alloc (.cells #[.int .i64 j, v] t)) w.heap.size j v := ⟨by simp [go_sem], by simp [go_sem]⟩
theorem MC.next {w w' : World} {g : Nat} {j : Int} {v : Value} (h : MC w g j v) (hb : Below w.heap.size w w') : MC w' g j v :=
  ⟨(hb.cell (World.block_lt_of_cell? w _ h.c0)).trans h.c0, (hb.cell (World.block_lt_of_cell? w _ h.c1)).trans h.c1⟩
theorem MC.kept {w w' : World} {g : Nat} {j : Int} {v : Value} {r : Option Nat} (h : MC w g j v) (hg : w.grownBy w' r) (hr : some g ≠ r) : MC w' g j v := by
  have e : w'.heap[g]? = w.heap[g]? := hg.block g (World.block_lt_of_cell? w _ h.c0) hr
  have hc : ∀ o, w'.cell? ⟨g, o, none⟩ = w.cell? ⟨g, o, none⟩ := fun o => by unfold World.cell?; rw [e]
  exact ⟨(hc 0).trans h.c0, (hc 1).trans h.c1⟩
theorem own_row {w : World} {B n c : Nat} {A : Option Addr} {xs : List AW} (h : OwnA w B (.slice A n c) xs) : ∀ g, A.map (·.block) = some g → B ≤ g ∧ g < w.heap.size := fun g e => by
  cases A with
  | none => cases e
  | some a => exact h.lt e
/-- the cell of a mine whose row of airways grows -/
structure MSt (w0 : World) (g : Nat) (wr : World) (j : Int) (v : Value) (xs : List AW) : Prop where
  bel : Below w0.heap.size w0 wr
  le : w0.heap.size ≤ g
  lt : g < wr.heap.size
  c0 : wr.cell? ⟨g, 0, none⟩ = some (.int .i64 j)
  c1 : wr.cell? ⟨g, 1, none⟩ = some v
  fz : ∀ o, wr.frozen? ⟨g, o, none⟩ = false
  own : OwnA wr w0.heap.size v xs
  ne : v.ownBlock ≠ some g
theorem mst_lit (w0 : World) (j : Int) (t : TypeId) : MSt w0 (w0.heap.size + 1) ((w0.alloc (.cells #[] 51)).alloc (.cells #[.int .i64 j, .slice (some ⟨w0.heap.size, 0, none⟩) 0 0] t)) j (.slice (some ⟨w0.heap.size, 0, none⟩) 0 0) [] :=
  ⟨((Below.refl _ _).alloc (Nat.le_refl _) _).alloc (by simp) _, by omega, by simp, by simp [go_sem], by simp [go_sem], fun o => by simp [go_sem], (OwnA.lit0 w0 _ (Nat.le_refl _)).alloc _, by intro e; simp [Value.ownBlock] at e⟩
theorem MSt.next {w0 wr w1 : World} {g : Nat} {j : Int} {v : Value} {xs : List AW} (h : MSt w0 g wr j v xs) (hb : Below wr.heap.size wr w1) : MSt w0 g w1 j v xs :=
  ⟨stepB h.bel hb, h.le, Nat.lt_of_lt_of_le h.lt hb.size, (hb.cell h.lt).trans h.c0, (hb.cell h.lt).trans h.c1, fun o => (hb.frozen (p := ⟨g, o, none⟩) h.lt).trans (h.fz o), h.own.below hb, h.ne⟩
theorem MSt.push {w0 wr w4 : World} {g : Nat} {j : Int} {v v' : Value} {xs xs' : List AW} (h : MSt w0 g wr j v xs) (hg : wr.grownBy w4 v.ownBlock) (ho : OwnA w4 w0.heap.size v' xs') (hne : v'.ownBlock ≠ some g) :
    w4.cell? ⟨g, 1, none⟩ = some v ∧ (∀ o, w4.frozen? ⟨g, o, none⟩ = false) ∧ MSt w0 g (w4.setCell ⟨g, 1, none⟩ v') j v' xs' := by
  have hbl : w4.heap[g]? = wr.heap[g]? := hg.block g h.lt (fun e => h.ne e.symm)
  have hc : ∀ o, w4.cell? ⟨g, o, none⟩ = wr.cell? ⟨g, o, none⟩ := fun o => by unfold World.cell?; rw [hbl]
  have hf : ∀ o, w4.frozen? ⟨g, o, none⟩ = false := fun o => by
    have := h.fz o
    unfold World.frozen? at this ⊢; rw [hbl]; exact this
  have e1 := (hc 1).trans h.c1
  have e0 := (hc 0).trans h.c0
  refine ⟨e1, hf, ?_⟩
  have hB4 : Below w0.heap.size w0 w4 := below_grown h.bel hg (fun k e => (h.own.lt e).1) (Nat.le_trans h.le (Nat.le_of_lt h.lt))
  refine ⟨hB4.setCell h.le _, h.le, by simpa using Nat.lt_of_lt_of_le h.lt hg.size, ?_, World.cell?_setCell_same _ _ _ e1, fun o => ?_, ?_, hne⟩
  · rw [World.cell?_setCell_other]
    · exact e0
    · simp
  · rw [World.frozen?_setCell]; exact hf o
  · refine ho.kept (row := some g) ⟨rfl, rfl, rfl, by simp, fun k hk hne => Below.heap_setCell w4 _ v' k (by simpa using hne)⟩ (.inr hne)
theorem MSt.push2 {w0 wr w4 : World} {g : Nat} {j : Int} {v v' : Value} {xs xs' : List AW} {o : Obj} (h : MSt w0 g wr j v xs) (hg : (wr.drew.alloc o).grownBy w4 v.ownBlock) (ho : OwnA w4 w0.heap.size v' xs') (hl : v'.ownBlock = v.ownBlock ∨ v'.ownBlock = some (wr.drew.heap.size + 1)) :
    w4.cell? ⟨g, 1, none⟩ = some v ∧ (∀ o, w4.frozen? ⟨g, o, none⟩ = false) ∧ MSt w0 g (w4.setCell ⟨g, 1, none⟩ v') j v' xs' ∧ Below w0.heap.size w0 w4 := by
  have hb : Below wr.heap.size wr (wr.drew.alloc o) := (Below.refl wr.heap.size wr).drew.alloc (Nat.le_refl _) _
  have hne : v'.ownBlock ≠ some g := by
    rcases hl with e | e
    · rw [e]; exact h.ne
    · rw [e]; intro e2; injection e2 with e2
      have h1 := h.lt
      have h2 : wr.drew.heap.size = wr.heap.size := rfl
      omega
  have hB4 : Below w0.heap.size w0 w4 := below_grown (stepB h.bel hb) hg (fun k e => (h.own.lt e).1) (Nat.le_trans h.le (Nat.le_trans (Nat.le_of_lt h.lt) hb.size))
  obtain ⟨h1, h2, h3⟩ := (h.next hb).push hg ho hne
  exact ⟨h1, h2, h3, hB4⟩
section
variable {ops : Array Oper} {o : Oper} {a : Act} {K : Act → World → Prop} {Q : Exit → Act → World → Prop} {E : Prop}
/-- append of one airway to an own row, as one step of a region that draws -/
theorem step_push_air (hgd : o.guard = none) (s x : Operand)
    (ho : o.op = .call { callee := .builtin .append, args := #[s, x], argTypes := #[26, 26] })
    (W : World) (B : Nat) (v : Value) (xs : List AW) (z : AW) (hs : a.eval s = v) (hown : OwnA W B v xs) (gw : Nat) (hx0 : a.eval x = .slice (some ⟨gw, 0, none⟩) 1 1) (hgw : gw = W.heap.size)
    (h40 : xs.length < 1099511627776) (hB : B ≤ W.heap.size)
    (h : ∀ v' w', OwnA w' B v' (xs ++ [z]) → (W.alloc (.cells #[.string z.a, .int .i64 z.u, .int .i64 z.v, .int .i64 z.l, .int .i64 z.s, .int .i64 z.f, .int .i64 z.k] 51)).grownBy w' v.ownBlock → (v'.ownBlock = v.ownBlock ∨ v'.ownBlock = some (W.heap.size + 1)) → K (a.put o.dst v') w') :
    if Region.wanted o (yielded ops a.tmps) = true then Oper.wp Try.prog o a (W.alloc (.cells #[.string z.a, .int .i64 z.u, .int .i64 z.v, .int .i64 z.l, .int .i64 z.s, .int .i64 z.f, .int .i64 z.k] 51)) K Q else E := by
  have hw : Region.wanted o (yielded ops a.tmps) = true := by simp [Region.wanted, hgd]
  rw [if_pos hw]
  have hx : a.eval x = .slice (some ⟨W.heap.size, 0, none⟩) 1 1 := by rw [← hgw]; exact hx0
  obtain ⟨i, hi, hz0, hz1, hz2⟩ := info_parts info_a
  obtain ⟨v', w', hrun, h2, h3, _, h5⟩ := run_append_own_at (P := Try.prog) (W.alloc (.cells #[.string z.a, .int .i64 z.u, .int .i64 z.v, .int .i64 z.l, .int .i64 z.s, .int .i64 z.f, .int .i64 z.k] 51)) B 26 o.type 51 i (.agg #[.string ⟨#[]⟩, .int .i64 0, .int .i64 0, .int .i64 0, .int .i64 0, .int .i64 0, .int .i64 0]) 7 64 Try.underlying26 hi hz0 hz1 hz2 rfl (by decide) v xs.length (valsA xs) (hown.alloc _)
    ⟨W.heap.size, 0, none⟩ 1 1 (fieldsA z) rfl (by
      intro j u hj
      match j, hj with
      | 0, hj | 1, hj | 2, hj | 3, hj | 4, hj | 5, hj | 6, hj => simp [fieldsA] at hj; subst hj; simp [Addr.add]
      | j + 7, hj => simp [fieldsA] at hj) (by intro u hu; simp [fieldsA] at hu; rcases hu with rfl | rfl | rfl | rfl | rfl | rfl | rfl <;> rfl) (by unfold maxLen; omega) (by omega) (by simp; omega)
  unfold Oper.wp
  simp only [execOp, ho, resolve, invoke, builtin, Sem.run_bind, Sem.run_pure, Result.andThen_ok, List.map_toArray, List.map_cons, List.map_nil, hs, hx, hrun]
  refine h v' w' ?_ h3 (by simpa using h5)
  unfold OwnA
  have e : valsA (xs ++ [z]) = valsA xs ++ fieldsA z := by simp [valsA]
  rw [e]
  simpa using h2
end
end Go.Proofs.Ytgiokjflfadeeaa
