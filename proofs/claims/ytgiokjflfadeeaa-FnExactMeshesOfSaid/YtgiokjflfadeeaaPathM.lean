/-
  A map from junctions to distances: the laws at its operations.
-/
import Derived.Test.YtgiokjflfadeeaaPathQ
namespace Go.Proofs.Ytgiokjflfadeeaa
open Go.RowKit Go.Maps
set_option linter.unusedVariables false

theorem mkeyed : Keyed Try.prog 2 := int_keyed Try.underlying2
theorem mzero (w : World) : (zeroValue 3).run Try.prog w = .ok (.int .i64 0) w := by kernel_rfl
theorem key_wf {q : Int} (h : -1048576 ≤ q ∧ q ≤ 1048576) : (Lit.int .i64 q).wf = true := by
  have h1 : IntKind.i64.min = -9223372036854775808 := by decide
  have h2 : IntKind.i64.max = 9223372036854775807 := by decide
  show (decide (IntKind.i64.min ≤ q) && decide (q ≤ IntKind.i64.max)) = true
  rw [h1, h2, decide_eq_true (by omega), decide_eq_true (by omega)]
  rfl
theorem key_lit (q : Int) : WideAt.IsKeyLit (.int .i64 q) := trivial
theorem key_of {q : Int} (h : -1048576 ≤ q ∧ q ≤ 1048576) : keyOf Try.prog 2 (.int .i64 q) = some (.int .i64 q) := keyOf_int_mk Try.underlying2 (key_wf h)
def MapF (D : DataW Unit) (J : Nat) (F : Nat → Int) : Prop :=
  IsMap D ∧ ∀ b, b < J → Maps.has D (.int .i64 (b : Int)) = decide (0 ≤ F b) ∧ (0 ≤ F b → D.atKey (.int .i64 (b : Int)) (.lit (.int .i64 0)) = .lit (.int .i64 (F b)))
theorem MapF.start (J : Nat) : MapF (.map []) J (fun _ => -1) := ⟨isMap_empty, fun b hb => ⟨rfl, fun h => absurd h (by simp)⟩⟩
theorem MapF.put {D : DataW Unit} {J v : Nat} {F : Nat → Int} {x : Int} (h : MapF D J F) (hx : 0 ≤ x) : MapF (D.put (.int .i64 (v : Int)) (.lit (.int .i64 x))) J (setF F v x) := by
  refine ⟨h.1.put _ _, fun b hb => ?_⟩
  by_cases e : b = v
  · subst e
    rw [setF_same]
    exact ⟨by rw [has_put_same h.1 (key_lit _)]; simp [hx], fun _ => atKey_put_same h.1 (key_lit _) _ _⟩
  · have hne : (Lit.int .i64 (b : Int)) ≠ .int .i64 (v : Int) := fun e2 => e (by injection e2 with _ e3; omega)
    rw [setF_other F x e]
    exact ⟨by rw [has_put_other hne]; exact (h.2 b hb).1, fun h0 => by rw [atKey_put_other hne]; exact (h.2 b hb).2 h0⟩
def MapIs (w : World) (mb J cnt : Nat) (F : Nat → Int) : Prop := ∃ D : DataW Unit, w.ownsMap Try.prog 2 (plainElem Try.prog 3) mb cnt D ∧ MapF D J F
theorem MapIs.made (w : World) (J : Nat) : MapIs (w.alloc (.map #[] 0)) w.heap.size J 0 (fun _ => -1) := ⟨_, World.ownsMap_made _ _ _ _, MapF.start J⟩
theorem MapIs.kept {w w' : World} {mb J cnt : Nat} {F : Nat → Int} {row : Option Nat} (h : MapIs w mb J cnt F) (hg : w.grownBy w' row) (hr : ∀ g, row = some g → mb < g) : MapIs w' mb J cnt F := by
  obtain ⟨D, h1, h2⟩ := h
  exact ⟨D, h1.kept hg (fun e => by have := hr mb e.symm; omega), h2⟩
theorem MapIs.below {w w' : World} {mb J cnt : Nat} {F : Nat → Int} (h : MapIs w mb J cnt F) (hb : Below w.heap.size w w') : MapIs w' mb J cnt F := h.kept (grown_of_below hb) (fun g e => by cases e)
theorem MapIs.alloc {w : World} {mb J cnt : Nat} {F : Nat → Int} (h : MapIs w mb J cnt F) (o : Obj) : MapIs (w.alloc o) mb J cnt F := h.kept (World.grownBy_alloc w o none) (fun g e => by cases e)
theorem MapIs.drewN {w : World} {mb J cnt : Nat} {F : Nat → Int} (h : MapIs w mb J cnt F) (n : Nat) : MapIs (w.drewN n) mb J cnt F := h
theorem MapIs.lt {w : World} {mb J cnt : Nat} {F : Nat → Int} (h : MapIs w mb J cnt F) : mb < w.heap.size := by
  obtain ⟨D, h1, _⟩ := h
  exact h1.lt

section
variable {ops : Array Oper} {rest : List Oper} {o : Oper} {a : Act} {Q : Exit → Act → World → Prop}
theorem lookq_ok (hgd : o.guard = none) (m x : Operand) (ho : o.op = .lookup 86 m x true) (W : World) (mb J cnt : Nat) (F : Nat → Int) (hm : a.eval m = .map (some mb)) (hmap : MapIs W mb J cnt F)
    (q : Int) (b : Nat) (hx : a.eval x = .int .i64 q) (hq : q = (b : Int)) (hb : b < J) (hJ : J ≤ 16) (r : Bool) (hr : decide (0 ≤ F b) = r)
    (h : ∀ c : Int, wpList Try.prog ops Q rest (a.put o.dst (.tuple #[.int .i64 c, .bool r])) W) :
    wpList Try.prog ops Q (o :: rest) a W := by
  obtain ⟨D, h1, h2⟩ := hmap
  subst hq
  refine wpList_lookup_own_ok_int W hgd m x 86 ho 2 3 .i64 mkeyed Try.underlying86 Try.underlying3 (mzero W) mb cnt D hm h1 _ _ hx (key_of (by omega)) ?_
  intro c hc hwc
  rw [(h2.2 b hb).1, hr]
  exact h c
theorem lookq (hgd : o.guard = none) (m x : Operand) (ho : o.op = .lookup 86 m x false) (W : World) (mb J cnt : Nat) (F : Nat → Int) (hm : a.eval m = .map (some mb)) (hmap : MapIs W mb J cnt F)
    (q : Int) (b : Nat) (hx : a.eval x = .int .i64 q) (hq : q = (b : Int)) (hb : b < J) (hJ : J ≤ 16) (p : Int) (hp : F b = p) (h0 : 0 ≤ p)
    (h : wpList Try.prog ops Q rest (a.put o.dst (.int .i64 p)) W) :
    wpList Try.prog ops Q (o :: rest) a W := by
  obtain ⟨D, h1, h2⟩ := hmap
  subst hq
  subst hp
  refine wpList_lookup_own_int W hgd m x 86 ho 2 3 .i64 mkeyed Try.underlying86 Try.underlying3 (mzero W) mb cnt D hm h1 _ _ hx (key_of (by omega)) ?_
  intro c hc hwc
  rw [(h2.2 b hb).2 h0] at hc
  injection hc with hc
  injection hc with _ hc
  subst hc
  exact h
theorem look_run {W : World} {mb J cnt : Nat} {F : Nat → Int} (hmap : MapIs W mb J cnt F) {b : Nat} (hb : b < J) (hJ : J ≤ 16) {p : Int} (hp : F b = p) (h0 : 0 ≤ p) :
    (Instr.lookup 86 (.map (some mb)) (.int .i64 (b : Int)) false).run Try.prog W = .ok (.int .i64 p) W := by
  obtain ⟨D, h1, h2⟩ := hmap
  subst hp
  obtain ⟨c, hrun, hc, _⟩ := h1.lookup_int mkeyed Try.underlying86 Try.underlying3 (mzero W) (key_of (q := (b : Int)) (by omega))
  rw [(h2.2 b hb).2 h0] at hc
  injection hc with hc
  injection hc with _ hc
  rw [hrun, hc]
theorem storeq (hgd : o.guard = none) (m x v : Operand) (ho : o.op = .mapUpdate 86 m x v) (W : World) (mb J cnt : Nat) (F : Nat → Int) (hm : a.eval m = .map (some mb)) (hmap : MapIs W mb J cnt F) (hcnt : cnt ≤ 1048576)
    (q : Int) (b : Nat) (hx : a.eval x = .int .i64 q) (hq : q = (b : Int)) (hb : b < J) (hJ : J ≤ 16) (p : Int) (hv : a.eval v = .int .i64 p) (hp : 0 ≤ p ∧ p ≤ 1048576)
    (h : ∀ w', MapIs w' mb J (cnt + 1) (setF F b p) → W.grownBy w' (some mb) → wpList Try.prog ops Q rest (a.put o.dst undef) w') :
    wpList Try.prog ops Q (o :: rest) a W := by
  obtain ⟨D, h1, h2⟩ := hmap
  subst hq
  refine wpList_mapUpdate_own W hgd m x v 86 ho 2 3 mkeyed Try.underlying86 _ mb cnt D hm h1 (by unfold maxLen; omega) _ _ _ hx hv (key_of (by omega)) _ [] (plainElem_int Try.underlying3 (key_wf (by omega))) ?_
  intro w' h3 h4
  exact h w' ⟨_, h3, h2.put hp.1⟩ h4
theorem insertq (hgd : o.guard = none) (m x v : Operand) (ho : o.op = .insert 86 m x v) (W : World) (mb J cnt : Nat) (F : Nat → Int) (hm : a.eval m = .map (some mb)) (hmap : MapIs W mb J cnt F) (hcnt : cnt ≤ 1048576)
    (q : Int) (b : Nat) (hx : a.eval x = .int .i64 q) (hq : q = (b : Int)) (hb : b < J) (hJ : J ≤ 16) (p : Int) (hv : a.eval v = .int .i64 p) (hp : 0 ≤ p ∧ p ≤ 1048576)
    (h : ∀ w', MapIs w' mb J (cnt + 1) (setF F b p) → W.grownBy w' (some mb) → wpList Try.prog ops Q rest (a.put o.dst undef) w') :
    wpList Try.prog ops Q (o :: rest) a W := by
  obtain ⟨D, h1, h2⟩ := hmap
  subst hq
  refine wpList_plain hgd fun K' hK' => ?_
  obtain ⟨w', hrun, r1, r2⟩ := h1.update mkeyed Try.underlying86 (by unfold maxLen; omega) (key_of (q := (b : Int)) (by omega)) (plainElem_int (H := Unit) (P := Try.prog) Try.underlying3 (key_wf (q := p) (by omega)))
  unfold Oper.wp execOp
  simp only [ho, Sem.run_bind, Sem.run_pure, Result.andThen_ok, hm, hx, hv, hrun]
  exact hK' _ _ (h w' ⟨_, r1, h2.put hp.1⟩ r2)
end
end Go.Proofs.Ytgiokjflfadeeaa
