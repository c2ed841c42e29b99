/-
  Slices of airways that a call has built by append: what they read as, how they grow.
-/
import Derived.Test.YtgiokjflfadeeaaAirs
import Derived.Test.YtgiokjflfadeeaaOwn
import Derived.Deep.Onto
import Derived.Test.YtgiokjflfadeeaaNum
import Derived.RowKit3
import Derived.ProofKit
import Derived.OpenShut
import Derived.Lib.SmallJoins
namespace Go.Proofs.Ytgiokjflfadeeaa
open Go.RowKit
set_option linter.unusedVariables false

def valsA (xs : List AW) : List Value := xs.flatMap fieldsA
theorem fieldsA_len (x : AW) : (fieldsA x).length = 7 := rfl
theorem valsA_len (xs : List AW) : (valsA xs).length = xs.length * 7 := by
  induction xs with
  | nil => rfl
  | cons x t ih => show (fieldsA x ++ valsA t).length = _; rw [List.length_append, ih, fieldsA_len, List.length_cons]; omega
theorem valsA_at (xs : List AW) (k i : Nat) (hk : k < xs.length) (hi : i < 7) : (valsA xs)[k * 7 + i]? = (fieldsA (atA xs k))[i]? := by
  induction xs generalizing k with
  | nil => simp at hk
  | cons x t ih =>
    show (fieldsA x ++ valsA t)[k * 7 + i]? = _
    cases k with
    | zero =>
      rw [List.getElem?_append_left (by rw [fieldsA_len]; omega)]
      simp [atA]
    | succ k =>
      rw [List.getElem?_append_right (by rw [fieldsA_len]; omega), fieldsA_len]
      have e : (k + 1) * 7 + i - 7 = k * 7 + i := by omega
      rw [e, ih k (by simpa using hk)]
      simp [atA]
def OwnA (w : World) (B : Nat) (v : Value) (xs : List AW) : Prop := w.ownsRow B 51 7 v xs.length (valsA xs)
theorem OwnA.nil (w : World) (B : Nat) : OwnA w B (.slice none 0 0) [] := World.ownsRow_nil _ _ _ _
theorem OwnA.kept {w w' : World} {B : Nat} {v : Value} {xs : List AW} {row : Option Nat} (h : OwnA w B v xs) (hg : w.grownBy w' row) (hne : v.ownBlock = none ∨ v.ownBlock ≠ row) : OwnA w' B v xs := World.ownsRow.kept h hg hne
theorem OwnA.alloc {w : World} {B : Nat} {v : Value} {xs : List AW} (h : OwnA w B v xs) (o : Obj) : OwnA (w.alloc o) B v xs := World.ownsRow.alloc h o
theorem OwnA.lt {w : World} {B : Nat} {v : Value} {xs : List AW} (h : OwnA w B v xs) {g : Nat} (hg : v.ownBlock = some g) : B ≤ g ∧ g < w.heap.size := World.ownsRow.lt h g hg
theorem OwnA.mono {w : World} {B B' : Nat} {v : Value} {xs : List AW} (h : OwnA w B v xs) (hb : B' ≤ B) : OwnA w B' v xs := World.ownsRow.mono h hb
theorem OwnA.below {w w' : World} {B : Nat} {v : Value} {xs : List AW} (h : OwnA w B v xs) (hb : Below w.heap.size w w') : OwnA w' B v xs := by
  refine h.kept (grown_of_below hb) ?_
  cases v.ownBlock with
  | none => exact .inl rfl
  | some g => exact .inr (by simp)
theorem OwnA.set {w : World} {B M : Nat} {v x : Value} {o : Nat} {xs : List AW} (h : OwnA w B v xs) (hM : M < B) : OwnA (w.setCell ⟨M, o, none⟩ x) B v xs := by
  refine h.kept (row := some M) ⟨rfl, rfl, rfl, by simp, fun k hk hne => Below.heap_setCell w _ x k (by simpa using hne)⟩ ?_
  cases hv : v.ownBlock with
  | none => exact .inl rfl
  | some g => exact .inr (fun e => by injection e with e; have := (h.lt hv).1; omega)
theorem OwnA.reads {w : World} {B : Nat} {v : Value} {xs : List AW} (h : OwnA w B v xs) :
    ∃ A c, v = .slice A xs.length c ∧ Airs w A xs := by
  unfold OwnA at h
  rcases h.2 with ⟨hv, h0⟩ | ⟨g, cap, cur, hv, hbg, hh, hnc, hcm, hsz, htake⟩
  · have : xs = [] := List.eq_nil_of_length_eq_zero h0
    subst this
    exact ⟨none, 0, hv, .inl rfl⟩
  · subst hv
    refine ⟨some ⟨g, 0, none⟩, cap, rfl, .inr ⟨g, 0, rfl, (World.ownsRow.lt h g rfl).2, fun k hk => ?_⟩⟩
    have hc : ∀ i, i < 7 → w.cell? ⟨g, k * 7 + i, none⟩ = (fieldsA (atA xs k))[i]? := fun i hi => by
      rw [h.cellAt (k * 7 + i) (by omega), valsA_at xs k i hk hi]
    rw [Nat.zero_add]
    exact ⟨hc 0 (by omega), hc 1 (by omega), hc 2 (by omega), hc 3 (by omega), hc 4 (by omega), hc 5 (by omega), hc 6 (by omega)⟩
theorem OwnA.block {w : World} {B : Nat} {v : Value} {xs : List AW} (h : OwnA w B v xs) (h0 : 0 < xs.length) :
    ∃ g c cur, v = .slice (some ⟨g, 0, none⟩) xs.length c ∧ B ≤ g ∧ g < w.heap.size ∧ w.heap[g]? = some (.cells cur 51 (0, 0)) ∧ xs.length * 7 ≤ cur.size := by
  unfold OwnA at h
  rcases h.2 with ⟨hv, h0⟩ | ⟨g, cap, cur, hv, hbg, hh, hnc, hcm, hsz, htake⟩
  · omega
  · subst hv
    exact ⟨g, cap, cur, rfl, hbg, (World.ownsRow.lt h g rfl).2, hh, by omega⟩
section
variable {ops : Array Oper} {rest : List Oper} {o : Oper} {a : Act} {Q : Exit → Act → World → Prop}
theorem push_air (hgd : o.guard = none) (s x : Operand)
    (ho : o.op = .call { callee := .builtin .append, args := #[s, x], argTypes := #[26, 26] })
    (W : World) (B : Nat) (v : Value) (xs : List AW) (z : AW) (hs : a.eval s = v) (hown : OwnA W B v xs) (gw : Nat) (hx0 : a.eval x = .slice (some ⟨gw, 0, none⟩) 1 1) (hgw : gw = W.heap.size)
    (h40 : xs.length < 1099511627776) (hB : B ≤ W.heap.size)
    (h : ∀ v' w', OwnA w' B v' (xs ++ [z]) → (W.alloc (.cells #[.string z.a, .int .i64 z.u, .int .i64 z.v, .int .i64 z.l, .int .i64 z.s, .int .i64 z.f, .int .i64 z.k] 51)).grownBy w' v.ownBlock → (v'.ownBlock = v.ownBlock ∨ v'.ownBlock = some (W.heap.size + 1)) → wpList Try.prog ops Q rest (a.put o.dst v') w') :
    wpList Try.prog ops Q (o :: rest) a (W.alloc (.cells #[.string z.a, .int .i64 z.u, .int .i64 z.v, .int .i64 z.l, .int .i64 z.s, .int .i64 z.f, .int .i64 z.k] 51)) := by
  have hx : a.eval x = .slice (some ⟨W.heap.size, 0, none⟩) 1 1 := by rw [← hgw]; exact hx0
  refine wpList_plain hgd fun K hK => ?_
  obtain ⟨i, hi, hz0, hz1, hz2⟩ := info_parts info_a
  obtain ⟨v', w', hrun, h2, h3, _, h5⟩ := run_append_own_at (P := Try.prog) (W.alloc (.cells #[.string z.a, .int .i64 z.u, .int .i64 z.v, .int .i64 z.l, .int .i64 z.s, .int .i64 z.f, .int .i64 z.k] 51)) B 26 o.type 51 i (.agg #[.string ⟨#[]⟩, .int .i64 0, .int .i64 0, .int .i64 0, .int .i64 0, .int .i64 0, .int .i64 0]) 7 64 Try.underlying26 hi hz0 hz1 hz2 rfl (by decide) v xs.length (valsA xs) (hown.alloc _)
    ⟨W.heap.size, 0, none⟩ 1 1 (fieldsA z) rfl (by
      intro j u hj
      match j, hj with
      | 0, hj | 1, hj | 2, hj | 3, hj | 4, hj | 5, hj | 6, hj => simp [fieldsA] at hj; subst hj; simp [Addr.add]
      | j + 7, hj => simp [fieldsA] at hj) (by intro u hu; simp [fieldsA] at hu; rcases hu with rfl | rfl | rfl | rfl | rfl | rfl | rfl <;> rfl) (by unfold maxLen; omega) (by omega) (by simp; omega)
  unfold Oper.wp execOp
  simp only [ho, resolve, invoke, builtin, Sem.run_bind, Sem.run_pure, Result.andThen_ok, List.map_toArray, List.map_cons, List.map_nil, hs, hx, hrun]
  refine hK _ _ (h v' w' ?_ h3 (by simpa using h5))
  unfold OwnA
  have e : valsA (xs ++ [z]) = valsA xs ++ fieldsA z := by simp [valsA]
  rw [e]
  simpa using h2
end
end Go.Proofs.Ytgiokjflfadeeaa
