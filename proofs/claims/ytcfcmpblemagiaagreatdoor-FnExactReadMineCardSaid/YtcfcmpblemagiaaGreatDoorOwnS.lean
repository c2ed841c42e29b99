/-
  Rows of strings that the call itself made: appended to, read again.
-/
import Derived.Test.YtcfcmpblemagiaaGreatDoorOwnB
namespace Go.Proofs.YtcfcmpblemagiaaGreatDoor
open Go.RowKit
set_option linter.unusedVariables false

def atS (xs : List ByteArray) (k : Nat) : ByteArray := xs.getD k ByteArray.empty
theorem atS_is (xs : List ByteArray) (k : Nat) (h : k < xs.length) : atS xs k = xs[k] := by simp [atS, h]
def valsS (xs : List ByteArray) : List Value := xs.map Value.string
def OwnS (w : World) (B : Nat) (v : Value) (xs : List ByteArray) : Prop := w.ownsRow B 9 1 v xs.length (valsS xs)
theorem OwnS.lit (w : World) (B : Nat) (hB : B ≤ w.heap.size) : OwnS (w.alloc (.cells #[] 9)) B (.slice (some ⟨w.heap.size, 0, none⟩) 0 0) [] :=
  World.ownsRow_lit w #[] 0 hB (by simp [maxLen]) (by simp)
theorem OwnS.nil (w : World) (B : Nat) : OwnS w B (.slice none 0 0) [] := World.ownsRow_nil _ _ _ _
theorem OwnS.kept {w w' : World} {B : Nat} {v : Value} {xs : List ByteArray} {row : Option Nat} (h : OwnS w B v xs) (hg : w.grownBy w' row) (hne : v.ownBlock = none ∨ v.ownBlock ≠ row) : OwnS w' B v xs := World.ownsRow.kept h hg hne
theorem OwnS.alloc {w : World} {B : Nat} {v : Value} {xs : List ByteArray} (h : OwnS w B v xs) (o : Obj) : OwnS (w.alloc o) B v xs := World.ownsRow.alloc h o
theorem OwnS.lt {w : World} {B : Nat} {v : Value} {xs : List ByteArray} (h : OwnS w B v xs) {g : Nat} (hg : v.ownBlock = some g) : B ≤ g ∧ g < w.heap.size := World.ownsRow.lt h g hg
theorem OwnS.below {w w' : World} {B : Nat} {v : Value} {xs : List ByteArray} (h : OwnS w B v xs) (hb : Below w.heap.size w w') : OwnS w' B v xs := by
  refine h.kept (grown_of_below hb) ?_
  cases v.ownBlock with
  | none => exact .inl rfl
  | some g => exact .inr (by simp)
/-- what a slice of strings reads as -/
def Strs (w : World) (A : Option Addr) (xs : List ByteArray) : Prop :=
  xs = [] ∨ ∃ b off, A = some ⟨b, off, none⟩ ∧ b < w.heap.size ∧ ∀ k, k < xs.length → w.cell? ⟨b, off + k, none⟩ = some (.string (atS xs k))
theorem Strs.next {w w' : World} {A : Option Addr} {xs : List ByteArray} (h : Strs w A xs) (hb : Below w.heap.size w w') : Strs w' A xs := by
  rcases h with h | ⟨b, off, h1, h2, h3⟩
  · exact .inl h
  · exact .inr ⟨b, off, h1, Nat.lt_of_lt_of_le h2 hb.size, fun k hk => (hb.cell (by simpa using h2)).trans (h3 k hk)⟩
theorem Strs.at_ {w : World} {A : Option Addr} {xs : List ByteArray} (h : Strs w A xs) {k : Nat} (hk : k < xs.length) :
    ∃ b off, A = some ⟨b, off, none⟩ ∧ b < w.heap.size ∧ w.cell? ⟨b, off + k, none⟩ = some (.string (atS xs k)) := by
  rcases h with h | ⟨b, off, h1, h2, h3⟩
  · rw [h] at hk; simp at hk
  · exact ⟨b, off, h1, h2, h3 k hk⟩
theorem OwnS.reads {w : World} {B : Nat} {v : Value} {xs : List ByteArray} (h : OwnS w B v xs) :
    ∃ A c, v = .slice A xs.length c ∧ xs.length ≤ c ∧ Strs w A xs := by
  unfold OwnS at h
  rcases h.2 with ⟨hv, h0⟩ | ⟨g, cap, cur, hv, hbg, hh, hnc, hcm, hsz, htake⟩
  · have : xs = [] := List.eq_nil_of_length_eq_zero h0
    subst this
    exact ⟨none, 0, hv, Nat.le_refl _, .inl rfl⟩
  · subst hv
    refine ⟨some ⟨g, 0, none⟩, cap, rfl, hnc, .inr ⟨g, 0, rfl, (World.ownsRow.lt h g rfl).2, fun k hk => ?_⟩⟩
    rw [Nat.zero_add, h.cellAt k (by omega)]
    simp [valsS, hk, atS_is]
theorem info_s : (Tryz.prog.info? 9).map (fun i => (i.zero, i.size, i.bytes)) = some (some (.string ⟨#[]⟩), 1, 16) := by kernel_rfl
theorem mk_strs (n : Nat) (hn : n ≤ 1048576) (w : World) : ∃ cur, cur.size = n * 1 ∧ (Instr.makeSlice 30 (.int .i64 0) (.int .i64 (n : Int))).run Tryz.prog w = .ok (.slice (some ⟨w.heap.size, 0, none⟩) 0 n) (w.alloc (.cells cur 9)) := by
  obtain ⟨i, hi, hz⟩ := Option.map_eq_some_iff.1 info_s
  simp only [Prod.mk.injEq] at hz
  obtain ⟨hz0, hz1, hz2⟩ := hz
  have h := run_make (P := Tryz.prog) w 30 9 i _ Tryz.underlying30 hi hz0 .i64 .i64 0 (n : Int) (by omega) (by omega) (by rw [hz2]; omega) (by omega)
  refine ⟨_, ?_, by simpa [hz1] using h⟩
  simp [size_madeCells]
section
variable {ops : Array Oper} {rest : List Oper} {o : Oper} {a : Act} {Q : Exit → Act → World → Prop}
theorem push_str (hgd : o.guard = none) (s x : Operand)
    (ho : o.op = .call { callee := .builtin .append, args := #[s, x], argTypes := #[30, 30] })
    (W : World) (B : Nat) (v : Value) (xs : List ByteArray) (z : ByteArray) (hs : a.eval s = v) (hown : OwnS W B v xs) (hx : a.eval x = .slice (some ⟨W.heap.size, 0, none⟩) 1 1)
    (h40 : xs.length < 1099511627776) (hB : B ≤ W.heap.size)
    (h : ∀ v' w', OwnS w' B v' (xs ++ [z]) → (W.alloc (.cells #[.string z] 9)).grownBy w' v.ownBlock → (v'.ownBlock = v.ownBlock ∨ v'.ownBlock = some (W.heap.size + 1)) → wpList Tryz.prog ops Q rest (a.put o.dst v') w') :
    wpList Tryz.prog ops Q (o :: rest) a (W.alloc (.cells #[.string z] 9)) := by
  refine wpList_plain hgd fun K hK => ?_
  obtain ⟨i, hi, hz0, hz1, hz2⟩ := info_parts info_s
  obtain ⟨v', w', hrun, h2, h3, _, h5⟩ := run_append_own_at (P := Tryz.prog) (W.alloc (.cells #[.string z] 9)) B 30 o.type 9 i (.string ⟨#[]⟩) 1 16 Tryz.underlying30 hi hz0 hz1 hz2 rfl (by decide) v xs.length (valsS xs) (hown.alloc _)
    ⟨W.heap.size, 0, none⟩ 1 1 [.string z] rfl (by
      intro j u hj
      match j, hj with
      | 0, hj => simp at hj; subst hj; simp [Addr.add]) (by intro u hu; simp at hu; subst hu; rfl) (by unfold maxLen; omega) (by omega) (by simp; omega)
  unfold Oper.wp execOp
  simp only [ho, resolve, invoke, builtin, Sem.run_bind, Sem.run_pure, Result.andThen_ok, List.map_toArray, List.map_cons, List.map_nil, hs, hx, hrun]
  refine hK _ _ (h v' w' ?_ h3 (by simpa using h5))
  unfold OwnS
  have e : valsS (xs ++ [z]) = valsS xs ++ [.string z] := by simp [valsS]
  rw [e]
  simpa using h2
end
end Go.Proofs.YtcfcmpblemagiaaGreatDoor
