/-
  Rows of bytes that the call itself made: appended to, read again, made into a string.
-/
import Derived.Test.YtcfcmpblemagiaaGreatDoorNum
import Derived.Deep.OwnRows
import Derived.Laws.OwnMore
import Derived.Maps.AppendAt
import Derived.OwnWalk
import Derived.WalkSmall
import Derived.Laws.BytesArg
namespace Go.Proofs.YtcfcmpblemagiaaGreatDoor
open Go.RowKit
set_option linter.unusedVariables false

def atN (xs : List Int) (k : Nat) : Int := xs.getD k 0
theorem atN_is (xs : List Int) (k : Nat) (h : k < xs.length) : atN xs k = xs[k] := by simp [atN, h]
theorem stepB {w w1 w2 : World} (h1 : Below w.heap.size w w1) (h2 : Below w1.heap.size w1 w2) : Below w.heap.size w w2 := h1.trans (h2.mono h1.size)
theorem grown_of_below {w w' : World} (h : Below w.heap.size w w') : w.grownBy w' none := ⟨h.os, h.tape, h.output, h.size, fun k hk _ => h.block k hk⟩
theorem below_grown {B : Nat} {w W w' : World} {row : Option Nat} (h : Below B w W) (hg : W.grownBy w' row) (hr : ∀ g, row = some g → B ≤ g) (hB : B ≤ W.heap.size) : Below B w w' :=
  h.trans ⟨hg.os, hg.tape, hg.output, hg.size, fun k hk => hg.block k (by omega) (fun e => by have := hr k e.symm; omega)⟩
def valsB (xs : List Int) : List Value := xs.map (Value.int .u8)
def OwnB (w : World) (B : Nat) (v : Value) (xs : List Int) : Prop := w.ownsRow B 5 1 v xs.length (valsB xs)
theorem OwnB.lit (w : World) (B : Nat) (hB : B ≤ w.heap.size) : OwnB (w.alloc (.cells #[] 5)) B (.slice (some ⟨w.heap.size, 0, none⟩) 0 0) [] :=
  World.ownsRow_lit w #[] 0 hB (by simp [maxLen]) (by simp)
theorem OwnB.kept {w w' : World} {B : Nat} {v : Value} {xs : List Int} {row : Option Nat} (h : OwnB w B v xs) (hg : w.grownBy w' row) (hne : v.ownBlock = none ∨ v.ownBlock ≠ row) : OwnB w' B v xs := World.ownsRow.kept h hg hne
theorem OwnB.alloc {w : World} {B : Nat} {v : Value} {xs : List Int} (h : OwnB w B v xs) (o : Obj) : OwnB (w.alloc o) B v xs := World.ownsRow.alloc h o
theorem OwnB.lt {w : World} {B : Nat} {v : Value} {xs : List Int} (h : OwnB w B v xs) {g : Nat} (hg : v.ownBlock = some g) : B ≤ g ∧ g < w.heap.size := World.ownsRow.lt h g hg
theorem OwnB.below {w w' : World} {B : Nat} {v : Value} {xs : List Int} (h : OwnB w B v xs) (hb : Below w.heap.size w w') : OwnB w' B v xs := by
  refine h.kept (grown_of_below hb) ?_
  cases v.ownBlock with
  | none => exact .inl rfl
  | some g => exact .inr (by simp)
theorem OwnB.reads {w : World} {B : Nat} {v : Value} {xs : List Int} (h : OwnB w B v xs) (h0 : 0 < xs.length) :
    ∃ g c, v = .slice (some ⟨g, 0, none⟩) xs.length c ∧ g < w.heap.size ∧ B ≤ g ∧ ∀ j, j < xs.length → w.cell? ⟨g, j, none⟩ = some (.int .u8 (atN xs j)) := by
  unfold OwnB at h
  rcases h.2 with ⟨hv, h0'⟩ | ⟨g, cap, cur, hv, hbg, hh, hnc, hcm, hsz, htake⟩
  · omega
  · subst hv
    refine ⟨g, cap, rfl, (World.ownsRow.lt h g rfl).2, hbg, fun j hj => ?_⟩
    rw [h.cellAt j (by omega)]
    simp [valsB, hj, atN_is]
theorem info_b : (Tryz.prog.info? 5).map (fun i => (i.zero, i.size, i.bytes)) = some (some (.int .u8 0), 1, 1) := by kernel_rfl
section
variable {ops : Array Oper} {rest : List Oper} {o : Oper} {a : Act} {Q : Exit → Act → World → Prop}
theorem push_byte (hgd : o.guard = none) (s x : Operand)
    (ho : o.op = .call { callee := .builtin .append, args := #[s, x], argTypes := #[73, 73] })
    (W : World) (B : Nat) (v : Value) (xs : List Int) (z : Int) (hs : a.eval s = v) (hown : OwnB W B v xs) (hx : a.eval x = .slice (some ⟨W.heap.size, 0, none⟩) 1 1)
    (h40 : xs.length < 1099511627776) (hB : B ≤ W.heap.size)
    (h : ∀ v' w', OwnB w' B v' (xs ++ [z]) → (W.alloc (.cells #[.int .u8 z] 5)).grownBy w' v.ownBlock → (v'.ownBlock = v.ownBlock ∨ v'.ownBlock = some (W.heap.size + 1)) → wpList Tryz.prog ops Q rest (a.put o.dst v') w') :
    wpList Tryz.prog ops Q (o :: rest) a (W.alloc (.cells #[.int .u8 z] 5)) := by
  refine wpList_plain hgd fun K hK => ?_
  obtain ⟨i, hi, hz0, hz1, hz2⟩ := info_parts info_b
  obtain ⟨v', w', hrun, h2, h3, _, h5⟩ := run_append_own_at (P := Tryz.prog) (W.alloc (.cells #[.int .u8 z] 5)) B 73 o.type 5 i (.int .u8 0) 1 1 Tryz.underlying73 hi hz0 hz1 hz2 rfl (by decide) v xs.length (valsB xs) (hown.alloc _)
    ⟨W.heap.size, 0, none⟩ 1 1 [.int .u8 z] rfl (by
      intro j u hj
      match j, hj with
      | 0, hj => simp at hj; subst hj; simp [Addr.add]) (by intro u hu; simp at hu; subst hu; rfl) (by unfold maxLen; omega) (by omega) (by simp; omega)
  unfold Oper.wp execOp
  simp only [ho, resolve, invoke, builtin, Sem.run_bind, Sem.run_pure, Result.andThen_ok, List.map_toArray, List.map_cons, List.map_nil, hs, hx, hrun]
  refine hK _ _ (h v' w' ?_ h3 (by simpa using h5))
  unfold OwnB
  have e : valsB (xs ++ [z]) = valsB xs ++ [.int .u8 z] := by simp [valsB]
  rw [e]
  simpa using h2
end
theorem conv_row {w : World} {B : Nat} {v : Value} {xs : List Int} (h : OwnB w B v xs) :
    (convert 73 9 v).run Tryz.prog w = .ok (.string (strOfNums xs)) w := by
  by_cases h0 : 0 < xs.length
  · obtain ⟨g, c, rfl, _, _, hc⟩ := h.reads h0
    exact run_convert_bytes_arg (P := Tryz.prog) w 73 5 Tryz.underlying73 Tryz.underlying5 g 0 xs.length c xs rfl (fun i hi => by rw [Nat.zero_add]; exact hc i hi) 9 Tryz.underlying9
  · have hz : xs = [] := List.eq_nil_of_length_eq_zero (by omega)
    subst hz
    unfold OwnB at h
    rcases h.2 with ⟨hv, h0'⟩ | ⟨g, cap, cur, hv, hbg, hh, hnc, hcm, hsz, htake⟩
    · subst hv
      exact run_convert_bytes_nil (P := Tryz.prog) w 73 5 Tryz.underlying73 Tryz.underlying5 0 0 9 Tryz.underlying9
    · subst hv
      exact run_convert_bytes_arg (P := Tryz.prog) w 73 5 Tryz.underlying73 Tryz.underlying5 g 0 0 cap [] rfl (fun i hi => absurd hi (by omega)) 9 Tryz.underlying9
end Go.Proofs.YtcfcmpblemagiaaGreatDoor
