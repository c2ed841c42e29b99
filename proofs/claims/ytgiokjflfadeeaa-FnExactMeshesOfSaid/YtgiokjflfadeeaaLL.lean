/-
  Lists of lists of numbers behind slices of slices: what they read as; those that the call itself made; the laws of append at them.
-/
import Derived.Test.YtgiokjflfadeeaaHas
import Derived.Test.YtgiokjflfadeeaaReached
import Derived.Maps.AppendAt
namespace Go.Proofs.Ytgiokjflfadeeaa
open Go.RowKit
set_option linter.unusedVariables false

def atLL (lls : List (List Int)) (k : Nat) : List Int := lls.getD k []
theorem atLL_app (lls : List (List Int)) (ls : List Int) (i : Nat) (h : i < lls.length) : atLL (lls ++ [ls]) i = atLL lls i := by
  unfold atLL; rw [List.getD_eq_getElem?_getD, List.getD_eq_getElem?_getD, List.getElem?_append_left h]
theorem atLL_last (lls : List (List Int)) (ls : List Int) : atLL (lls ++ [ls]) lls.length = ls := by simp [atLL]
def RdLL (w : World) (B : Nat) (A : Option Addr) (lls : List (List Int)) : Prop :=
  lls = [] ∨ ∃ b off, A = some ⟨b, off, none⟩ ∧ b < B ∧ ∀ k, k < lls.length → ∃ Ak ck, w.cell? ⟨b, off + k, none⟩ = some (.slice Ak (atLL lls k).length ck) ∧ Ints w B Ak (atLL lls k)
theorem RdLL.below {w w' : World} {B : Nat} {A : Option Addr} {lls : List (List Int)} (h : RdLL w B A lls) (hb : Below B w w') : RdLL w' B A lls := by
  rcases h with h | ⟨b, off, h1, h2, h3⟩
  · exact .inl h
  · exact .inr ⟨b, off, h1, h2, fun k hk => by
      obtain ⟨Ak, ck, g1, g2⟩ := h3 k hk
      exact ⟨Ak, ck, (hb.cell (by simpa using h2)).trans g1, g2.below hb⟩⟩
theorem RdLL.more {w : World} {B B' : Nat} {A : Option Addr} {lls : List (List Int)} (h : RdLL w B A lls) (hb : B ≤ B') : RdLL w B' A lls := by
  rcases h with h | ⟨b, off, h1, h2, h3⟩
  · exact .inl h
  · exact .inr ⟨b, off, h1, by omega, fun k hk => by
      obtain ⟨Ak, ck, g1, g2⟩ := h3 k hk
      exact ⟨Ak, ck, g1, g2.more hb⟩⟩
theorem RdLL.next {w w' : World} {A : Option Addr} {lls : List (List Int)} (h : RdLL w w.heap.size A lls) (hb : Below w.heap.size w w') : RdLL w' w'.heap.size A lls := (h.below hb).more hb.size
theorem RdLL.at_ {w : World} {B : Nat} {A : Option Addr} {lls : List (List Int)} (h : RdLL w B A lls) {k : Nat} (hk : k < lls.length) :
    ∃ b off Ak ck, A = some ⟨b, off, none⟩ ∧ b < B ∧ w.cell? ⟨b, off + k, none⟩ = some (.slice Ak (atLL lls k).length ck) ∧ Ints w B Ak (atLL lls k) := by
  rcases h with h | ⟨b, off, h1, h2, h3⟩
  · rw [h] at hk; simp at hk
  · obtain ⟨Ak, ck, g1, g2⟩ := h3 k hk
    exact ⟨b, off, Ak, ck, h1, h2, g1, g2⟩

def hdrs (gs cs : Nat → Nat) (lls : List (List Int)) : List Value := (List.range lls.length).map fun i => .slice (some ⟨gs i, 0, none⟩) (atLL lls i).length (cs i)
theorem hdrs_len (gs cs : Nat → Nat) (lls : List (List Int)) : (hdrs gs cs lls).length = lls.length := by simp [hdrs]
theorem hdrs_at (gs cs : Nat → Nat) (lls : List (List Int)) (i : Nat) (h : i < lls.length) : (hdrs gs cs lls)[i]? = some (.slice (some ⟨gs i, 0, none⟩) (atLL lls i).length (cs i)) := by
  simp [hdrs, h]
def putF (f : Nat → Nat) (n x : Nat) : Nat → Nat := fun i => if i = n then x else f i
theorem putF_old (f : Nat → Nat) {n i : Nat} (x : Nat) (h : i < n) : putF f n x i = f i := by unfold putF; rw [if_neg (by omega)]
theorem putF_new (f : Nat → Nat) (n x : Nat) : putF f n x n = x := by simp [putF]
theorem hdrs_snoc (gs cs : Nat → Nat) (lls : List (List Int)) (ls : List Int) (g c : Nat) : hdrs (putF gs lls.length g) (putF cs lls.length c) (lls ++ [ls]) = hdrs gs cs lls ++ [.slice (some ⟨g, 0, none⟩) ls.length c] := by
  unfold hdrs
  rw [List.length_append, List.length_singleton, List.range_succ, List.map_append, List.map_singleton, atLL_last, putF_new, putF_new]
  congr 1
  apply List.map_congr_left
  intro i hi
  have hi := List.mem_range.1 hi
  rw [putF_old gs g hi, putF_old cs c hi, atLL_app lls ls i hi]

def OwnLL (w : World) (B : Nat) (v : Value) (lls : List (List Int)) : Prop :=
  ∃ gs cs : Nat → Nat, w.ownsRow B 35 1 v lls.length (hdrs gs cs lls) ∧ (∀ i, i < lls.length → 0 < (atLL lls i).length ∧ OwnI w B (.slice (some ⟨gs i, 0, none⟩) (atLL lls i).length (cs i)) (atLL lls i) ∧ v.ownBlock ≠ some (gs i)) ∧ ∀ i j, i < j → j < lls.length → gs i ≠ gs j
theorem OwnLL.nil (w : World) (B : Nat) : OwnLL w B (.slice none 0 0) [] := ⟨id, id, World.ownsRow_nil _ _ _ _, fun i hi => absurd hi (by simp), fun i j _ hj => absurd hj (by simp)⟩
theorem OwnLL.lit (w : World) (B : Nat) (hB : B ≤ w.heap.size) : OwnLL (w.alloc (.cells #[] 35)) B (.slice (some ⟨w.heap.size, 0, none⟩) 0 0) [] :=
  ⟨id, id, World.ownsRow_lit w #[] 0 hB (by simp [maxLen]) (by simp), fun i hi => absurd hi (by simp), fun i j _ hj => absurd hj (by simp)⟩
theorem OwnLL.kept {w w' : World} {B : Nat} {v : Value} {lls : List (List Int)} {row : Option Nat} (h : OwnLL w B v lls) (hg : w.grownBy w' row) (hr : ∀ g, row = some g → g < B) : OwnLL w' B v lls := by
  obtain ⟨gs, cs, h1, h2, h3⟩ := h
  refine ⟨gs, cs, h1.kept hg ?_, fun i hi => ?_, h3⟩
  · cases hv : v.ownBlock with
    | none => exact .inl rfl
    | some g => exact .inr (fun e => by have := hr g e.symm; have := (World.ownsRow.lt h1 g hv).1; omega)
  · obtain ⟨a1, a2, a3⟩ := h2 i hi
    exact ⟨a1, a2.kept hg (.inr (fun e => by have h8 := hr (gs i) e.symm; have h9 := (a2.lt (g := gs i) rfl).1; omega)), a3⟩
theorem OwnLL.below {w w' : World} {B : Nat} {v : Value} {lls : List (List Int)} (h : OwnLL w B v lls) (hb : Below w.heap.size w w') : OwnLL w' B v lls := by
  obtain ⟨gs, cs, h1, h2, h3⟩ := h
  refine ⟨gs, cs, h1.kept (grown_of_below hb) ?_, fun i hi => ?_, h3⟩
  · cases hv : v.ownBlock with
    | none => exact .inl rfl
    | some g => exact .inr (fun e => by cases e)
  · obtain ⟨a1, a2, a3⟩ := h2 i hi
    exact ⟨a1, a2.below hb, a3⟩
theorem OwnLL.mono {w : World} {B B' : Nat} {v : Value} {lls : List (List Int)} (h : OwnLL w B v lls) (hb : B' ≤ B) : OwnLL w B' v lls := by
  obtain ⟨gs, cs, h1, h2, h3⟩ := h
  exact ⟨gs, cs, World.ownsRow.mono h1 hb, fun i hi => ⟨(h2 i hi).1, (h2 i hi).2.1.mono hb, (h2 i hi).2.2⟩, h3⟩
theorem OwnLL.reads {w : World} {B : Nat} {v : Value} {lls : List (List Int)} (h : OwnLL w B v lls) : ∃ A c, v = .slice A lls.length c ∧ RdLL w w.heap.size A lls := by
  obtain ⟨gs, cs, h1, h2, h3⟩ := h
  rcases h1.2 with ⟨hv, h0⟩ | ⟨g, cap, cur, hv, hbg, hh, hnc, hcm, hsz, htake⟩
  · have : lls = [] := List.eq_nil_of_length_eq_zero h0
    subst this
    exact ⟨none, 0, hv, .inl rfl⟩
  · subst hv
    refine ⟨some ⟨g, 0, none⟩, cap, rfl, .inr ⟨g, 0, rfl, (World.ownsRow.lt h1 g rfl).2, fun k hk => ?_⟩⟩
    obtain ⟨A', c', ev, hi⟩ := (h2 k hk).2.1.reads
    injection ev with e1 e2 e3
    subst e1
    refine ⟨_, cs k, ?_, hi⟩
    rw [Nat.zero_add, h1.cellAt k (by omega)]
    have hg := hdrs_at gs cs lls k hk
    exact hg
theorem OwnLL.rows {w : World} {B : Nat} {A : Option Addr} {c n : Nat} {lls : List (List Int)} (h : OwnLL w B (.slice A n c) lls) : n = lls.length ∧ RdLL w w.heap.size A lls := by
  obtain ⟨A', c', e, hi⟩ := h.reads
  injection e with e1 e2 e3
  subst e1
  exact ⟨e2, hi⟩

theorem info_ii : (Try.prog.info? 35).map (fun i => (i.zero, i.size, i.bytes)) = some (some (.slice none 0 0), 1, 24) := by kernel_rfl
def PushLL (W w' : World) (B : Nat) (v' : Value) (lls : List (List Int)) : Prop := OwnLL w' B v' lls ∧ ∃ row, W.grownBy w' row ∧ ∀ g, row = some g → B ≤ g
section
variable {ops : Array Oper} {rest : List Oper} {o : Oper} {a : Act} {Q : Exit → Act → World → Prop}
theorem pushLL_law (hgd : o.guard = none) (s x : Operand)
    (ho : o.op = .call { callee := .builtin .append, args := #[s, x], argTypes := #[41, 41] })
    (W W1 : World) (B : Nat) (v : Value) (lls : List (List Int)) (ls : List Int) (g c : Nat) (hs : a.eval s = v) (hown : OwnLL W1 B v lls) (hb : Below W1.heap.size W1 W) (hg1 : W1.heap.size ≤ g) (hrow : OwnI W B (.slice (some ⟨g, 0, none⟩) ls.length c) ls) (h0 : 0 < ls.length)
    (hx : a.eval x = .slice (some ⟨W.heap.size, 0, none⟩) 1 1) (h40 : lls.length < 1099511627776) (hB : B ≤ W.heap.size)
    (h : ∀ v' w', PushLL (W.alloc (.cells #[.slice (some ⟨g, 0, none⟩) ls.length c] 35)) w' B v' (lls ++ [ls]) → wpList Try.prog ops Q rest (a.put o.dst v') w') :
    wpList Try.prog ops Q (o :: rest) a (W.alloc (.cells #[.slice (some ⟨g, 0, none⟩) ls.length c] 35)) := by
  refine wpList_plain hgd fun K hK => ?_
  obtain ⟨i, hi, hz0, hz1, hz2⟩ := info_parts info_ii
  have hW := hown.below hb
  have hgs1 : ∀ gs cs, W1.ownsRow B 35 1 v lls.length (hdrs gs cs lls) → ∀ gv, v.ownBlock = some gv → gv < W1.heap.size := fun gs cs h1 gv e => (World.ownsRow.lt h1 gv e).2
  obtain ⟨gs, cs, k1, k2, k3⟩ := hown
  have hgl : ∀ j, j < lls.length → gs j < W1.heap.size := fun j hj => ((k2 j hj).2.1.lt rfl).2
  have hvl : ∀ gv, v.ownBlock = some gv → gv < W1.heap.size := hgs1 gs cs k1
  have k1w : W.ownsRow B 35 1 v lls.length (hdrs gs cs lls) := k1.kept (grown_of_below hb) (by
    cases hv : v.ownBlock with
    | none => exact .inl rfl
    | some gv => exact .inr (fun e => by cases e))
  have hsz : W1.heap.size ≤ W.heap.size := hb.size
  have hgW : g < W.heap.size := (hrow.lt rfl).2
  obtain ⟨v', w', hrun, r1, r2, _, r4⟩ := run_append_own_at (P := Try.prog) (W.alloc (.cells #[.slice (some ⟨g, 0, none⟩) ls.length c] 35)) B 41 o.type 35 i (.slice none 0 0) 1 24 Try.underlying41 hi hz0 hz1 hz2 rfl (by decide) v lls.length (hdrs gs cs lls) (k1w.alloc _)
    ⟨W.heap.size, 0, none⟩ 1 1 [.slice (some ⟨g, 0, none⟩) ls.length c] rfl (by
      intro j u hj
      match j, hj with
      | 0, hj => simp at hj; subst hj; simp [Addr.add]) (by intro u hu; simp at hu; subst hu; rfl) (by unfold maxLen; omega) (by omega) (by simp; omega)
  unfold Oper.wp execOp
  simp only [ho, resolve, invoke, builtin, Sem.run_bind, Sem.run_pure, Result.andThen_ok, List.map_toArray, List.map_cons, List.map_nil, hs, hx, hrun]
  refine hK _ _ (h v' w' ⟨⟨putF gs lls.length g, putF cs lls.length c, ?_, fun j hj => ?_, fun j1 j2 h12 hj2 => ?_⟩, v.ownBlock, r2, fun gv e => (World.ownsRow.lt k1w gv e).1⟩)
  · rw [hdrs_snoc, List.length_append, List.length_singleton]
    exact r1
  · have hvo : v'.ownBlock = v.ownBlock ∨ v'.ownBlock = some (W.heap.size + 1) := by simpa using r4
    have hnew : ∀ q, q < W.heap.size → v.ownBlock ≠ some q → v'.ownBlock ≠ some q := fun q hq hn e => by
      rcases hvo with h1 | h1
      · exact hn (h1.symm.trans e)
      · have := Option.some.inj (h1.symm.trans e); omega
    rcases Nat.lt_or_ge j lls.length with hl | hl
    · obtain ⟨a1, a2, a3⟩ := k2 j hl
      rw [putF_old gs g hl, putF_old cs c hl, atLL_app lls ls j hl]
      refine ⟨a1, ?_, hnew _ (by have := hgl j hl; omega) a3⟩
      exact ((a2.below hb).alloc _).kept r2 (.inr (fun e => a3 e.symm))
    · have hj2 : j = lls.length := by simp at hj; omega
      subst hj2
      rw [putF_new, putF_new, atLL_last]
      have hgv : v.ownBlock ≠ some g := fun e => by have := hvl g e; omega
      exact ⟨h0, (hrow.alloc _).kept r2 (.inr (fun e => hgv e.symm)), hnew _ hgW hgv⟩
  · rw [List.length_append, List.length_singleton] at hj2
    rcases Nat.lt_or_ge j2 lls.length with hl | hl
    · rw [putF_old gs g hl, putF_old gs g (by omega)]
      exact k3 j1 j2 h12 hl
    · obtain rfl : j2 = lls.length := by omega
      rw [putF_new, putF_old gs g h12]
      have := hgl j1 h12
      omega
theorem app_law (hgd : o.guard = none) (s x : Operand)
    (ho : o.op = .call { callee := .builtin .append, args := #[s, x], argTypes := #[35, 35] })
    (W : World) (Bb : Nat) (z : Int) (A : Option Addr) (c n : Nat) (bs : List Int) (hs : a.eval s = .slice (some ⟨W.heap.size, 0, none⟩) 1 1) (hx : a.eval x = .slice A n c) (hn : bs.length = n) (hback : OwnI W Bb (.slice A n c) bs) (h40 : n < 1099511627776)
    (h : ∀ g c' w', OwnI w' W.heap.size (.slice (some ⟨g, 0, none⟩) (z :: bs).length c') (z :: bs) → Below W.heap.size W w' → wpList Try.prog ops Q rest (a.put o.dst (.slice (some ⟨g, 0, none⟩) (z :: bs).length c')) w') :
    wpList Try.prog ops Q (o :: rest) a (W.alloc (.cells #[.int .i64 z] 2)) := by
  refine wpList_plain hgd fun K hK => ?_
  subst hn
  obtain ⟨i, hi, hz0, hz1, hz2⟩ := info_parts info_i
  have hlit := OwnI.lit1 W W.heap.size z (Nat.le_refl _)
  have hba : Below W.heap.size W (W.alloc (.cells #[.int .i64 z] 2)) := (Below.refl _ _).alloc (Nat.le_refl _) _
  have hb2 := hback
  unfold OwnI at hb2
  rcases hb2.2 with ⟨hv, h0⟩ | ⟨gb, cap, cur, hv, hbg, hh, hnc, hcm, hsz, htake⟩
  · obtain rfl : bs = [] := List.eq_nil_of_length_eq_zero h0
    have hrun : (Builtin.append_ #[35, 35] o.type #[.slice (some ⟨W.heap.size, 0, none⟩) 1 1, .slice none 0 0]).run Try.prog (W.alloc (.cells #[.int .i64 z] 2)) = .ok (.slice (some ⟨W.heap.size, 0, none⟩) 1 1) (W.alloc (.cells #[.int .i64 z] 2)) := by
      simp [Builtin.append_, run_underlying (P := Try.prog) Try.underlying35, sizeOf, typeInfo, hi, Builtin.lenOf, Builtin.firstCells, storeCells]
    injection hv with e1 e2 e3
    subst e1 e3
    unfold Oper.wp execOp
    simp only [ho, resolve, invoke, builtin, Sem.run_bind, Sem.run_pure, Result.andThen_ok, List.map_toArray, List.map_cons, List.map_nil, hs, hx, List.length_nil, hrun]
    exact hK _ _ (h W.heap.size 1 _ hlit hba)
  · injection hv with e1 e2 e3
    subst e1 e3
    have hown1 : (W.alloc (.cells #[.int .i64 z] 2)).ownsRow W.heap.size 2 1 (.slice (some ⟨W.heap.size, 0, none⟩) 1 1) 1 [.int .i64 z] := hlit
    obtain ⟨v', w', hrun, r1, r2, _, r4⟩ := run_append_own_at (P := Try.prog) (W.alloc (.cells #[.int .i64 z] 2)) W.heap.size 35 o.type 2 i (.int .i64 0) 1 8 Try.underlying35 hi hz0 hz1 hz2 rfl (by decide) (.slice (some ⟨W.heap.size, 0, none⟩) 1 1) 1 [.int .i64 z] hown1
      ⟨gb, 0, none⟩ bs.length c (valsI bs) (by simp [valsI]) (fun j u hj => by
        have hj1 : j < bs.length := by
          rcases Nat.lt_or_ge j bs.length with h1 | h1
          · exact h1
          · rw [List.getElem?_eq_none (by simpa [valsI] using h1)] at hj; cases hj
        have hu := hback.alloc (.cells #[.int .i64 z] 2)
        obtain ⟨A', c', ev, hi2⟩ := hu.reads
        injection ev with e1 e2 e3
        subst e1
        obtain ⟨b', off', eb, _, hc⟩ := hi2.at_ (k := j) hj1
        have e5 : b' = gb := (congrArg Addr.block (Option.some.inj eb)).symm
        have e6 : off' = 0 := (congrArg Addr.off (Option.some.inj eb)).symm
        subst e5 e6
        rw [Addr.add_lit, hc]
        have : (valsI bs)[j]? = some (.int .i64 (atI bs j)) := by simp [valsI, hj1, atI_is]
        rw [this] at hj
        exact hj) (by intro u hu; simp [valsI] at hu; obtain ⟨q, _, rfl⟩ := hu; rfl) (by unfold maxLen; omega) (by omega) (by simp)
    have hown2 : OwnI w' W.heap.size v' (z :: bs) := by
      unfold OwnI
      rw [List.length_cons, Nat.add_comm]
      simpa [valsI] using r1
    obtain ⟨g2, c2, cur2, hv2, hg2, _⟩ := hown2.block (by simp)
    subst hv2
    have hbw : Below W.heap.size W w' := below_grown hba r2 (fun g e => by cases e; exact Nat.le_refl _) (by simp)
    unfold Oper.wp execOp
    simp only [ho, resolve, invoke, builtin, Sem.run_bind, Sem.run_pure, Result.andThen_ok, List.map_toArray, List.map_cons, List.map_nil, hs, hx, hrun]
    exact hK _ _ (h g2 c2 w' hown2 hbw)
end
end Go.Proofs.Ytgiokjflfadeeaa
