/-
  An argument that is a mine by value: its reading, opened into a number and a list of airways.
-/
import Derived.Test.YtgiokjflfadeeaaMines
import Derived.RowKit3
import Derived.ProofKit
import Derived.OpenShut
import Derived.Lib.SmallJoins
import Derived.Deep.Slices
import Derived.Deep.Fields
import Derived.ChangeSame
namespace Go.Proofs.Ytgiokjflfadeeaa
open Go.RowKit Go.ChangeShapes Go.WideShapes Go.Deep Go.Joins
set_option linter.unusedVariables false

section
variable {H : Type} {enc : TypeId × Value → H} {P : Program} {w : World} {base : Nat} {spare : Nat → Bool} {held : Bool}
theorem open_slice_fields {t e : TypeId} {fs : Array Field} {fuel : Nat} {cs : List Value} {x : DataW H × List MemPlace} (ht : P.underlying t = some (.slice e)) (he : P.underlying e = some (.struct fs))
    (hone : oneCellFields P fs = true) (hC : P.cellsOf e = fs.size) (h : DataW.trod enc P w base spare held fuel t cs = some x) :
    (cs = [.slice none 0 0] ∧ x = (.nil, [])) ∨
    ∃ (a : Addr) (len cap m : Nat) (D : Nat → DataW H) (Pl : Nat → List MemPlace), cs = [.slice (some a) len cap] ∧ base ≤ a.block ∧ len ≤ cap ∧ cap ≤ maxLen ∧ m = (if spare a.block then cap else len) ∧
      x = (.slice ((List.range len).map D) ((List.range (m - len)).map fun j => D (len + j)), MemPlace.row a (m * fs.size) ++ (List.range m).flatMap Pl) ∧
      ∀ i, i < m → ∃ (ys : List (DataW H × List MemPlace)) (n : Nat), D i = .agg (ys.map (·.1)) ∧ Pl i = ys.flatMap (·.2) ∧ ys.length = fs.size ∧
        ∀ (j : Nat) (f : Field), fs[j]? = some f → ∃ (v : Value) (y : DataW H × List MemPlace), w.cell? (a.add (i * fs.size + j)) = some v ∧ ys[j]? = some y ∧ DataW.trod enc P w base spare held n f.type [v] = some y := by
  rcases open_slice ht h with h0 | ⟨a, len, cap, m, n, D, Pl, hcs, hb, hl, hm, hmm, hx, hi⟩
  · exact .inl h0
  · refine .inr ⟨a, len, cap, m, D, Pl, hcs, hb, hl, hm, hmm, by rw [hC] at hx; exact hx, fun i him => ?_⟩
    obtain ⟨cs', hc, ht'⟩ := hi i him
    rw [hC] at hc
    obtain ⟨ys, n', hn', hy, hlen, hyl, hf⟩ := DataW.trod_struct he ht'
    obtain ⟨_, hcl, hat⟩ := World.cells?_some hc
    simp only [Prod.mk.injEq] at hy
    refine ⟨ys, n', hy.1, hy.2, hyl, fun j f hj => ?_⟩
    obtain ⟨ho, hk⟩ := hone_of hone j f hj
    have hjl : j < fs.size := (Array.getElem?_eq_some_iff.1 hj).1
    have hcell := hat j hjl
    have hv : cs'[j]? = some (cs'[j]'(by omega)) := List.getElem?_eq_getElem (by omega)
    have h1 := hf j f hj
    rw [ho, hk] at h1
    have hone' : (cs'.drop j).take 1 = [cs'[j]'(by omega)] := by
      rw [List.drop_eq_getElem_cons (by omega)]
      rfl
    rw [hone'] at h1
    have hys : ys[j]? = some (ys[j]'(by omega)) := List.getElem?_eq_getElem (by omega)
    refine ⟨_, _, ?_, hys, h1.trans hys⟩
    rw [← Go.Deep.add_add, hcell, hv]
end

theorem view_airs {H : Type} {enc : TypeId × Value → H} {P : Program} {W : World} {base : Nat} {spare : Nat → Bool} {held : Bool} {t e : TypeId} {f0 f1 f2 f3 f4 f5 f6 : Field} {fuel : Nat} {A : Option Addr} {len cap : Nat} {x : DataW H × List MemPlace}
    (ht : P.underlying t = some (.slice e)) (he : P.underlying e = some (.struct #[f0, f1, f2, f3, f4, f5, f6])) (hone : oneCellFields P #[f0, f1, f2, f3, f4, f5, f6] = true) (hC : P.cellsOf e = 7)
    (t0 : P.underlying f0.type = some .string) (t1 : P.underlying f1.type = some (.int .i64)) (t2 : P.underlying f2.type = some (.int .i64)) (t3 : P.underlying f3.type = some (.int .i64)) (t4 : P.underlying f4.type = some (.int .i64)) (t5 : P.underlying f5.type = some (.int .i64)) (t6 : P.underlying f6.type = some (.int .i64))
    (h : DataW.trod enc P W base spare held fuel t [.slice A len cap] = some x) :
    ∃ xs : List AW, xs.length = len ∧ len ≤ maxLen ∧ (∀ k, k < len → (atA xs k).a.size ≤ maxLen) ∧ Airs W A xs := by
  rcases open_slice_fields ht he hone hC h with ⟨hcs, hx⟩ | ⟨a, len', cap', m, D, Pl, hcs, _, hl, hm, hmm, hx, hi⟩
  · simp only [List.cons.injEq, Value.slice.injEq, and_true] at hcs
    obtain ⟨rfl, rfl, rfl⟩ := hcs
    exact ⟨[], rfl, by simp [maxLen], fun k hk => absurd hk (by omega), .inl rfl⟩
  · simp only [List.cons.injEq, Value.slice.injEq, and_true] at hcs
    obtain ⟨rfl, rfl, rfl⟩ := hcs
    have hge : len ≤ m := by rw [hmm]; split <;> omega
    by_cases h0 : len = 0
    · subst h0
      exact ⟨[], rfl, by simp [maxLen], fun k hk => absurd hk (by omega), .inl rfl⟩
    · have one : ∀ i, i < len → ∃ y : AW, y.a.size ≤ maxLen ∧ ∀ j u, (fieldsA y)[j]? = some u → W.cell? (a.add (i * 7 + j)) = some u := by
        intro i hil
        obtain ⟨ys, n, _, _, _, hf⟩ := hi i (by omega)
        obtain ⟨v0, y0, e0, _, r0⟩ := hf 0 f0 rfl
        obtain ⟨v1, y1, e1, _, r1⟩ := hf 1 f1 rfl
        obtain ⟨v2, y2, e2, _, r2⟩ := hf 2 f2 rfl
        obtain ⟨v3, y3, e3, _, r3⟩ := hf 3 f3 rfl
        obtain ⟨v4, y4, e4, _, r4⟩ := hf 4 f4 rfl
        obtain ⟨v5, y5, e5, _, r5⟩ := hf 5 f5 rfl
        obtain ⟨v6, y6, e6, _, r6⟩ := hf 6 f6 rfl
        obtain ⟨s0, q0, _, z0⟩ := DataW.trod_string t0 r0
        obtain ⟨s1, q1, _, z1⟩ := DataW.trod_int t1 r1
        obtain ⟨s2, q2, _, z2⟩ := DataW.trod_int t2 r2
        obtain ⟨s3, q3, _, z3⟩ := DataW.trod_int t3 r3
        obtain ⟨s4, q4, _, z4⟩ := DataW.trod_int t4 r4
        obtain ⟨s5, q5, _, z5⟩ := DataW.trod_int t5 r5
        obtain ⟨s6, q6, _, z6⟩ := DataW.trod_int t6 r6
        simp only [List.cons.injEq, and_true] at q0 q1 q2 q3 q4 q5 q6
        subst q0 q1 q2 q3 q4 q5 q6
        refine ⟨⟨s0, s1, s2, s3, s4, s5, s6⟩, z0, fun j u hj => ?_⟩
        unfold fieldsA at hj
        rcases (by omega : j = 0 ∨ j = 1 ∨ j = 2 ∨ j = 3 ∨ j = 4 ∨ j = 5 ∨ j = 6 ∨ 7 ≤ j) with rfl | rfl | rfl | rfl | rfl | rfl | rfl | hj7
        · simp at hj; subst hj; exact e0
        · simp at hj; subst hj; exact e1
        · simp at hj; subst hj; exact e2
        · simp at hj; subst hj; exact e3
        · simp at hj; subst hj; exact e4
        · simp at hj; subst hj; exact e5
        · simp at hj; subst hj; exact e6
        · rw [List.getElem?_eq_none (by simpa using hj7)] at hj; cases hj
      have pick : ∃ F : Nat → AW, ∀ i, i < len → (F i).a.size ≤ maxLen ∧ ∀ j u, (fieldsA (F i))[j]? = some u → W.cell? (a.add (i * 7 + j)) = some u :=
        ⟨fun i => if h : i < len then Classical.choose (one i h) else AW.none, fun i h => by simp only [h, dif_pos]; exact Classical.choose_spec (one i h)⟩
      obtain ⟨F, hF⟩ := pick
      have hat : ∀ k, k < len → atA ((List.range len).map F) k = F k := fun k hk => by simp [atA, hk]
      obtain ⟨b, off, spot⟩ := a
      have hspot : spot = none := by simpa [Addr.add] using World.cell?_spot ((hF 0 (by omega)).2 0 _ rfl)
      subst hspot
      refine ⟨(List.range len).map F, by simp, by omega, fun k hk => by rw [hat k hk]; exact (hF k hk).1, .inr ⟨b, off, rfl, ?_, fun k hk => ?_⟩⟩
      · exact World.block_lt_of_cell? W _ ((hF 0 (by omega)).2 0 _ rfl)
      · have hk' : k < len := by simpa using hk
        rw [hat k hk']
        have hc : ∀ j u, (fieldsA (F k))[j]? = some u → W.cell? ⟨b, off + k * 7 + j, none⟩ = some u := fun j u hj => by
          have := (hF k hk').2 j u hj
          rwa [Go.WideShapes.add_plain, ← Nat.add_assoc] at this
        exact ⟨hc 0 _ rfl, hc 1 _ rfl, hc 2 _ rfl, hc 3 _ rfl, hc 4 _ rfl, hc 5 _ rfl, hc 6 _ rfl⟩
theorem slice_shape {H : Type} {enc : TypeId × Value → H} {P : Program} {W : World} {base : Nat} {spare : Nat → Bool} {held : Bool} {t e : TypeId} {fs : Array Field} {fuel : Nat} {v : Value} {x : DataW H × List MemPlace}
    (ht : P.underlying t = some (.slice e)) (he : P.underlying e = some (.struct fs)) (hone : oneCellFields P fs = true) (hC : P.cellsOf e = fs.size) (h : DataW.trod enc P W base spare held fuel t [v] = some x) :
    ∃ A len cap, v = .slice A len cap := by
  rcases open_slice_fields ht he hone hC h with ⟨hcs, hx⟩ | ⟨a, len', cap', m, D, Pl, hcs, _⟩
  · simp only [List.cons.injEq, and_true] at hcs
    exact ⟨_, _, _, hcs⟩
  · simp only [List.cons.injEq, and_true] at hcs
    exact ⟨_, _, _, hcs⟩
end Go.Proofs.Ytgiokjflfadeeaa
