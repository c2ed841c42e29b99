/-
  Plain law: there is a distance; shortest walks are short. The list of all airways.
-/
import Derived.Test.YtgiokjflfadeeaaWalkS
namespace Go.Proofs.Ytgiokjflfadeeaa
open Go.RowKit
set_option linter.unusedVariables false

theorem relax_edges {xs : List AW} {es : List Int} {m J to s : Nat} (he : ∀ i, i < m → edgeU xs es i < J ∧ edgeV xs es i < J) (h0 : ∃ F, Relax xs es m J to s 0 F) : ∀ t, t ≤ m → ∃ F, Relax xs es m J to s t F
  | 0, _ => h0
  | t + 1, ht => by
    obtain ⟨F, hF⟩ := relax_edges he h0 t (by omega)
    obtain ⟨hU, hV⟩ := he t (by omega)
    have hn : Near xs es m (edgeU xs es t) (edgeV xs es t) := ⟨t, by omega, .inl ⟨rfl, rfl⟩⟩
    by_cases h1 : F (edgeU xs es t) = s ∧ F (edgeV xs es t) < 0
    · exact ⟨_, hF.edgeA ⟨rfl, rfl⟩ hU hV hn h1.1 h1.2⟩
    · by_cases h2 : F (edgeV xs es t) = s ∧ F (edgeU xs es t) < 0
      · exact ⟨_, hF.edgeB ⟨rfl, rfl⟩ hU hV hn h2.1 h2.2⟩
      · exact ⟨_, hF.edgeC ⟨rfl, rfl⟩ h1 h2⟩
theorem relax_has {xs : List AW} {es : List Int} {m J to : Nat} (he : ∀ i, i < m → edgeU xs es i < J ∧ edgeV xs es i < J) : ∀ s, ∃ F, Relax xs es m J to s 0 F
  | 0 => ⟨_, Relax.start xs es m J to⟩
  | s + 1 => by
    obtain ⟨F, hF⟩ := relax_edges he (relax_has he s) m (Nat.le_refl _)
    exact ⟨F, hF.up⟩
theorem dist_has {xs : List AW} {es : List Int} {m J to : Nat} (he : ∀ i, i < m → edgeU xs es i < J ∧ edgeV xs es i < J) : IsDist xs es m J to (distF xs es m J to) := by
  obtain ⟨F, hF⟩ := relax_has (to := to) he J
  exact distF_is hF.fin
theorem walkL_len (xs : List AW) (es : List Int) (m : Nat) (D : Nat → Int) : ∀ (f q : Nat), (walkL xs es m D f q).length ≤ f
  | 0, _ => by simp [walkL]
  | f + 1, q => by
    unfold walkL
    split
    · rw [List.length_cons]
      have := walkL_len xs es m D f (otherN xs es ‹Nat› q)
      omega
    · simp
theorem walkF_len {xs : List AW} {es : List Int} {m J to fr : Nat} (he : ∀ i, i < m → edgeU xs es i < J ∧ edgeV xs es i < J) (hfr : fr < J) : (walkF xs es m J to fr).length ≤ J := by
  unfold walkF
  split
  · rename_i h
    have hw := walkL_len xs es m (distF xs es m J to) (distF xs es m J to fr).toNat fr
    obtain ⟨n, hn⟩ := Int.eq_ofNat_of_zero_le h
    obtain ⟨l, h1, h2, h3⟩ := dist_lt (dist_has he).pred n fr hfr hn
    have := nodup_le h2 (fun c hc => (h3 c hc).1)
    omega
  · simp
def allL (n : Nat) : List Int := labL (fun a => (a : Int)) n
theorem allL_len (n : Nat) : (allL n).length = n := labL_len _ n
theorem allL_at (n k : Nat) (hk : k < n) : atI (allL n) k = (k : Int) := by unfold allL; rw [labL_at _ n k hk]
theorem allL_bd (n : Nat) : ∀ k, k < n → 0 ≤ atI (allL n) k ∧ atI (allL n) k < n := by
  intro k hk
  rw [allL_at n k hk]
  omega
theorem two_next' {w w1 : World} {A : Option Addr} {n c g : Nat} {j : Int} (hb : Below w.heap.size w w1) (h : w.cell? ⟨g, 0, none⟩ = some (.int .i64 j) ∧ w.cell? ⟨g, 1, none⟩ = some (.slice A n c)) : w1.cell? ⟨g, 0, none⟩ = some (.int .i64 j) ∧ w1.cell? ⟨g, 1, none⟩ = some (.slice A n c) :=
  ⟨(hb.cell (World.block_lt_of_cell? w _ h.1)).trans h.1, (hb.cell (World.block_lt_of_cell? w _ h.2)).trans h.2⟩
theorem edges_all {xs : List AW} {es : List Int} {J n m : Nat} (hends : ∀ k, k < n → (0 ≤ (atA xs k).u ∧ (atA xs k).u < J) ∧ (0 ≤ (atA xs k).v ∧ (atA xs k).v < J) ∧ (atA xs k).u ≠ (atA xs k).v) (hes : ∀ k, k < m → 0 ≤ atI es k ∧ atI es k < n) : ∀ i, i < m → edgeU xs es i < J ∧ edgeV xs es i < J := fun i hi => by
  obtain ⟨_, _, _, _, _, h1, h2, _⟩ := edge_at hends (hes i hi)
  exact ⟨h1, h2⟩
end Go.Proofs.Ytgiokjflfadeeaa
