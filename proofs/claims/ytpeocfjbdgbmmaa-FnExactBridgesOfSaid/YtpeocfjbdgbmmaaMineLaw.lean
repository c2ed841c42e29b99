/-
  What the laws over one mine have in common: the last comparison of the mine with a fresh copy.
-/
import Derived.Test.YtpeocfjbdgbmmaaValidS
namespace Go.Proofs.Ytpeocfjbdgbmmaa
open Go.RowKit
set_option linter.unusedVariables false

theorem q_next {w w1 : World} {j : Int} {A B : Option Addr} {n c d g h : Nat} (hb : Below w.heap.size w w1) (hS : w.cell? ⟨g, 0, none⟩ = some (.int .i64 j) ∧ w.cell? ⟨g, 1, none⟩ = some (.slice A n c) ∧ w.cell? ⟨h, 0, none⟩ = some (.int .i64 j) ∧ w.cell? ⟨h, 1, none⟩ = some (.slice B n d)) : w1.cell? ⟨g, 0, none⟩ = some (.int .i64 j) ∧ w1.cell? ⟨g, 1, none⟩ = some (.slice A n c) ∧ w1.cell? ⟨h, 0, none⟩ = some (.int .i64 j) ∧ w1.cell? ⟨h, 1, none⟩ = some (.slice B n d) := by
  obtain ⟨a0, a1, a2, a3⟩ := hS
  have f : ∀ {a : Addr} {v : Value}, w.cell? a = some v → w1.cell? a = some v := fun {a v} h => (hb.cell (World.block_lt_of_cell? w a h)).trans h
  exact ⟨f a0, f a1, f a2, f a3⟩
theorem Airs.drew {w : World} {A : Option Addr} {xs : List AW} (h : Airs w A xs) : Airs w.drew A xs := h.next ⟨rfl, rfl, rfl, Nat.le_refl _, fun _ _ => rfl⟩
theorem validMineS_any (j : Int) (A : Option Addr) (c : Nat) (xs : List AW) (n : Nat) (w : World) (hn : xs.length = n) (h20 : n ≤ 1048576) (hs : ∀ k, k < n → (atA xs k).a.size ≤ maxLen) (hx : Airs w A xs) :
    Calls Try.prog 19 #[.agg #[.int .i64 j, .slice A n c]] w fun e w' => e = .returned (.bool (mineB j xs)) ∧ Below w.heap.size w w' := by
  have HX := Lib.hid (hx.next ((Below.refl w.heap.size w).alloc (Nat.le_refl _) (.cells #[.int .i64 j, .slice A n c] 29)))
  have HN := Lib.hid hn
  have HS := Lib.hid hs
  clear hx hn hs
  go_enter Try.func19, Try.ntmps19
  go_wp2_with fail
  refine (l04Ok_any _ j A c xs n _ HN.out h20 HS.out HX.out (by simp [go_sem]) (by simp [go_sem])).mono ?_; rintro e w1 ⟨rfl, q, rfl⟩
  go_wp2_with fail
  go_ret
  exact ⟨rfl, by ((repeat (first | with_reducible exact Below.refl _ _ | with_reducible apply below_drewN | with_reducible apply Below.drew | (with_reducible refine Below.alloc ?_ ?_ _) | (with_reducible refine Below.setCell ?_ ?_ _) | (with_reducible refine Below.trans ?_ (hb4.mono ?_)) | (with_reducible refine Below.trans ?_ (hb3.mono ?_)) | (with_reducible refine Below.trans ?_ (hb2.mono ?_)))); all_goals (first | (simp <;> omega) | (have h2s := hb2.size; (try simp at h2s); (try simp); omega) | (have h2s := hb2.size; have h3s := hb3.size; (try simp at h2s); (try simp at h3s); (try simp); omega) | (have h2s := hb2.size; have h3s := hb3.size; have h4s := hb4.size; (try simp at h2s); (try simp at h3s); (try simp at h4s); (try simp); omega)))⟩
end Go.Proofs.Ytpeocfjbdgbmmaa
