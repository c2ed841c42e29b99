/-
  An argument that is a slice of bytes, opened; the laws' draws of numbers from bytes (r8At, r8Wide): each lies in its range.
-/
import Derived.Test.YtjpmbjhkolgiiaaNum
import Derived.RowKit3
import Derived.ProofKit
import Derived.OpenShut
namespace Go.Proofs.Ytjpmbjhkolgiiaa
open Go.RowKit Go.ChangeShapes Go.WideShapes
set_option linter.unusedVariables false

def Byts (w : World) (A : Option Addr) (n : Nat) : Prop := ∀ k, k < n → ∃ b off z, A = some ⟨b, off, none⟩ ∧ b < w.heap.size ∧ w.cell? ⟨b, off + k, none⟩ = some (.int .u8 z) ∧ 0 ≤ z ∧ z ≤ 255
theorem Byts.next {w w' : World} {A : Option Addr} {n : Nat} (h : Byts w A n) (hb : Below w.heap.size w w') : Byts w' A n := fun k hk => by
  obtain ⟨b, off, z, h1, h2, h3, h4, h5⟩ := h k hk
  exact ⟨b, off, z, h1, Nat.lt_of_lt_of_le h2 hb.size, (hb.cell (by simpa using h2)).trans h3, h4, h5⟩
theorem wf_u8 {a : Int} (h : (Lit.int .u8 a).wf = true) : 0 ≤ a ∧ a ≤ 255 := by
  have h1 : IntKind.u8.min = 0 := rfl
  have h2 : IntKind.u8.max = 255 := rfl
  simp only [Lit.wf, Bool.and_eq_true, decide_eq_true_eq] at h
  omega
theorem view_bytes {H : Type} {enc : TypeId × Value → H} {P : Program} {W : World} {base : Nat} {spare : Nat → Bool} {held : Bool} {t e : TypeId} {A : Option Addr} {len cap : Nat} {d : DataW H} {p : List MemPlace}
    (ht : P.underlying t = some (.slice e)) (he : P.underlying e = some (.int .u8)) (hc : P.cellsOf e = 1) (h : DataW.Trod enc P W base spare held t (.slice A len cap) d p) :
    len ≤ maxLen ∧ Byts W A len := by
  obtain ⟨fuel, hf⟩ := h
  have hf' : DataW.trod enc P W base spare held fuel t [.slice A len cap] = some (d, p) := by simpa [Value.cells] using hf
  rcases open_ints ht he hc hf' with ⟨hcs, hx⟩ | ⟨a, len', cap', zs, hcs, _, hl, hm, hz, hx, hcell, hw⟩
  · simp only [List.cons.injEq, Value.slice.injEq, and_true] at hcs
    obtain ⟨rfl, rfl, rfl⟩ := hcs
    exact ⟨by simp [maxLen], fun k hk => absurd hk (by omega)⟩
  · simp only [List.cons.injEq, Value.slice.injEq, and_true] at hcs
    obtain ⟨rfl, rfl, rfl⟩ := hcs
    have hge : len ≤ zs.length := by rw [hz]; split <;> omega
    refine ⟨by omega, fun k hk => ?_⟩
    obtain ⟨b, off, rfl, hc'⟩ := ints_at hcell (by omega)
    have hg : zs.getD k 0 ∈ zs := by
      have hk' : k < zs.length := by omega
      simp [List.getD_eq_getElem?_getD, hk']
    have hb := wf_u8 (hw _ hg)
    exact ⟨b, off, _, rfl, World.block_lt_of_cell? W _ (hc' 0 (by omega)), hc' k (by omega), hb.1, hb.2⟩

def RangePost (lo hi : Int) (w : World) (e : Ending) (w' : World) : Prop := ∃ v : Int, e = .returned (.int .i64 v) ∧ lo ≤ v ∧ v ≤ hi ∧ ∃ q, w' = w.drewN q
theorem r8At_any (A : Option Addr) (n c : Nat) (k m : Int) (w : World) (hn : n ≤ 9223372036854775807) (hk : 0 ≤ k) (hm : 2 ≤ m) (hm' : m ≤ 256) (hx : Byts w A n) :
    Calls Try.prog 24 #[.slice A n c, .int .i64 k, .int .i64 m] w (RangePost 0 (m - 1) w) := by
  have HX := Lib.hid hx
  clear hx
  by_cases hlt : k < n
  · obtain ⟨j, rfl⟩ := Int.eq_ofNat_of_zero_le hk
    obtain ⟨b, off, z, rfl, hb, hc, h0, h1⟩ := HX.out j (by omega)
    go_enter Try.func24, Try.ntmps24
    go_wp2_with fail
    go_ret
    have := Int.emod_nonneg z (show m ≠ 0 by omega)
    have := Int.emod_lt_of_pos z (show 0 < m by omega)
    exact ⟨_, rfl, by omega, by omega, 0, rfl⟩
  · have hge : (n : Int) ≤ k := by omega
    go_enter Try.func24, Try.ntmps24
    go_wp2_with fail
    go_ret
    exact ⟨_, rfl, by omega, by omega, 0, rfl⟩
theorem r8Wide_any (A : Option Addr) (n c : Nat) (k m : Int) (w : World) (hn : n ≤ 9223372036854775807) (hk : 0 ≤ k) (hk' : k ≤ 1000000) (hm : 1 ≤ m) (hm' : m ≤ 100000) (hx : Byts w A n) :
    Calls Try.prog 25 #[.slice A n c, .int .i64 k, .int .i64 m] w (RangePost 0 (m - 1) w) := by
  have HX := Lib.hid hx
  clear hx
  go_enter Try.func25, Try.ntmps25
  go_wp2_with fail
  refine (r8At_any _ _ _ _ _ _ hn (by omega) (by omega) (by omega) HX.out).mono ?_; rintro e w' ⟨v1, rfl, a1, a2, q, rfl⟩
  go_wp2_with fail
  refine (r8At_any _ _ _ _ _ _ hn (by omega) (by omega) (by omega) (HX.out.next (below_drewN (Below.refl _ _) _))).mono ?_; rintro e w' ⟨v2, rfl, a3, a4, q2, rfl⟩
  go_wp2_with fail
  go_ret
  have := Int.emod_nonneg (256 * v1 + v2) (show m ≠ 0 by omega)
  have := Int.emod_lt_of_pos (256 * v1 + v2) (show 0 < m by omega)
  exact ⟨_, rfl, by omega, by omega, _, rfl⟩
end Go.Proofs.Ytjpmbjhkolgiiaa
