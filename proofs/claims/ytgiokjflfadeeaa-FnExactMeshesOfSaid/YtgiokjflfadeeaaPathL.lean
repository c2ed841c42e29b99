/-
  Plain law: the program's queue, told as a list of numbers; the contract of the program's step.
-/
import Derived.Test.YtgiokjflfadeeaaPathM
namespace Go.Proofs.Ytgiokjflfadeeaa
open Go.RowKit
set_option linter.unusedVariables false

def qL (P : List Nat) (k : Nat) : List Int := (P.drop k).map (fun b : Nat => (b : Int))
theorem qL_cons {P : List Nat} {k : Nat} (h : k < P.length) : qL P k = (P[k] : Int) :: qL P (k + 1) := by
  unfold qL; rw [List.drop_eq_getElem_cons h]; rfl
theorem qL_snoc {P : List Nat} {k : Nat} (v : Nat) (h : k ≤ P.length) : qL (P ++ [v]) k = qL P k ++ [(v : Int)] := by
  unfold qL; rw [List.drop_append_of_le_length h]; simp
theorem qL_len (P : List Nat) (k : Nat) : (qL P k).length = P.length - k := by simp [qL]
theorem Bfs.hi {xs : List AW} {es : List Int} {m J to k t : Nat} {F : Nat → Int} {P : List Nat} (h : Bfs xs es m J to F P k t) {b : Nat} (hb : b < J) : F b + 1 ≤ J := by
  rcases Int.lt_or_le (F b) 0 with g | g
  · omega
  · obtain ⟨n, hn⟩ := Int.eq_ofNat_of_zero_le g
    obtain ⟨l, h1, h2, h3⟩ := dist_lt h.pred n b hb hn
    have := nodup_le h2 (fun c hc => (h3 c hc).1)
    omega
theorem Bfs.front {xs : List AW} {es : List Int} {m J to k t : Nat} {F : Nat → Int} {P : List Nat} (h : Bfs xs es m J to F P k t) (hk : k < P.length) : ∃ c0, P[k] = c0 ∧ c0 < J ∧ 0 ≤ F c0 :=
  ⟨P[k], rfl, h.bd _ (List.getElem_mem hk), (h.mem _ (h.bd _ (List.getElem_mem hk))).1 (List.getElem_mem hk)⟩
theorem Bfs.skipN {xs : List AW} {es : List Int} {m J to k t c0 : Nat} {F : Nat → Int} {P : List Nat} (h : Bfs xs es m J to F P k t) (hc : ∀ hk : k < P.length, P[k] = c0) (ht : touchB xs es t c0 = false) (hne : edgeU xs es t ≠ edgeV xs es t) : Bfs xs es m J to F P k (t + 1) :=
  h.pass (fun hk ht2 => by rw [hc hk, ht] at ht2; cases ht2) hne
theorem Bfs.seen {xs : List AW} {es : List Int} {m J to k t c0 nx : Nat} {F : Nat → Int} {P : List Nat} (h : Bfs xs es m J to F P k t) (hc : ∀ hk : k < P.length, P[k] = c0) (ho : otherN xs es t c0 = nx) (h0 : 0 ≤ F nx) (hne : edgeU xs es t ≠ edgeV xs es t) : Bfs xs es m J to F P k (t + 1) :=
  h.pass (fun hk _ => by rw [hc hk, ho]; exact h0) hne
theorem Bfs.newN {xs : List AW} {es : List Int} {m J to k t c0 nx : Nat} {F : Nat → Int} {P : List Nat} (h : Bfs xs es m J to F P k t) (hk : k < P.length) (hc : P[k] = c0) (ht : touchB xs es t c0 = true) (ho : otherN xs es t c0 = nx) (htm : t < m) (hnx : nx < J) (h2 : F nx < 0)
    (hne : edgeU xs es t ≠ edgeV xs es t) : Bfs xs es m J to (setF F nx (F c0 + 1)) (P ++ [nx]) k (t + 1) := by
  have hnear : Near xs es m P[k] nx := by rw [hc, ← ho]; exact other_near htm ht
  have ha := h.add hk hnx hnear h2
  rw [hc] at ha
  have h0 : 0 ≤ F c0 := by rw [← hc]; exact (h.mem _ (h.bd _ (List.getElem_mem hk))).1 (List.getElem_mem hk)
  refine ha.pass (fun hk2 _ => ?_) hne
  rw [List.getElem_append_left hk, hc, ho, setF_same]
  omega
theorem oth_other {xs : List AW} {es : List Int} {i c0 nx ux vx : Nat} (hU : edgeU xs es i = ux) (hV : edgeV xs es i = vx) (h : (c0 = ux ∧ nx = vx) ∨ (c0 = vx ∧ nx = ux)) (hne : ux ≠ vx) : otherN xs es i c0 = nx ∧ touchB xs es i c0 = true := by
  unfold otherN touchB
  rw [hU, hV]
  rcases h with ⟨rfl, rfl⟩ | ⟨rfl, rfl⟩
  · exact ⟨if_pos rfl, by simp⟩
  · exact ⟨if_neg (fun e => hne e.symm), by simp⟩
theorem oth_touch {xs : List AW} {es : List Int} {i c0 ux vx : Nat} (hU : edgeU xs es i = ux) (hV : edgeV xs es i = vx) (h : ¬ (c0 = ux ∨ c0 = vx)) : touchB xs es i c0 = false := by
  unfold touchB
  rw [hU, hV]
  simp; omega
theorem oth_zero {x : AW} {ux vx c0 : Nat} (hu : x.u = ux) (hv : x.v = vx) (h : ¬ (c0 = ux ∨ c0 = vx)) : othV x c0 = ((0 : Nat) : Int) := by
  unfold othV
  rw [hu, hv, if_neg (by omega), if_neg (by omega)]; rfl
theorem step_any (J : Int) (b off n c i0 : Nat) (u q : Int) (w : World) (hi : i0 < n) (h20 : n ≤ 1048576) (hb : b < w.heap.size) (c1 : w.cell? ⟨b, off + i0 * 7 + 1, none⟩ = some (.int .i64 u)) (r : Int) (hr : (if u = q then (i0 : Int) + 1 else -(i0 : Int) - 1) = r) :
    Calls Try.prog 61 #[.agg #[.int .i64 J, .slice (some ⟨b, off, none⟩) n c], .int .i64 (i0 : Int), .int .i64 q] w fun e w' => e = .returned (.int .i64 r) ∧ Below w.heap.size w w' := by
  subst hr
  have c1' : (w.alloc (.cells #[.int .i64 J, .slice (some ⟨b, off, none⟩) n c] 28)).cell? ⟨b, off + i0 * 7 + 1, none⟩ = some (.int .i64 u) := (World.cell?_alloc_past _ _ _ hb).trans c1
  have hii : (i0 : Int) < n := by omega
  have hw1 : IntKind.i64.wrap (-(i0 : Int)) = -(i0 : Int) := by rw [IntKind.wrap_i64]; omega
  have hw2 : IntKind.i64.wrap (-(i0 : Int) - 1) = -(i0 : Int) - 1 := by rw [IntKind.wrap_i64]; omega
  by_cases e : u = q
  · rw [if_pos e]
    subst e
    go_enter Try.func61, Try.ntmps61
    go_wp2_with fail
    go_ret
    exact ⟨rfl, by ((repeat (first | with_reducible exact Below.refl _ _ | with_reducible apply below_drewN | with_reducible apply Below.drew | (with_reducible refine Below.alloc ?_ ?_ _) | (with_reducible refine Below.setCell ?_ ?_ _) | (with_reducible refine Below.trans ?_ (hb4.mono ?_)) | (with_reducible refine Below.trans ?_ (hb3.mono ?_)) | (with_reducible refine Below.trans ?_ (hb2.mono ?_)))); all_goals (first | (simp <;> omega) | (have h2s := hb2.size; (try simp at h2s); (try simp); omega) | (have h2s := hb2.size; have h3s := hb3.size; (try simp at h2s); (try simp at h3s); (try simp); omega) | (have h2s := hb2.size; have h3s := hb3.size; have h4s := hb4.size; (try simp at h2s); (try simp at h3s); (try simp at h4s); (try simp); omega)))⟩
  · rw [if_neg e]
    go_enter Try.func61, Try.ntmps61
    go_wp2_with fail
    go_ret
    exact ⟨rfl, by ((repeat (first | with_reducible exact Below.refl _ _ | with_reducible apply below_drewN | with_reducible apply Below.drew | (with_reducible refine Below.alloc ?_ ?_ _) | (with_reducible refine Below.setCell ?_ ?_ _) | (with_reducible refine Below.trans ?_ (hb4.mono ?_)) | (with_reducible refine Below.trans ?_ (hb3.mono ?_)) | (with_reducible refine Below.trans ?_ (hb2.mono ?_)))); all_goals (first | (simp <;> omega) | (have h2s := hb2.size; (try simp at h2s); (try simp); omega) | (have h2s := hb2.size; have h3s := hb3.size; (try simp at h2s); (try simp at h3s); (try simp); omega) | (have h2s := hb2.size; have h3s := hb3.size; have h4s := hb4.size; (try simp at h2s); (try simp at h3s); (try simp at h4s); (try simp); omega)))⟩
end Go.Proofs.Ytgiokjflfadeeaa
