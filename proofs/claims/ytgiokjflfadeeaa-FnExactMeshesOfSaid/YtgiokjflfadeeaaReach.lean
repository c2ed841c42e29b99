/-
  Plain law: a list of junctions that is grown over the edges, one junction after the other, ends as the class of the first.
-/
import Derived.Test.YtgiokjflfadeeaaParts
namespace Go.Proofs.Ytgiokjflfadeeaa
set_option linter.unusedVariables false

def edgesR (xs : List AW) (es : List Int) : Nat → Nat → Nat → Prop
  | 0 => fun _ _ => False
  | k + 1 => More (edgesR xs es k) (edgeU xs es k) (edgeV xs es k)
theorem parts_labels (xs : List AW) (es : List Int) (J : Nat) : ∀ m, (∀ i, i < m → edgeU xs es i < J ∧ edgeV xs es i < J) → Labels (edgesR xs es m) J (partsF xs es m) := by
  intro m
  induction m with
  | zero => intro _; exact Labels.start J
  | succ m ih => intro h; exact (ih fun i hi => h i (by omega)).next (h m (by omega)).1 (h m (by omega)).2
theorem edgesR_iff (xs : List AW) (es : List Int) (m x y : Nat) : edgesR xs es m x y ↔ ∃ i, i < m ∧ x = edgeU xs es i ∧ y = edgeV xs es i := by
  induction m with
  | zero => simp [edgesR]
  | succ m ih =>
    show (edgesR xs es m x y ∨ _) ↔ _
    rw [ih]
    constructor
    · rintro (⟨i, hi, h⟩ | h)
      · exact ⟨i, by omega, h⟩
      · exact ⟨m, by omega, h⟩
    · rintro ⟨i, hi, h⟩
      by_cases e : i = m
      · subst e; exact .inr h
      · exact .inl ⟨i, by omega, h⟩
/-- junction c has, over the first t edges, the neighbour b -/
def Near (xs : List AW) (es : List Int) (t c b : Nat) : Prop := ∃ i, i < t ∧ ((c = edgeU xs es i ∧ b = edgeV xs es i) ∨ (c = edgeV xs es i ∧ b = edgeU xs es i))
theorem near_conn {xs : List AW} {es : List Int} {m t c b : Nat} (h : Near xs es t c b) (ht : t ≤ m) : edgesR xs es m c b ∨ edgesR xs es m b c := by
  obtain ⟨i, hi, ⟨h1, h2⟩ | ⟨h1, h2⟩⟩ := h
  · exact .inl ((edgesR_iff ..).2 ⟨i, by omega, h1, h2⟩)
  · exact .inr ((edgesR_iff ..).2 ⟨i, by omega, h2, h1⟩)
theorem near_of {xs : List AW} {es : List Int} {m c b : Nat} (h : edgesR xs es m c b ∨ edgesR xs es m b c) : Near xs es m c b := by
  rcases h with h | h
  · obtain ⟨i, hi, h1, h2⟩ := (edgesR_iff ..).1 h; exact ⟨i, hi, .inl ⟨h1, h2⟩⟩
  · obtain ⟨i, hi, h1, h2⟩ := (edgesR_iff ..).1 h; exact ⟨i, hi, .inr ⟨h2, h1⟩⟩

structure Grow (xs : List AW) (es : List Int) (m J u : Nat) (rs : List Int) (k t : Nat) : Prop where
  sub : ∀ z, z ∈ rs → ∃ b : Nat, z = b ∧ b < J ∧ Conn (edgesR xs es m) u b
  first : (u : Int) ∈ rs
  nodup : rs.Nodup
  done : ∀ i, i < k → ∀ c b : Nat, i < rs.length → atI rs i = c → Near xs es m c b → (b : Int) ∈ rs
  part : ∀ c b : Nat, k < rs.length → atI rs k = c → Near xs es t c b → (b : Int) ∈ rs
theorem Grow.start (xs : List AW) (es : List Int) (m J u : Nat) (hu : u < J) : Grow xs es m J u [(u : Int)] 0 0 :=
  ⟨fun z hz => ⟨u, by simpa using hz, hu, .refl u⟩, by simp, by simp, fun i hi => absurd hi (by omega), fun c b _ _ h => by obtain ⟨i, hi, _⟩ := h; omega⟩
theorem Grow.len {xs : List AW} {es : List Int} {m J u k t : Nat} {rs : List Int} (h : Grow xs es m J u rs k t) : rs.length ≤ J := by
  have hsub : rs ⊆ (List.range J).map Int.ofNat := fun z hz => by
    obtain ⟨b, rfl, hb, _⟩ := h.sub z hz
    exact List.mem_map.2 ⟨b, List.mem_range.2 hb, rfl⟩
  have := List.Nodup.length_le_of_subset h.nodup hsub
  simpa using this
theorem Grow.pass {xs : List AW} {es : List Int} {m J u k t : Nat} {rs : List Int} (h : Grow xs es m J u rs k t) (hn : ∀ c b : Nat, k < rs.length → atI rs k = c → ((c = edgeU xs es t ∧ b = edgeV xs es t) ∨ (c = edgeV xs es t ∧ b = edgeU xs es t)) → (b : Int) ∈ rs) : Grow xs es m J u rs k (t + 1) :=
  ⟨h.sub, h.first, h.nodup, h.done, fun c b hk hc hnear => by
    obtain ⟨i, hi, he⟩ := hnear
    by_cases e : i = t
    · subst e; exact hn c b hk hc he
    · exact h.part c b hk hc ⟨i, by omega, he⟩⟩
theorem atI_app (rs : List Int) (z : Int) (i : Nat) (h : i < rs.length) : atI (rs ++ [z]) i = atI rs i := by
  simp [atI, List.getElem?_append_left h]
theorem Grow.add {xs : List AW} {es : List Int} {m J u k t b : Nat} {rs : List Int} (h : Grow xs es m J u rs k t) (hk : k < rs.length) (hnew : ¬ (b : Int) ∈ rs) (hb : b < J) (hc : Conn (edgesR xs es m) u b) : Grow xs es m J u (rs ++ [(b : Int)]) k t := by
  refine ⟨fun z hz => ?_, by simp [h.first], ?_, fun i hi c d hl hcc hn => ?_, fun c d hl hcc hn => ?_⟩
  · rcases List.mem_append.1 hz with hz | hz
    · exact h.sub z hz
    · exact ⟨b, by simpa using hz, hb, hc⟩
  · rw [List.nodup_append]
    exact ⟨h.nodup, by simp, fun x hx y hy => by
      rintro rfl
      have : x = (b : Int) := by simpa using hy
      subst this; exact hnew hx⟩
  · rw [atI_app rs _ i (by omega)] at hcc
    exact List.mem_append_left _ (h.done i hi c d (by omega) hcc hn)
  · rw [atI_app rs _ k hk] at hcc
    exact List.mem_append_left _ (h.part c d hk hcc hn)
theorem Grow.up {xs : List AW} {es : List Int} {m J u k : Nat} {rs : List Int} (h : Grow xs es m J u rs k m) : Grow xs es m J u rs (k + 1) 0 :=
  ⟨h.sub, h.first, h.nodup, fun i hi c b hl hc hn => by
    by_cases e : i = k
    · subst e; exact h.part c b hl hc hn
    · exact h.done i (by omega) c b hl hc hn, fun c b _ _ hn => by obtain ⟨i, hi, _⟩ := hn; omega⟩
/-- at the end the list is the class -/
theorem Grow.fin {xs : List AW} {es : List Int} {m J u t : Nat} {rs : List Int} (h : Grow xs es m J u rs rs.length t) (b : Nat) : (b : Int) ∈ rs ↔ Conn (edgesR xs es m) u b := by
  constructor
  · intro hb
    obtain ⟨b', e, _, hc⟩ := h.sub _ hb
    have : b = b' := by omega
    subst this; exact hc
  · intro hc
    induction hc with
    | refl => exact h.first
    | step _ e ih =>
      rename_i p q _
      obtain ⟨i, hi, he⟩ := List.getElem_of_mem ih
      exact h.done i hi p q hi (by rw [atI_is rs i hi]; exact he) (near_of e)

theorem Grow.edge {xs : List AW} {es : List Int} {m J u k t c0 nx : Nat} {rs : List Int} (h : Grow xs es m J u rs k t) (hk : k < rs.length) (ht : t < m) (hc : atI rs k = (c0 : Int))
    (hinc : (c0 = edgeU xs es t ∧ nx = edgeV xs es t) ∨ (c0 = edgeV xs es t ∧ nx = edgeU xs es t)) (hne : edgeU xs es t ≠ edgeV xs es t) (hb : nx < J) :
    ((nx : Int) ∈ rs → Grow xs es m J u rs k (t + 1)) ∧ (¬ (nx : Int) ∈ rs → Grow xs es m J u (rs ++ [(nx : Int)]) k (t + 1)) := by
  have only : ∀ c b : Nat, (c : Int) = c0 → ((c = edgeU xs es t ∧ b = edgeV xs es t) ∨ (c = edgeV xs es t ∧ b = edgeU xs es t)) → b = nx := by
    intro c b hcc hh
    have : c = c0 := by omega
    subst this
    omega
  refine ⟨fun hm => h.pass fun c b _ hcc hh => ?_, fun hm => ?_⟩
  · rw [only c b (by rw [← hc, hcc]) hh]; exact hm
  · have hq : (c0 : Int) ∈ rs := by rw [← hc, atI_is rs k hk]; exact List.getElem_mem hk
    obtain ⟨b', e, _, hconn⟩ := h.sub _ hq
    have : c0 = b' := by omega
    subst this
    have hg := h.add hk hm hb (hconn.step (near_conn (t := t + 1) ⟨t, by omega, hinc⟩ (by omega)))
    refine hg.pass fun c b _ hcc hh => ?_
    rw [atI_app rs _ k hk] at hcc
    rw [only c b (by rw [← hc, hcc]) hh]
    simp
theorem Grow.skip {xs : List AW} {es : List Int} {m J u k t c0 : Nat} {rs : List Int} (h : Grow xs es m J u rs k t) (hc : atI rs k = (c0 : Int)) (h1 : c0 ≠ edgeU xs es t) (h2 : c0 ≠ edgeV xs es t) : Grow xs es m J u rs k (t + 1) :=
  h.pass fun c b _ hcc hh => by
    have : c = c0 := by omega
    omega
end Go.Proofs.Ytgiokjflfadeeaa
