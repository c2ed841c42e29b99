/-
  Plain law: which junctions hang together, and labels that tell it (each class by its least member).
-/
namespace Go.Proofs.Ytgiokjflfadeeaa
set_option linter.unusedVariables false

inductive Conn (E : Nat → Nat → Prop) : Nat → Nat → Prop
  | refl (a : Nat) : Conn E a a
  | step {a b c : Nat} (h : Conn E a b) (e : E b c ∨ E c b) : Conn E a c
theorem Conn.trans {E : Nat → Nat → Prop} {a b c : Nat} (h : Conn E a b) (h' : Conn E b c) : Conn E a c := by
  induction h' with
  | refl => exact h
  | step _ e ih => exact .step ih e
theorem Conn.one {E : Nat → Nat → Prop} {a b : Nat} (e : E a b ∨ E b a) : Conn E a b := .step (.refl a) e
theorem Conn.symm {E : Nat → Nat → Prop} {a b : Nat} (h : Conn E a b) : Conn E b a := by
  induction h with
  | refl => exact .refl _
  | step _ e ih => exact (Conn.one e.symm).trans ih
theorem Conn.mono {E E' : Nat → Nat → Prop} (hE : ∀ x y, E x y → E' x y) {a b : Nat} (h : Conn E a b) : Conn E' a b := by
  induction h with
  | refl => exact .refl _
  | step _ e ih => exact .step ih (e.imp (hE _ _) (hE _ _))
/-- one edge more -/
def More (E : Nat → Nat → Prop) (u v : Nat) (x y : Nat) : Prop := E x y ∨ (x = u ∧ y = v)
theorem conn_more (E : Nat → Nat → Prop) (u v a b : Nat) : Conn (More E u v) a b ↔ Conn E a b ∨ (Conn E a u ∧ Conn E v b) ∨ (Conn E a v ∧ Conn E u b) := by
  constructor
  · intro h
    induction h with
    | refl => exact .inl (.refl _)
    | step h e ih =>
      rename_i p q
      have key : (E p q ∨ E q p) ∨ (p = u ∧ q = v) ∨ (p = v ∧ q = u) := by
        rcases e with (e | e) | (e | e)
        · exact .inl (.inl e)
        · exact .inr (.inl e)
        · exact .inl (.inr e)
        · exact .inr (.inr ⟨e.2, e.1⟩)
      rcases key with e | ⟨rfl, rfl⟩ | ⟨rfl, rfl⟩
      · rcases ih with h | ⟨h, h'⟩ | ⟨h, h'⟩
        · exact .inl (.step h e)
        · exact .inr (.inl ⟨h, .step h' e⟩)
        · exact .inr (.inr ⟨h, .step h' e⟩)
      · rcases ih with h | ⟨h, h'⟩ | ⟨h, h'⟩
        · exact .inr (.inl ⟨h, .refl _⟩)
        · exact .inr (.inl ⟨h, .refl _⟩)
        · exact .inl h
      · rcases ih with h | ⟨h, h'⟩ | ⟨h, h'⟩
        · exact .inr (.inr ⟨h, .refl _⟩)
        · exact .inl h
        · exact .inr (.inr ⟨h, .refl _⟩)
  · have up : ∀ {x y}, Conn E x y → Conn (More E u v) x y := fun h => h.mono fun _ _ e => .inl e
    have uv : Conn (More E u v) u v := .one (.inl (.inr ⟨rfl, rfl⟩))
    rintro (h | ⟨h, h'⟩ | ⟨h, h'⟩)
    · exact up h
    · exact ((up h).trans uv).trans (up h')
    · exact ((up h).trans uv.symm).trans (up h')

/-- labels f of the junctions below J tell the classes; each label is the class's least member -/
structure Labels (E : Nat → Nat → Prop) (J : Nat) (f : Nat → Int) : Prop where
  same : ∀ a b, a < J → b < J → (f a = f b ↔ Conn E a b)
  low : ∀ a, a < J → 0 ≤ f a ∧ f a ≤ a ∧ Conn E a (f a).toNat
def relab (f : Nat → Int) (u v : Nat) (a : Nat) : Int := if f a = max (f u) (f v) then min (f u) (f v) else f a
theorem Labels.start (J : Nat) : Labels (fun _ _ => False) J (fun a => (a : Int)) := by
  refine ⟨fun a b _ _ => ⟨fun h => ?_, fun h => ?_⟩, fun a _ => ⟨by omega, by omega, by simpa using Conn.refl a⟩⟩
  · have : a = b := by omega
    subst this; exact .refl _
  · induction h with
    | refl => rfl
    | step _ e _ => rcases e with e | e <;> exact e.elim
theorem Labels.next {E : Nat → Nat → Prop} {J : Nat} {f : Nat → Int} (h : Labels E J f) {u v : Nat} (hu : u < J) (hv : v < J) : Labels (More E u v) J (relab f u v) := by
  have hc : ∀ a b, a < J → b < J → (Conn (More E u v) a b ↔ f a = f b ∨ (f a = f u ∧ f v = f b) ∨ (f a = f v ∧ f u = f b)) := fun a b ha hb => by
    rw [conn_more, h.same a b ha hb, h.same a u ha hu, h.same v b hv hb, h.same a v ha hv, h.same u b hu hb]
  refine ⟨fun a b ha hb => ?_, fun a ha => ?_⟩
  · rw [hc a b ha hb]
    unfold relab
    generalize f a = x
    generalize f b = y
    generalize f u = p
    generalize f v = q
    by_cases hx : x = max p q
    · rw [if_pos hx]
      by_cases hy : y = max p q
      · rw [if_pos hy]; constructor <;> intro h <;> omega
      · rw [if_neg hy]; constructor <;> intro h <;> omega
    · rw [if_neg hx]
      by_cases hy : y = max p q
      · rw [if_pos hy]; constructor <;> intro h <;> omega
      · rw [if_neg hy]; constructor <;> intro h <;> omega
  · have la := h.low a ha
    have lu := h.low u hu
    have lv := h.low v hv
    unfold relab
    by_cases hx : f a = max (f u) (f v)
    · rw [if_pos hx]
      refine ⟨by omega, by omega, ?_⟩
      rw [conn_more]
      by_cases hl : f u ≤ f v
      · rw [show min (f u) (f v) = f u by omega]
        have hav : Conn E a v := (h.same a v ha hv).1 (by omega)
        exact .inr (.inr ⟨hav, lu.2.2⟩)
      · rw [show min (f u) (f v) = f v by omega]
        have hau : Conn E a u := (h.same a u ha hu).1 (by omega)
        exact .inr (.inl ⟨hau, lv.2.2⟩)
    · rw [if_neg hx]
      exact ⟨la.1, la.2.1, la.2.2.mono fun _ _ e => .inl e⟩
/-- the label is the least of the class -/
theorem Labels.least {E : Nat → Nat → Prop} {J : Nat} {f : Nat → Int} (h : Labels E J f) {a b : Nat} (ha : a < J) (hb : b < J) (hc : Conn E a b) : f a ≤ b := by
  rw [(h.same a b ha hb).2 hc]; exact (h.low b hb).2.1
end Go.Proofs.Ytgiokjflfadeeaa
