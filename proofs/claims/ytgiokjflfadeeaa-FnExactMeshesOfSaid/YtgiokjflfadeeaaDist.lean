/-
  Plain law: how far each junction is from one junction over some airways; the first shortest walk. Whatever meets 'IsDist' is the one distance.
-/
import Derived.Test.YtgiokjflfadeeaaReach
namespace Go.Proofs.Ytgiokjflfadeeaa
set_option linter.unusedVariables false

structure IsDist (xs : List AW) (es : List Int) (m J to : Nat) (D : Nat → Int) : Prop where
  zero : D to = 0
  only : ∀ b, b < J → D b = 0 → b = to
  pred : ∀ b, b < J → 0 < D b → ∃ c, c < J ∧ Near xs es m b c ∧ D c = D b - 1
  step : ∀ b c, b < J → c < J → Near xs es m b c → 0 ≤ D b → 0 ≤ D c ∧ D c ≤ D b + 1
  low : ∀ b, b < J → -1 ≤ D b
theorem near_symm {xs : List AW} {es : List Int} {m b c : Nat} (h : Near xs es m b c) : Near xs es m c b := by
  obtain ⟨i, hi, h⟩ := h
  exact ⟨i, hi, h.elim (fun h => .inr ⟨h.2, h.1⟩) (fun h => .inl ⟨h.2, h.1⟩)⟩
theorem dist_le {xs : List AW} {es : List Int} {m J to : Nat} {D D' : Nat → Int} (hto : to < J) (h : IsDist xs es m J to D) (h' : IsDist xs es m J to D') : ∀ (n b : Nat), b < J → D b = (n : Int) → 0 ≤ D' b ∧ D' b ≤ (n : Int)
  | 0, b, hb, e => by
    rw [h.only b hb (by omega), h'.zero]; omega
  | n + 1, b, hb, e => by
    obtain ⟨c, hc, hn, e2⟩ := h.pred b hb (by omega)
    obtain ⟨g1, g2⟩ := dist_le hto h h' n c hc (by omega)
    obtain ⟨g3, g4⟩ := h'.step c b hc hb (near_symm hn) g1
    omega
theorem dist_one {xs : List AW} {es : List Int} {m J to : Nat} {D D' : Nat → Int} (hto : to < J) (h : IsDist xs es m J to D) (h' : IsDist xs es m J to D') {b : Nat} (hb : b < J) : D b = D' b := by
  have l := h.low b hb
  have l' := h'.low b hb
  rcases Int.lt_or_le (D b) 0 with g | g
  · rcases Int.lt_or_le (D' b) 0 with g' | g'
    · omega
    · obtain ⟨n, hn⟩ := Int.eq_ofNat_of_zero_le g'
      have := dist_le hto h' h n b hb hn
      omega
  · obtain ⟨n, hn⟩ := Int.eq_ofNat_of_zero_le g
    obtain ⟨g1, g2⟩ := dist_le hto h h' n b hb hn
    obtain ⟨n', hn'⟩ := Int.eq_ofNat_of_zero_le g1
    have := dist_le hto h' h n' b hb hn'
    omega
noncomputable def distF (xs : List AW) (es : List Int) (m J to : Nat) : Nat → Int := Classical.epsilon fun D => IsDist xs es m J to D
theorem distF_is {xs : List AW} {es : List Int} {m J to : Nat} {D : Nat → Int} (h : IsDist xs es m J to D) : IsDist xs es m J to (distF xs es m J to) := Classical.epsilon_spec (p := fun D => IsDist xs es m J to D) ⟨D, h⟩
theorem distF_eq {xs : List AW} {es : List Int} {m J to : Nat} {D : Nat → Int} (hto : to < J) (h : IsDist xs es m J to D) {b : Nat} (hb : b < J) : D b = distF xs es m J to b := dist_one hto h (distF_is h) hb

/-- the first airway by which a shortest walk leaves -/
def otherN (xs : List AW) (es : List Int) (i q : Nat) : Nat := if q = edgeU xs es i then edgeV xs es i else edgeU xs es i
def touchB (xs : List AW) (es : List Int) (i q : Nat) : Bool := decide (q = edgeU xs es i) || decide (q = edgeV xs es i)
def hopB (xs : List AW) (es : List Int) (D : Nat → Int) (q i : Nat) : Bool := touchB xs es i q && decide (D (otherN xs es i q) = D q - 1)
def stepV (xs : List AW) (es : List Int) (i q : Nat) : Int := if q = edgeU xs es i then atI es i + 1 else -(atI es i) - 1
def walkL (xs : List AW) (es : List Int) (m : Nat) (D : Nat → Int) : Nat → Nat → List Int
  | 0, _ => []
  | f + 1, q => match (List.range m).find? (hopB xs es D q) with
    | some i => stepV xs es i q :: walkL xs es m D f (otherN xs es i q)
    | none => []
theorem find_first {m i : Nat} {p : Nat → Bool} (hi : i < m) (hp : p i = true) (hb : ∀ k, k < i → p k = false) : (List.range m).find? p = some i := by
  rw [List.find?_range_eq_some]
  exact ⟨hp, by simpa using hi, fun k hk => by simp [hb k hk]⟩
theorem walk_step {xs : List AW} {es : List Int} {m q i : Nat} {D : Nat → Int} (hq : 0 < D q) (hi : i < m) (hp : hopB xs es D q i = true) (hb : ∀ k, k < i → hopB xs es D q k = false) :
    walkL xs es m D (D q).toNat q = stepV xs es i q :: walkL xs es m D (D (otherN xs es i q)).toNat (otherN xs es i q) := by
  obtain ⟨n, hn⟩ : ∃ n, (D q).toNat = n + 1 := ⟨(D q).toNat - 1, by omega⟩
  have hd : D (otherN xs es i q) = D q - 1 := by
    unfold hopB at hp
    simp only [Bool.and_eq_true, decide_eq_true_eq] at hp
    exact hp.2
  rw [hd, show (D q - 1).toNat = n by omega, hn]
  show (match (List.range m).find? (hopB xs es D q) with | some i => _ | none => _) = _
  rw [find_first hi hp hb]
theorem walk_end {xs : List AW} {es : List Int} {m q : Nat} {D : Nat → Int} (h : D q = 0) : walkL xs es m D (D q).toNat q = [] := by rw [h]; rfl
/-- a hop leads on, one step nearer -/
theorem hop_other {xs : List AW} {es : List Int} {q i : Nat} {D : Nat → Int} (hp : hopB xs es D q i = true) : touchB xs es i q = true ∧ D (otherN xs es i q) = D q - 1 := by
  unfold hopB at hp
  simpa using hp
theorem other_near {xs : List AW} {es : List Int} {m q i : Nat} (hi : i < m) (ht : touchB xs es i q = true) : Near xs es m q (otherN xs es i q) := by
  unfold touchB at ht
  simp only [Bool.or_eq_true, decide_eq_true_eq] at ht
  unfold otherN
  by_cases e : q = edgeU xs es i
  · rw [if_pos e]; exact ⟨i, hi, .inl ⟨e, rfl⟩⟩
  · rw [if_neg e]; exact ⟨i, hi, .inr ⟨ht.resolve_left e, rfl⟩⟩
/-- where the distance is positive there is a hop -/
theorem hop_has {xs : List AW} {es : List Int} {m J to q : Nat} {D : Nat → Int} (h : IsDist xs es m J to D) (hne : ∀ i, i < m → edgeU xs es i ≠ edgeV xs es i) (hq : q < J) (hd : 0 < D q) : ∃ i, i < m ∧ hopB xs es D q i = true := by
  obtain ⟨c, hc, ⟨i, hi, hh⟩, e⟩ := h.pred q hq hd
  refine ⟨i, hi, ?_⟩
  unfold hopB touchB otherN
  rcases hh with ⟨h1, h2⟩ | ⟨h1, h2⟩
  · rw [if_pos h1, ← h2, e]; simp [h1]
  · have hn := hne i hi
    rw [if_neg (by omega), ← h2, e]; simp [h1]
theorem dist_lt {xs : List AW} {es : List Int} {m J : Nat} {D : Nat → Int} (hp : ∀ b, b < J → 0 < D b → ∃ c, c < J ∧ Near xs es m b c ∧ D c = D b - 1) : ∀ (n b : Nat), b < J → D b = (n : Int) → ∃ l : List Nat, l.length = n + 1 ∧ l.Nodup ∧ (∀ c, c ∈ l → c < J ∧ D c ≤ n)
  | 0, b, hb, e => ⟨[b], rfl, by simp, fun c hc => by
      have hcb : c = b := by simpa using hc
      subst hcb; exact ⟨hb, by omega⟩⟩
  | n + 1, b, hb, e => by
    obtain ⟨c, hc, _, e2⟩ := hp b hb (by omega)
    obtain ⟨l, h1, h2, h3⟩ := dist_lt hp n c hc (by omega)
    refine ⟨b :: l, by simp [h1], ?_, fun x hx => ?_⟩
    · rw [List.nodup_cons]
      exact ⟨fun hm => by have := (h3 b hm).2; omega, h2⟩
    · rcases List.mem_cons.1 hx with rfl | hx
      · exact ⟨hb, by omega⟩
      · exact ⟨(h3 x hx).1, by have := (h3 x hx).2; omega⟩
theorem nodup_le {J : Nat} {l : List Nat} (h : l.Nodup) (hb : ∀ c, c ∈ l → c < J) : l.length ≤ J := by
  have := List.Nodup.length_le_of_subset h (l₂ := List.range J) (fun c hc => List.mem_range.2 (hb c hc))
  simpa using this
theorem hop_ext {xs : List AW} {es : List Int} {J q i : Nat} {D D' : Nat → Int} (h : ∀ b, b < J → D b = D' b) (hq : q < J) (hu : edgeU xs es i < J) (hv : edgeV xs es i < J) : hopB xs es D q i = hopB xs es D' q i := by
  have ho : otherN xs es i q < J := by unfold otherN; split <;> assumption
  unfold hopB; rw [h _ ho, h _ hq]
theorem find_ext {m : Nat} {p p' : Nat → Bool} (h : ∀ i, i < m → p i = p' i) : (List.range m).find? p = (List.range m).find? p' := by
  have : ∀ l : List Nat, (∀ i, i ∈ l → i < m) → l.find? p = l.find? p' := by
    intro l
    induction l with
    | nil => intro _; rfl
    | cons a t ih =>
      intro hl
      rw [List.find?_cons, List.find?_cons, h a (hl a (by simp)), ih (fun i hi => hl i (by simp [hi]))]
  exact this _ (fun i hi => List.mem_range.1 hi)
theorem walkL_ext {xs : List AW} {es : List Int} {m J : Nat} {D D' : Nat → Int} (h : ∀ b, b < J → D b = D' b) (he : ∀ i, i < m → edgeU xs es i < J ∧ edgeV xs es i < J) : ∀ (f q : Nat), q < J → walkL xs es m D f q = walkL xs es m D' f q
  | 0, q, _ => rfl
  | f + 1, q, hq => by
    have hf : (List.range m).find? (hopB xs es D q) = (List.range m).find? (hopB xs es D' q) := find_ext fun i hi => hop_ext h hq (he i hi).1 (he i hi).2
    show (match (List.range m).find? (hopB xs es D q) with | some i => stepV xs es i q :: walkL xs es m D f (otherN xs es i q) | none => []) = (match (List.range m).find? (hopB xs es D' q) with | some i => stepV xs es i q :: walkL xs es m D' f (otherN xs es i q) | none => [])
    rw [hf]
    cases hh : (List.range m).find? (hopB xs es D' q) with
    | none => rfl
    | some i =>
      have him : i < m := List.mem_range.1 (List.mem_of_find?_eq_some hh)
      have ho : otherN xs es i q < J := by unfold otherN; split; exact (he i him).2; exact (he i him).1
      show _ :: _ = _ :: _
      rw [walkL_ext h he f _ ho]
theorem near_up {xs : List AW} {es : List Int} {t m b c : Nat} (h : Near xs es t b c) (ht : t ≤ m) : Near xs es m b c := by
  obtain ⟨i, hi, h⟩ := h; exact ⟨i, by omega, h⟩
def setF (F : Nat → Int) (v : Nat) (x : Int) : Nat → Int := fun b => if b = v then x else F b
theorem setF_same (F : Nat → Int) (v : Nat) (x : Int) : setF F v x v = x := by simp [setF]
theorem setF_other (F : Nat → Int) {v b : Nat} (x : Int) (h : b ≠ v) : setF F v x b = F b := by simp [setF, h]
/-- the reference's rounds: s of them are done, and in this one the first t airways -/
structure Relax (xs : List AW) (es : List Int) (m J to s t : Nat) (F : Nat → Int) : Prop where
  zero : F to = 0
  only : ∀ b, b < J → F b = 0 → b = to
  pred : ∀ b, b < J → 0 < F b → ∃ c, c < J ∧ Near xs es m b c ∧ F c = F b - 1
  low : ∀ b, b < J → -1 ≤ F b
  high : ∀ b, b < J → F b ≤ (s : Int) + 1
  old : ∀ b c, b < J → c < J → Near xs es m b c → 0 ≤ F b → F b < s → 0 ≤ F c ∧ F c ≤ F b + 1
  cur : ∀ b c, b < J → c < J → Near xs es t b c → F b = s → 0 ≤ F c
theorem Relax.start (xs : List AW) (es : List Int) (m J to : Nat) : Relax xs es m J to 0 0 (setF (fun _ => -1) to 0) := by
  have h1 : ∀ b, b ≠ to → setF (fun _ => (-1 : Int)) to 0 b = -1 := fun b hb => setF_other _ _ hb
  have h0 := setF_same (fun _ => (-1 : Int)) to 0
  refine ⟨h0, fun b hb e => ?_, fun b hb e => ?_, fun b hb => ?_, fun b hb => ?_, fun b c _ _ _ h2 h3 => by omega, fun b c _ _ hn _ => by obtain ⟨i, hi, _⟩ := hn; omega⟩
  all_goals by_cases e2 : b = to
  · exact e2
  · rw [h1 b e2] at e; omega
  · rw [e2, h0] at e; omega
  · rw [h1 b e2] at e; omega
  · rw [e2, h0]; omega
  · rw [h1 b e2]; omega
  · rw [e2, h0]; omega
  · rw [h1 b e2]; omega
theorem Relax.set {xs : List AW} {es : List Int} {m J to s t u v : Nat} {F : Nat → Int} (h : Relax xs es m J to s t F) (hu : u < J) (hv : v < J) (hn : Near xs es m u v) (h1 : F u = s) (h2 : F v < 0) : Relax xs es m J to s t (setF F v ((s : Int) + 1)) := by
  have hs := setF_same F v ((s : Int) + 1)
  have ho : ∀ b, b ≠ v → setF F v ((s : Int) + 1) b = F b := fun b hb => setF_other F _ hb
  have huv : u ≠ v := fun e => by rw [e] at h1; omega
  refine ⟨?_, fun b hb e => ?_, fun b hb e => ?_, fun b hb => ?_, fun b hb => ?_, fun b c hb hc hnb h3 h4 => ?_, fun b c hb hc hnb h3 => ?_⟩
  · rw [ho to (fun e => by rw [← e, h.zero] at h2; omega)]; exact h.zero
  · by_cases e2 : b = v
    · rw [e2, hs] at e; omega
    · rw [ho b e2] at e; exact h.only b hb e
  · by_cases e2 : b = v
    · exact ⟨u, hu, by rw [e2]; exact near_symm hn, by rw [ho u huv, e2, hs, h1]; omega⟩
    · rw [ho b e2] at e ⊢
      obtain ⟨c, hc, g1, g2⟩ := h.pred b hb e
      exact ⟨c, hc, g1, by rw [ho c (fun e3 => by rw [e3] at g2; omega)]; exact g2⟩
  · by_cases e2 : b = v
    · rw [e2, hs]; omega
    · rw [ho b e2]; exact h.low b hb
  · by_cases e2 : b = v
    · rw [e2, hs]; omega
    · rw [ho b e2]; exact h.high b hb
  · by_cases e2 : b = v
    · rw [e2, hs] at h4; omega
    · rw [ho b e2] at h3 h4 ⊢
      have g := h.old b c hb hc hnb h3 h4
      rw [ho c (fun e3 => by rw [e3] at g; omega)]; exact g
  · by_cases e2 : b = v
    · rw [e2, hs] at h3; omega
    · rw [ho b e2] at h3
      have g := h.cur b c hb hc hnb h3
      by_cases e3 : c = v
      · rw [e3, hs]; omega
      · rw [ho c e3]; exact g
/-- one airway more -/
theorem Relax.pass {xs : List AW} {es : List Int} {m J to s t : Nat} {F : Nat → Int} (h : Relax xs es m J to s t F) (h1 : F (edgeU xs es t) = s → 0 ≤ F (edgeV xs es t)) (h2 : F (edgeV xs es t) = s → 0 ≤ F (edgeU xs es t)) : Relax xs es m J to s (t + 1) F :=
  ⟨h.zero, h.only, h.pred, h.low, h.high, h.old, fun b c hb hc hn e => by
    obtain ⟨i, hi, hh⟩ := hn
    by_cases e2 : i = t
    · subst e2
      rcases hh with ⟨g1, g2⟩ | ⟨g1, g2⟩
      · rw [g2]; exact h1 (by rw [← g1]; exact e)
      · rw [g2]; exact h2 (by rw [← g1]; exact e)
    · exact h.cur b c hb hc ⟨i, by omega, hh⟩ e⟩
theorem Relax.edgeA {xs : List AW} {es : List Int} {m J to s i U V : Nat} {F : Nat → Int} (h : Relax xs es m J to s i F) (hUV : U = edgeU xs es i ∧ V = edgeV xs es i) (hU : U < J) (hV : V < J) (hn : Near xs es m U V) (h1 : F U = s) (h2 : F V < 0) : Relax xs es m J to s (i + 1) (setF F V ((s : Int) + 1)) := by
  refine (h.set hU hV hn h1 h2).pass (fun _ => ?_) (fun e => ?_)
  · rw [← hUV.2, setF_same]; omega
  · rw [← hUV.2, setF_same] at e; omega
theorem Relax.edgeB {xs : List AW} {es : List Int} {m J to s i U V : Nat} {F : Nat → Int} (h : Relax xs es m J to s i F) (hUV : U = edgeU xs es i ∧ V = edgeV xs es i) (hU : U < J) (hV : V < J) (hn : Near xs es m U V) (h1 : F V = s) (h2 : F U < 0) : Relax xs es m J to s (i + 1) (setF F U ((s : Int) + 1)) := by
  refine (h.set hV hU (near_symm hn) h1 h2).pass (fun e => ?_) (fun _ => ?_)
  · rw [← hUV.1, setF_same] at e; omega
  · rw [← hUV.1, setF_same]; omega
theorem Relax.edgeC {xs : List AW} {es : List Int} {m J to s i U V : Nat} {F : Nat → Int} (h : Relax xs es m J to s i F) (hUV : U = edgeU xs es i ∧ V = edgeV xs es i) (h1 : ¬ (F U = s ∧ F V < 0)) (h2 : ¬ (F V = s ∧ F U < 0)) : Relax xs es m J to s (i + 1) F := by
  refine h.pass (fun e => ?_) (fun e => ?_)
  · rw [← hUV.1] at e; rw [← hUV.2]; omega
  · rw [← hUV.2] at e; rw [← hUV.1]; omega
theorem Relax.up {xs : List AW} {es : List Int} {m J to s : Nat} {F : Nat → Int} (h : Relax xs es m J to s m F) : Relax xs es m J to (s + 1) 0 F :=
  ⟨h.zero, h.only, h.pred, h.low, fun b hb => by have := h.high b hb; omega, fun b c hb hc hn h1 h2 => by
    by_cases e : F b = s
    · exact ⟨h.cur b c hb hc hn e, by have := h.high c hc; omega⟩
    · exact h.old b c hb hc hn h1 (by omega), fun b c _ _ hn _ => by obtain ⟨i, hi, _⟩ := hn; omega⟩
theorem Relax.fin {xs : List AW} {es : List Int} {m J to : Nat} {F : Nat → Int} (h : Relax xs es m J to J 0 F) : IsDist xs es m J to F :=
  ⟨h.zero, h.only, h.pred, fun b c hb hc hn h1 => by
    obtain ⟨n, hn'⟩ := Int.eq_ofNat_of_zero_le h1
    obtain ⟨l, g1, g2, g3⟩ := dist_lt h.pred n b hb hn'
    have := nodup_le g2 (fun c hc => (g3 c hc).1)
    exact h.old b c hb hc hn h1 (by omega), h.low⟩
/-- the program's queue: P all that ever stood in it, k of them are done, of the next one the first t airways -/
structure Bfs (xs : List AW) (es : List Int) (m J to : Nat) (F : Nat → Int) (P : List Nat) (k t : Nat) : Prop where
  mem : ∀ b, b < J → (b ∈ P ↔ 0 ≤ F b)
  bd : ∀ b, b ∈ P → b < J
  low : ∀ b, b < J → -1 ≤ F b
  zero : F to = 0
  only : ∀ b, b < J → F b = 0 → b = to
  pred : ∀ b, b < J → 0 < F b → ∃ c, c < J ∧ Near xs es m b c ∧ F c = F b - 1
  nodup : P.Nodup
  sorted : ∀ i j (hi : i < P.length) (hj : j < P.length), i ≤ j → F P[i] ≤ F P[j]
  done : ∀ i (hi : i < P.length), i < k → ∀ c, c < J → Near xs es m P[i] c → 0 ≤ F c ∧ F c ≤ F P[i] + 1
  part : ∀ (hk : k < P.length) c, c < J → Near xs es t P[k] c → 0 ≤ F c ∧ F c ≤ F P[k] + 1
  top : ∀ (hk : k < P.length) b, b < J → F b ≤ F P[k] + 1
theorem Bfs.start (xs : List AW) (es : List Int) (m J to : Nat) (hto : to < J) : Bfs xs es m J to (setF (fun _ => -1) to 0) [to] 0 0 := by
  have h1 : ∀ b, b ≠ to → setF (fun _ => (-1 : Int)) to 0 b = -1 := fun b hb => setF_other _ _ hb
  have h0 := setF_same (fun _ => (-1 : Int)) to 0
  have hr := Relax.start xs es m J to
  refine ⟨fun b hb => ?_, fun b hb => ?_, hr.low, hr.zero, hr.only, hr.pred, by simp, fun i j hi hj _ => ?_, fun i _ h => by omega, fun _ c _ hn => by obtain ⟨i, hi, _⟩ := hn; omega, fun hk b hb => ?_⟩
  · by_cases e : b = to
    · rw [e, h0]; simp
    · rw [h1 b e]; simp [e]
  · have : b = to := by simpa using hb
    omega
  · have e1 : i = 0 := by simpa using hi
    have e2 : j = 0 := by simpa using hj
    subst e1 e2; exact Int.le_refl _
  · show _ ≤ setF _ _ _ to + 1
    rw [h0]
    have := hr.high b hb
    omega
theorem Bfs.len {xs : List AW} {es : List Int} {m J to k t : Nat} {F : Nat → Int} {P : List Nat} (h : Bfs xs es m J to F P k t) : P.length ≤ J := nodup_le h.nodup h.bd
theorem Bfs.pass {xs : List AW} {es : List Int} {m J to k t : Nat} {F : Nat → Int} {P : List Nat} (h : Bfs xs es m J to F P k t)
    (hn : ∀ (hk : k < P.length), touchB xs es t P[k] = true → 0 ≤ F (otherN xs es t P[k])) (hne : edgeU xs es t ≠ edgeV xs es t) : Bfs xs es m J to F P k (t + 1) :=
  ⟨h.mem, h.bd, h.low, h.zero, h.only, h.pred, h.nodup, h.sorted, h.done, fun hk c hc hh => by
    obtain ⟨i, hi, he⟩ := hh
    by_cases e : i = t
    · subst e
      have hto : touchB xs es i P[k] = true ∧ otherN xs es i P[k] = c := by
        unfold touchB otherN
        rcases he with ⟨e1, e2⟩ | ⟨e1, e2⟩
        · rw [if_pos e1]; exact ⟨by simp [e1], e2.symm⟩
        · rw [if_neg (by rw [e1]; exact hne.symm)]; exact ⟨by simp [e1], e2.symm⟩
      have h1 := hn hk hto.1
      rw [hto.2] at h1
      exact ⟨h1, h.top hk c hc⟩
    · exact h.part hk c hc ⟨i, by omega, he⟩, h.top⟩
theorem Bfs.add {xs : List AW} {es : List Int} {m J to k t v : Nat} {F : Nat → Int} {P : List Nat} (h : Bfs xs es m J to F P k t) (hk : k < P.length) (hv : v < J) (hn : Near xs es m P[k] v) (h2 : F v < 0) : Bfs xs es m J to (setF F v (F P[k] + 1)) (P ++ [v]) k t := by
  obtain ⟨q, hq⟩ : ∃ q, q = P[k] := ⟨_, rfl⟩
  rw [← hq] at hn ⊢
  have hqP : q ∈ P := by rw [hq]; exact List.getElem_mem hk
  have hqJ := h.bd q hqP
  have hq0 := (h.mem q hqJ).1 hqP
  have hs := setF_same F v (F q + 1)
  have ho : ∀ b, b ≠ v → setF F v (F q + 1) b = F b := fun b hb => setF_other F _ hb
  have hvP : v ∉ P := fun hm => by have := (h.mem v hv).1 hm; omega
  have hqv : q ≠ v := fun e => by rw [e] at hq0; omega
  have hoP : ∀ b, b ∈ P → setF F v (F q + 1) b = F b := fun b hb => ho b (fun e => hvP (by rw [← e]; exact hb))
  have htop := h.top hk
  rw [← hq] at htop
  have gl : ∀ i (hi : i < P.length), (P ++ [v])[i]'(by simp; omega) = P[i] := fun i hi => List.getElem_append_left hi
  refine ⟨fun b hb => ?_, fun b hb => ?_, fun b hb => ?_, ?_, fun b hb e => ?_, fun b hb e => ?_, ?_, fun i j hi hj hij => ?_, fun i hi hik c hc hh => ?_, fun hk2 c hc hh => ?_, fun hk2 b hb => ?_⟩
  · by_cases e : b = v
    · rw [e, hs]; simp; omega
    · rw [ho b e, ← h.mem b hb]; simp [e]
  · rcases List.mem_append.1 hb with hb | hb
    · exact h.bd b hb
    · have : b = v := by simpa using hb
      omega
  · by_cases e : b = v
    · rw [e, hs]; omega
    · rw [ho b e]; exact h.low b hb
  · rw [ho to (fun e => by rw [← e, h.zero] at h2; omega)]; exact h.zero
  · by_cases e2 : b = v
    · rw [e2, hs] at e; omega
    · rw [ho b e2] at e; exact h.only b hb e
  · by_cases e2 : b = v
    · exact ⟨q, hqJ, by rw [e2]; exact near_symm hn, by rw [ho q hqv, e2, hs]; omega⟩
    · rw [ho b e2] at e ⊢
      obtain ⟨c, hc, g1, g2⟩ := h.pred b hb e
      exact ⟨c, hc, g1, by rw [ho c (fun e3 => by rw [e3] at g2; omega)]; exact g2⟩
  · rw [List.nodup_append]
    exact ⟨h.nodup, by simp, fun x hx y hy => by
      rintro rfl
      have : x = v := by simpa using hy
      subst this; exact hvP hx⟩
  · by_cases hj2 : j < P.length
    · have hi2 : i < P.length := by omega
      rw [gl i hi2, gl j hj2, hoP _ (List.getElem_mem hi2), hoP _ (List.getElem_mem hj2)]
      exact h.sorted i j hi2 hj2 hij
    · have hj3 : j = P.length := by simp at hj; omega
      have e2 : (P ++ [v])[j] = v := by subst hj3; simp
      rw [e2, hs]
      by_cases hi2 : i < P.length
      · rw [gl i hi2, hoP _ (List.getElem_mem hi2)]
        exact htop _ (h.bd _ (List.getElem_mem hi2))
      · have e3 : (P ++ [v])[i] = v := by
          have : i = P.length := by simp at hi; omega
          subst this; simp
        rw [e3, hs]; exact Int.le_refl _
  · have hi2 : i < P.length := by omega
    rw [gl i hi2] at hh ⊢
    rw [hoP _ (List.getElem_mem hi2)]
    have g := h.done i hi2 hik c hc hh
    rw [ho c (fun e => by rw [e] at g; omega)]; exact g
  · rw [gl k hk, ← hq] at hh ⊢
    rw [ho q hqv]
    have g := h.part hk c hc (by rw [← hq]; exact hh)
    rw [← hq] at g
    rw [ho c (fun e => by rw [e] at g; omega)]; exact g
  · rw [gl k hk, ← hq, ho q hqv]
    by_cases e : b = v
    · rw [e, hs]; exact Int.le_refl _
    · rw [ho b e]; exact htop b hb
theorem Bfs.up {xs : List AW} {es : List Int} {m J to k : Nat} {F : Nat → Int} {P : List Nat} (h : Bfs xs es m J to F P k m) : Bfs xs es m J to F P (k + 1) 0 :=
  ⟨h.mem, h.bd, h.low, h.zero, h.only, h.pred, h.nodup, h.sorted, fun i hi hik c hc hn => by
    by_cases e : i = k
    · subst e; exact h.part hi c hc hn
    · exact h.done i hi (by omega) c hc hn, fun _ c _ hn => by obtain ⟨i, hi, _⟩ := hn; omega, fun hk b hb => by
    have h1 := h.top (by omega) b hb
    have h2 := h.sorted k (k + 1) (by omega) hk (by omega)
    omega⟩
theorem Bfs.fin {xs : List AW} {es : List Int} {m J to k t : Nat} {F : Nat → Int} {P : List Nat} (h : Bfs xs es m J to F P k t) (hk : k = P.length) : IsDist xs es m J to F :=
  ⟨h.zero, h.only, h.pred, fun b c hb hc hn h1 => by
    obtain ⟨i, hi, rfl⟩ := List.getElem_of_mem ((h.mem b hb).2 h1)
    exact h.done i hi (by omega) c hc hn, h.low⟩
end Go.Proofs.Ytgiokjflfadeeaa
