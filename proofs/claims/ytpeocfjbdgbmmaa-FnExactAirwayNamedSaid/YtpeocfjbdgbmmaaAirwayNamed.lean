/-
  FnExactAirwayNamed: for every mine and name the program's AirwayNamed returns what the reference's returns, and leaves the mine alone.
-/
import Derived.Test.YtpeocfjbdgbmmaaFind
import Derived.Test.YtpeocfjbdgbmmaaRowM
import Derived.Test.YtpeocfjbdgbmmaaNum
import Derived.RowKit3
import Derived.ProofKit
import Derived.OpenShut
import Derived.Lib.SmallJoins
namespace Go.Proofs.Ytpeocfjbdgbmmaa
open Go.RowKit
set_option linter.unusedVariables false

noncomputable def namA (j : Int) (xs : List AW) (s : ByteArray) : Int := if mineB j xs then (if findF xs s < 0 then 0 else findF xs s) else 0
noncomputable def namC (j : Int) (xs : List AW) (s : ByteArray) : Int := if mineB j xs then (if findF xs s < 0 then 3 else 0) else 1
theorem nam_ret {a b a' b' : Int} (h : a' = a ∧ b' = b) : Ending.returned (.tuple #[.int .i64 a, .int .i64 b]) = .returned (.tuple #[.int .i64 a', .int .i64 b']) := by rw [h.1, h.2]
def NamPost (j : Int) (xs : List AW) (s : ByteArray) (w : World) (e : Ending) (w' : World) : Prop := e = .returned (.tuple #[.int .i64 (namA j xs s), .int .i64 (namC j xs s)]) ∧ Below w.heap.size w w'
theorem findF_bd (xs : List AW) (s : ByteArray) (n : Nat) (hn : xs.length = n) (h20 : n ≤ 1048576) : -1 ≤ findF xs s ∧ findF xs s ≤ 1048576 := by
  rcases findF_spec xs s with ⟨h, _⟩ | ⟨k, hk, h, _⟩ <;> omega

theorem namedP_any (j : Int) (A : Option Addr) (c : Nat) (xs : List AW) (n : Nat) (s : ByteArray) (w : World) (hn : xs.length = n) (h20 : n ≤ 1048576) (hs : ∀ k, k < n → (atA xs k).a.size ≤ maxLen) (hx : Airs w A xs) :
    Calls Try.prog 22 #[.agg #[.int .i64 j, .slice A n c], .string s] w (NamPost j xs s w) := by
  have b0 : Below w.heap.size w (w.alloc (.cells #[.int .i64 j, .slice A n c] 29)) := by ((repeat (first | with_reducible exact Below.refl _ _ | with_reducible apply below_drewN | with_reducible apply Below.drew | (with_reducible refine Below.alloc ?_ ?_ _) | (with_reducible refine Below.setCell ?_ ?_ _) | (with_reducible refine Below.trans ?_ (hb4.mono ?_)) | (with_reducible refine Below.trans ?_ (hb3.mono ?_)) | (with_reducible refine Below.trans ?_ (hb2.mono ?_)))); all_goals (first | (simp <;> omega) | (have h2s := hb2.size; (try simp at h2s); (try simp); omega) | (have h2s := hb2.size; have h3s := hb3.size; (try simp at h2s); (try simp at h3s); (try simp); omega) | (have h2s := hb2.size; have h3s := hb3.size; have h4s := hb4.size; (try simp at h2s); (try simp at h3s); (try simp at h4s); (try simp); omega)))
  have HX := Lib.hid (hx.next b0)
  have HN := Lib.hid hn
  have HS := Lib.hid hs
  have hf := findF_bd xs s n hn h20
  clear hx hn hs
  go_enter Try.func22, Try.ntmps22
  go_wp2_with fail
  refine (validMineP_any j _ _ xs n _ HN.out h20 HS.out HX.out).mono ?_
  by_cases hv : mineB j xs = true
  · have HV := Lib.hid hv
    rw [HV.out]
    clear hv
    rintro e w1 ⟨rfl, b1⟩
    have m0 : w1.cell? ⟨w.heap.size, 0, none⟩ = some (.int .i64 j) := (b1.cell (by simp)).trans (by simp [go_sem])
    have m1 : w1.cell? ⟨w.heap.size, 1, none⟩ = some (.slice A n c) := (b1.cell (by simp)).trans (by simp [go_sem])
    have c1 := stepB b0 b1
    have HX1 := Lib.hid (HX.out.next b1)
    clear b0 b1
    go_wp2_with fail
    refine (airwayNamedI_any j _ _ xs n s _ HN.out h20 HX1.out).mono ?_; rintro e w2 ⟨rfl, b2⟩
    have c2 := stepB c1 b2
    have HD := Lib.hid (show namA j xs s = (if findF xs s < 0 then 0 else findF xs s) ∧ namC j xs s = (if findF xs s < 0 then 3 else 0) by unfold namA namC; rw [HV.out]; exact ⟨rfl, rfl⟩)
    clear c1 b2
    generalize findF xs s = i at hf HD ⊢
    by_cases hi : 0 ≤ i
    · go_wp2_with fail
      refine (orNF_yes _ _ _ (by first | (simp; done) | (simp; omega))).mono ?_; rintro e w3 ⟨rfl, rfl⟩
      go_wp2_with fail
      go_ret2
      exact ⟨nam_ret (by rw [HD.out.1, HD.out.2, if_neg (by omega), if_neg (by omega)]; exact ⟨rfl, rfl⟩), c2⟩
    · have hi : i < 0 := by omega
      go_wp2_with fail
      refine (orNF_no _ _ _ (by first | (simp; done) | (simp; omega))).mono ?_; rintro e w3 ⟨rfl, rfl⟩
      go_wp2_with fail
      go_ret2
      exact ⟨nam_ret (by rw [HD.out.1, HD.out.2, if_pos hi, if_pos hi]; exact ⟨rfl, rfl⟩), c2⟩
  · simp only [Bool.not_eq_true] at hv
    have HV := Lib.hid hv
    rw [HV.out]
    clear hv
    rintro e w1 ⟨rfl, b1⟩
    have c1 := stepB b0 b1
    clear b0 b1
    go_wp2_with fail
    go_ret2
    exact ⟨nam_ret (by unfold namA namC; rw [HV.out]; exact ⟨rfl, rfl⟩), c1⟩

theorem namedS_any (j : Int) (A : Option Addr) (c : Nat) (xs : List AW) (n : Nat) (s : ByteArray) (w : World) (hn : xs.length = n) (h20 : n ≤ 1048576) (hs : ∀ k, k < n → (atA xs k).a.size ≤ maxLen) (hx : Airs w A xs) :
    Calls Try.prog 21 #[.agg #[.int .i64 j, .slice A n c], .string s] w (NamPost j xs s w) := by
  have b0 : Below w.heap.size w (w.alloc (.cells #[.int .i64 j, .slice A n c] 29)) := by ((repeat (first | with_reducible exact Below.refl _ _ | with_reducible apply below_drewN | with_reducible apply Below.drew | (with_reducible refine Below.alloc ?_ ?_ _) | (with_reducible refine Below.setCell ?_ ?_ _) | (with_reducible refine Below.trans ?_ (hb4.mono ?_)) | (with_reducible refine Below.trans ?_ (hb3.mono ?_)) | (with_reducible refine Below.trans ?_ (hb2.mono ?_)))); all_goals (first | (simp <;> omega) | (have h2s := hb2.size; (try simp at h2s); (try simp); omega) | (have h2s := hb2.size; have h3s := hb3.size; (try simp at h2s); (try simp at h3s); (try simp); omega) | (have h2s := hb2.size; have h3s := hb3.size; have h4s := hb4.size; (try simp at h2s); (try simp at h3s); (try simp at h4s); (try simp); omega)))
  have HX := Lib.hid (hx.next b0)
  have HN := Lib.hid hn
  have HS := Lib.hid hs
  have hf := findF_bd xs s n hn h20
  clear hx hn hs
  go_enter Try.func21, Try.ntmps21
  go_wp2_with fail
  refine (l04Ok_any _ j A c xs n _ HN.out h20 HS.out HX.out (by simp [go_sem]) (by simp [go_sem])).mono ?_
  by_cases hv : mineB j xs = true
  · have HV := Lib.hid hv
    rw [HV.out]
    clear hv
    rintro e w1 ⟨rfl, q, rfl⟩
    have c1 := below_drewN b0 q
    have HX1 := Lib.hid (HX.out.next (below_drewN (Below.refl _ _) q))
    clear b0
    go_wp2_with fail
    refine (l04Find_any _ j A c xs n s _ HN.out h20 HX1.out (by simp [go_sem])).mono ?_; rintro e w2 ⟨rfl, rfl⟩
    have HD := Lib.hid (show namA j xs s = (if findF xs s < 0 then 0 else findF xs s) ∧ namC j xs s = (if findF xs s < 0 then 3 else 0) by unfold namA namC; rw [HV.out]; exact ⟨rfl, rfl⟩)
    generalize findF xs s = i at hf HD ⊢
    by_cases hi : 0 ≤ i
    · go_wp2_with fail
      go_ret2
      exact ⟨nam_ret (by rw [HD.out.1, HD.out.2, if_neg (by omega), if_neg (by omega)]; exact ⟨rfl, rfl⟩), c1⟩
    · have hi : i < 0 := by omega
      go_wp2_with fail
      go_ret2
      exact ⟨nam_ret (by rw [HD.out.1, HD.out.2, if_pos hi, if_pos hi]; exact ⟨rfl, rfl⟩), c1⟩
  · simp only [Bool.not_eq_true] at hv
    have HV := Lib.hid hv
    rw [HV.out]
    clear hv
    rintro e w1 ⟨rfl, q, rfl⟩
    have c1 := below_drewN b0 q
    clear b0
    go_wp2_with fail
    go_ret2
    exact ⟨nam_ret (by unfold namA namC; rw [HV.out]; exact ⟨rfl, rfl⟩), c1⟩

set_option maxHeartbeats 1000000 in
theorem law_AirwayNamed (j : Int) (A : Option Addr) (n c : Nat) (xs : List AW) (hn : xs.length = n) (hm : n ≤ maxLen) (hs : ∀ k, k < n → (atA xs k).a.size ≤ maxLen) (s : ByteArray) (hss : s.size ≤ maxLen) (w : World) (hx : Airs w A xs) :
    Calls Try.prog 5 #[.agg #[.int .i64 j, .slice A n c], .string s] w fun e w' => e = .returned (.bool true) ∧ Below w.heap.size w w' := by
  unfold maxLen at hss
  by_cases hbig : 1048576 < s.size
  · clear hx hs hn
    go_enter Try.func5, Try.ntmps5
    go_wp2_with fail
    go_ret
    exact ⟨rfl, by ((repeat (first | with_reducible exact Below.refl _ _ | with_reducible apply below_drewN | with_reducible apply Below.drew | (with_reducible refine Below.alloc ?_ ?_ _) | (with_reducible refine Below.setCell ?_ ?_ _) | (with_reducible refine Below.trans ?_ (hb4.mono ?_)) | (with_reducible refine Below.trans ?_ (hb3.mono ?_)) | (with_reducible refine Below.trans ?_ (hb2.mono ?_)))); all_goals (first | (simp <;> omega) | (have h2s := hb2.size; (try simp at h2s); (try simp); omega) | (have h2s := hb2.size; have h3s := hb3.size; (try simp at h2s); (try simp at h3s); (try simp); omega) | (have h2s := hb2.size; have h3s := hb3.size; have h4s := hb4.size; (try simp at h2s); (try simp at h3s); (try simp at h4s); (try simp); omega)))⟩
  unfold maxLen at hm
  have HX := Lib.hid hx
  have HN := Lib.hid hn
  have HS := Lib.hid hs
  clear hx hn hs
  have b0 : Below w.heap.size w (w.alloc (.cells #[.int .i64 j, .slice A n c] 24)) := (Below.refl _ _).alloc (Nat.le_refl _) _
  go_enter Try.func5, Try.ntmps5
  go_wp2_with fail
  refine (szMine_any j A c xs n 1048576 _ HN.out (by unfold maxLen; omega) (by omega) (by omega) HS.out (HX.out.next b0)).mono ?_; rintro e w1 ⟨r, rfl, hr, b1⟩
  have m0 : w1.cell? ⟨w.heap.size, 0, none⟩ = some (.int .i64 j) := (b1.cell (by simp)).trans (by simp [go_sem])
  have m1 : w1.cell? ⟨w.heap.size, 1, none⟩ = some (.slice A n c) := (b1.cell (by simp)).trans (by simp [go_sem])
  have c1 := stepB b0 b1
  clear b0 b1
  by_cases hr0 : r < 0
  · go_wp2_with fail
    go_ret
    exact ⟨rfl, c1⟩
  · have hr2 := hr.resolve_left hr0
    have h20 : n ≤ 1048576 := by have := HN.out; omega
    clear hr
    have hr0 : 0 ≤ r := by omega
    clear hr2
    go_wp2_with fail
    refine (toMine_any j A c xs n _ HN.out h20 (HX.out.next c1)).mono ?_; rintro e w2 ⟨g2, rfl, hg2, r2, b2⟩
    go_wp2_with fail
    refine (namedS_any j _ _ xs n s _ HN.out h20 HS.out (r2.airs HN.out)).mono ?_; rintro e w3 ⟨rfl, b3⟩
    have b23 := stepB b2 b3
    have n0 : w3.cell? ⟨w.heap.size, 0, none⟩ = some (.int .i64 j) := (b23.cell (World.block_lt_of_cell? w1 _ m0)).trans m0
    have n1 : w3.cell? ⟨w.heap.size, 1, none⟩ = some (.slice A n c) := (b23.cell (World.block_lt_of_cell? w1 _ m1)).trans m1
    have c3 := stepB c1 b23
    clear b2 b3 b23 m0 m1 c1 r2 hg2
    go_wp2_with fail
    refine (toMine_any j A c xs n _ HN.out h20 (HX.out.next c3)).mono ?_; rintro e w4 ⟨g4, rfl, hg4, r4, b4⟩
    have b4a : Below w3.heap.size w3 (w4.alloc (.cells #[.int .i64 j, .slice (some ⟨g4, 0, none⟩) n n] 29)) := b4.alloc b4.size _
    have o0 : (w4.alloc (.cells #[.int .i64 j, .slice (some ⟨g4, 0, none⟩) n n] 29)).cell? ⟨w.heap.size, 0, none⟩ = some (.int .i64 j) := (b4a.cell (World.block_lt_of_cell? w3 _ n0)).trans n0
    have o1 : (w4.alloc (.cells #[.int .i64 j, .slice (some ⟨g4, 0, none⟩) n n] 29)).cell? ⟨w.heap.size, 1, none⟩ = some (.slice A n c) := (b4a.cell (World.block_lt_of_cell? w3 _ n1)).trans n1
    have c4 := stepB c3 b4a
    have AX := (r4.airs HN.out).next ((Below.refl w4.heap.size w4).alloc (Nat.le_refl _) (.cells #[.int .i64 j, .slice (some ⟨g4, 0, none⟩) n n] 29))
    have RX := r4.next ((Below.refl w4.heap.size w4).alloc (Nat.le_refl _) (.cells #[.int .i64 j, .slice (some ⟨g4, 0, none⟩) n n] 29))
    have p0 : (w4.alloc (.cells #[.int .i64 j, .slice (some ⟨g4, 0, none⟩) n n] 29)).cell? ⟨w4.heap.size, 0, none⟩ = some (.int .i64 j) := by simp [go_sem]
    have p1 : (w4.alloc (.cells #[.int .i64 j, .slice (some ⟨g4, 0, none⟩) n n] 29)).cell? ⟨w4.heap.size, 1, none⟩ = some (.slice (some ⟨g4, 0, none⟩) n n) := by simp [go_sem]
    clear b4 b4a n0 n1 c3 r4
    go_wp2_with fail
    refine (namedP_any j _ _ xs n s _ HN.out h20 HS.out AX).mono ?_; rintro e w5 ⟨rfl, b5⟩
    have c5 := stepB c4 b5
    have HQ := Lib.hid (q_next b5 ⟨o0, o1, p0, p1⟩)
    have AX5 := Lib.hid (AX.next b5)
    have CX5 := Lib.hid (HX.out.next c5)
    clear b5 o0 o1 p0 p1 AX c4 RX
    go_wp2_with fail
    go_region_held3 (fun w' => w'.cell? ⟨w.heap.size, 0, none⟩ = some (.int .i64 j) ∧ w'.cell? ⟨w.heap.size, 1, none⟩ = some (.slice A n c) ∧ w'.cell? ⟨w4.heap.size, 0, none⟩ = some (.int .i64 j) ∧ w'.cell? ⟨w4.heap.size, 1, none⟩ = some (.slice (some ⟨g4, 0, none⟩) n n)) (first | exact HQ.out | exact q_next b6 HQ.out | exact q_next b7 (q_next b6 HQ.out))
      ((first | (go_at_call 16; refine (toMine_any j A c xs n _ HN.out h20 CX5.out.drew).mono ?_; rintro e w6 ⟨g6, rfl, hg6, r6, b6⟩) | (go_at_call 18; refine (eqMine_same j _ _ _ _ xs n _ HN.out (by omega) (AX5.out.drew.next b6) (r6.airs HN.out)).mono ?_; rintro e w7 ⟨rfl, b7⟩)))
    have c7 := stepB (stepB c5 (below_undrew b6)) b7
    clear b6 b7 r6
    go_wp2_with fail
    go_ret
    exact ⟨rfl, c7⟩

/-! ### the row of FnExactAirwayNamed: the arguments are opened, the walk is met, each argument reads behind the call as before -/
namespace fnExactAirwayNamed
open Go.ChangeShapes Go.WideShapes Go.ChangeAt Go.RowKit Go.Joins
open Go.ChangeMaps (open_string shut_string)
set_option linter.unusedVariables false
set_option maxRecDepth 100000 in
theorem lifted (os : Os) (started : os.Started) (H : Type) (enc : TypeId × Value → H) :
    ReturnsInHanded {} Try.checked os 5 .any (Rows.fnExactAirwayNamedSpec.pre6 enc Try.prog Try.f5 Rows.fnExactAirwayNamedRow.domain false) (Rows.fnExactAirwayNamedSpec.post enc Try.prog Try.f5 false true false false) := by
  refine returnsInHanded_of_change (C := Try.checked) own started (by kernel_rfl) Try.func5
    (ChangeSpec.witness6 (enc := enc) (C := Try.checked) false ⟨#[], #[.agg #[.int .i64 0, .slice none 0 0], .string ByteArray.empty], []⟩ 8 (by kernel_rfl) (by kernel_rfl) (by kernel_rfl) (by kernel_rfl)) ?_
  intro W base args ds gs before hval0 hW hcnd _
  have hval : ∀ (j : Nat) t v, Try.f5.params[j]? = some t → args[j]? = some v → Value.okWide Try.prog W .any base t v := hval0
  have hW' := hW
  obtain ⟨p, q, hA0, hV, rfl, hfz, hnd⟩ := hW
  have hA : DataW.TrodAll enc Try.prog W 0 (fun _ => true) true Try.f5.params.toList args.toList ds p := hA0
  rw [Try.params5] at hA hval
  obtain ⟨v0, vs0, d0, ds0, p0, q0, hargs, rfl, rfl, h0, r0⟩ := trodAll_cons hA
  obtain ⟨v1, vs1, d1, ds1, p1, q1, rfl, rfl, rfl, h1, r1⟩ := trodAll_cons r0
  obtain ⟨rfl, rfl, rfl⟩ := trodAll_nil r1
  obtain rfl : args = #[v0, v1] := by cases args; simp_all
  obtain ⟨rfl, rfl⟩ := trodVars_none hV
  clear hA0 hval0
  simp only [List.append_nil] at hW'
  have lt0 : ∀ x ∈ p0, x.block < W.heap.size := fun x hx => by simpa using hW'.lt x (by simp [hx])
  have k0 := h0
  have lt1 : ∀ x ∈ p1, x.block < W.heap.size := fun x hx => by simpa using hW'.lt x (by simp [hx])
  have k1 := h1
  obtain ⟨c0_0, c0_1, y0_0, y0_1, m0, rfl, rfl, rfl, hy0_0, hy0_1⟩ := open_agg2 Try.underlying24 (by kernel_rfl) (by kernel_rfl) (hval 0 24 v0 rfl rfl) h0
  obtain ⟨a0_0, e0_0, z0_0, w0_0⟩ := DataW.trod_int Try.underlying2 hy0_0
  simp only [List.cons.injEq, and_true] at e0_0; subst e0_0
  obtain ⟨A0, len0, cap0, rfl⟩ := slice_shape Try.underlying22 Try.underlying55 (by kernel_rfl) (by kernel_rfl) hy0_1
  obtain ⟨xs0, hn0, hm0, hs0, hx0⟩ := view_airs Try.underlying22 Try.underlying55 (by kernel_rfl) (by kernel_rfl) Try.underlying9 Try.underlying2 Try.underlying2 Try.underlying2 Try.underlying2 Try.underlying2 Try.underlying2 hy0_1
  obtain ⟨a1, rfl, rfl, rfl, w1⟩ := open_string Try.underlying9 (hval 1 9 v1 rfl rfl) h1
  refine (law_AirwayNamed a0_0 A0 len0 cap0 xs0 hn0 hm0 hs0 a1 w1 W hx0).mono fun e W' ⟨he, hb⟩ => ?_
  subst he
  exact ⟨_, rfl, _, _, _, _, _, [], hW', (trodAll_cons_mk (shut_bool Try.underlying4 _) trodAll_mk0), (trodAll_cons_mk (Below.trod laidOut (by kernel_rfl) (of_decide_eq_true (by kernel_rfl)) k0 hb lt0) (trodAll_cons_mk (Below.trod laidOut (by kernel_rfl) (of_decide_eq_true (by kernel_rfl)) k1 hb lt1) trodAll_mk0)), rfl, hb.frame _, fun h => by cases h⟩

theorem proved : Rows.FnExactAirwayNamedSaid :=
  OpenClaim.holds_of_wide 5 Try.f5 rfl rfl rfl rfl rfl rfl rfl ⟨rfl, rfl, rfl, rfl, rfl⟩ rfl rfl rfl rfl rfl (by kernel_rfl) Try.func5 (by kernel_rfl)
    (of_decide_eq_true (by kernel_rfl)) (by unfold Func.isWrapper; first | (rw [if_pos (by decide +kernel)]; kernel_rfl) | (rw [if_neg (by decide +kernel)]; exact ⟨rfl, rfl⟩))
    (fun os started H enc _ => lifted os started H enc)
#print axioms proved
end fnExactAirwayNamed
end Go.Proofs.Ytpeocfjbdgbmmaa
