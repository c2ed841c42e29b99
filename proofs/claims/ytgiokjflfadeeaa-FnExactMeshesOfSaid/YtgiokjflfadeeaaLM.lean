/-
  The laws' functions over lists of lists of numbers: eqInt64SS at two that read alike, markInt64SS at a list of lists that the call made, heldInt64SS behind it.
-/
import Derived.Test.YtgiokjflfadeeaaLL
namespace Go.Proofs.Ytgiokjflfadeeaa
open Go.RowKit
set_option linter.unusedVariables false

theorem RdLL.drewN {w : World} {A : Option Addr} {lls : List (List Int)} (h : RdLL w w.heap.size A lls) (q : Nat) : RdLL (w.drewN q) (w.drewN q).heap.size A lls := h

theorem eqLL_same (A1 A2 : Option Addr) (c1 c2 : Nat) (lls : List (List Int)) (n : Nat) (w : World) (hn : lls.length = n) (h20 : n ≤ 1099511627776) (hl : ∀ k, k < n → (atLL lls k).length ≤ 1099511627776) (h1 : RdLL w w.heap.size A1 lls) (h2 : RdLL w w.heap.size A2 lls) :
    Calls Try.prog 21 #[.slice A1 n c1, .slice A2 n c2] w fun e w' => e = .returned (.bool true) ∧ Below w.heap.size w w' := by
  have H1 := Lib.hid h1
  have H2 := Lib.hid h2
  have HN := Lib.hid hn
  have HL := Lib.hid hl
  clear h1 h2 hn hl
  go_enter Try.func21, Try.ntmps21
  go_wp2
  go_loopw [5] (fun i wr => ∃ k : Nat, k ≤ n ∧ i = .int .i64 k ∧ ∃ q, wr = w.drewN q) (fun i _ => n - (intOf i).toNat)
  case atStart => exact ⟨0, Nat.zero_le _, rfl, 0, rfl⟩
  case round =>
    obtain ⟨k, hk, rfl, q, rfl⟩ := hrel
    by_cases hlt : k < n
    · obtain ⟨b, off, Ak, ck, rfl, hb, hc, hI⟩ := H1.out.at_ (k := k) (by have := HN.out; omega)
      obtain ⟨b', off', Ak', ck', rfl, hb', hc', hI'⟩ := H2.out.at_ (k := k) (by have := HN.out; omega)
      have hki : (k : Int) < n := by omega
      have HI := Lib.hid hI
      have HI' := Lib.hid hI'
      have HK := Lib.hid (HL.out k hlt)
      clear hI hI'
      generalize hX : (atLL lls k).length = X at hc hc' HK
      go_wp2_with fail
      go_quiet ((go_at_call 16; first | exact quiet_ex (eqInt64S_same _ _ _ _ (atLL lls k) X _ hX HK.out HI.out HI'.out) | exact quiet_add_ex (eqInt64S_same _ _ _ _ (atLL lls k) X _ hX HK.out HI.out HI'.out)))
      go_wp2_with fail
      go_roundw
      case rel => exact ⟨k + 1, by omega, by go_num, _, by first | exact rfl | (rw [World.drewN_drewN])⟩
      case measure => simp [intOf]; omega
    · obtain rfl : k = n := by omega
      go_wp2_with fail
      go_ret
      exact ⟨rfl, below_drewN (Below.refl _ _) _⟩

def MkRelK (g n k : Nat) (s : Int) (w wr : World) : Prop := w.grownBy wr (some g) ∧ ∃ cur, wr.heap[g]? = some (.cells cur 2 (0, 0)) ∧ n ≤ cur.size ∧ ∀ j, j < k → cur[j]? = some (.int .i64 (s + (j : Int)))
theorem mkK_step {g n k : Nat} {s : Int} {w wr : World} (h : MkRelK g n k s w wr) (hk : k < n) : MkRelK g n (k + 1) s w (wr.setCell ⟨g, k, none⟩ (.int .i64 (s + (k : Int)))) := by
  obtain ⟨hb, cur, h1, h2, h3⟩ := h
  refine ⟨grown_set hb _ _, _, heap_set h1 _ _, by simpa using h2, fun j hj => ?_⟩
  rw [Array.getElem?_setIfInBounds]
  by_cases e : k = j
  · subst e; rw [if_pos rfl, if_pos (by omega)]
  · rw [if_neg e]; exact h3 j (by omega)
theorem mkK_cell {g n k : Nat} {s : Int} {w wr : World} (h : MkRelK g n k s w wr) (hk : k < n) : (∃ z, wr.cell? ⟨g, k, none⟩ = some z) ∧ wr.frozen? ⟨g, k, none⟩ = false := by
  obtain ⟨hb, cur, h1, h2, h3⟩ := h
  exact ⟨⟨_, by rw [cell_of_row wr g k cur _ _ h1]; exact Array.getElem?_eq_getElem (by omega)⟩, by simp [World.frozen?, h1]⟩
theorem markIk_any (g c : Nat) (xs : List Int) (n B : Nat) (s : Int) (w : World) (hn : xs.length = n) (h0 : 0 < n) (h20 : 0 ≤ s ∧ s + n ≤ 1099511627776) (ho : OwnI w B (.slice (some ⟨g, 0, none⟩) n c) xs) :
    Calls Try.prog 17 #[.slice (some ⟨g, 0, none⟩) n c, .int .i64 s] w fun e w' => e = .returned (.int .i64 (s + (n : Int))) ∧ w.grownBy w' (some g) ∧ ∀ j, j < n → w'.cell? ⟨g, j, none⟩ = some (.int .i64 (s + (j : Int))) := by
  subst hn
  obtain ⟨g', c', cur, hv, hBg, hg, hh, hs, hc⟩ := ho.block h0
  injection hv with hA _ _
  have e5 : g = g' := congrArg Addr.block (Option.some.inj hA)
  subst e5
  generalize xs.length = n at *
  have H0 := Lib.hid (show MkRelK g n 0 s w w from ⟨⟨rfl, rfl, rfl, Nat.le_refl _, fun _ _ _ => rfl⟩, cur, hh, hs, fun j hj => absurd hj (by omega)⟩)
  clear ho hh hs hc hA
  go_enter Try.func17, Try.ntmps17
  go_wp2_with fail
  go_loopw [1, 5] (fun t i wr => ∃ k : Nat, k ≤ n ∧ i = .int .i64 (k : Int) ∧ t = .int .i64 (s + (k : Int)) ∧ MkRelK g n k s w wr) (fun _ i _ => n - (intOf i).toNat)
  case atStart => exact ⟨0, Nat.zero_le _, rfl, by simp, H0.out⟩
  case round =>
    obtain ⟨k, hk, rfl, rfl, hr⟩ := hrel
    have HR := Lib.hid hr
    clear hr
    by_cases hlt : k < n
    · have hki : (k : Int) < n := by omega
      obtain ⟨⟨z, hz⟩, hf⟩ := mkK_cell HR.out hlt
      go_wp2_with fail
      go_roundw
      case rel => exact ⟨k + 1, by omega, by go_num, congrArg (Value.int .i64) (by omega), mkK_step HR.out hlt⟩
      case measure => simp [intOf]; omega
    · obtain rfl : k = n := by omega
      obtain ⟨hb, cur', h1, h2, h3⟩ := HR.out
      have HM := Lib.hid (show ∀ j, j < k → wr.cell? ⟨g, j, none⟩ = some (.int .i64 (s + (j : Int))) from fun j hj => by rw [cell_of_row wr g j cur' _ _ h1]; exact h3 j hj)
      have HB := Lib.hid hb
      clear h1 h2 h3 hb
      go_wp2_with fail
      go_ret
      exact ⟨rfl, HB.out, HM.out⟩
theorem heldIk_any (g c n : Nat) (s : Int) (w : World) (h20 : 0 ≤ s ∧ s + n ≤ 1099511627776) (hc : ∀ j, j < n → w.cell? ⟨g, j, none⟩ = some (.int .i64 (s + (j : Int)))) :
    Calls Try.prog 18 #[.slice (some ⟨g, 0, none⟩) n c, .int .i64 s] w fun e w' => e = .returned (.int .i64 (s + (n : Int))) ∧ w = w' := by
  have HC := Lib.hid hc
  clear hc
  go_enter Try.func18, Try.ntmps18
  go_wp2_with fail
  go_loopw [1, 5] (fun t i wr => ∃ k : Nat, k ≤ n ∧ i = .int .i64 (k : Int) ∧ t = .int .i64 (s + (k : Int)) ∧ w = wr) (fun _ i _ => n - (intOf i).toNat)
  case atStart => exact ⟨0, Nat.zero_le _, rfl, by simp, rfl⟩
  case round =>
    obtain ⟨k, hk, rfl, rfl, rfl⟩ := hrel
    by_cases hlt : k < n
    · have hki : (k : Int) < n := by omega
      have hz := HC.out k hlt
      go_wp2_with fail
      go_roundw
      case rel => exact ⟨k + 1, by omega, by go_num, congrArg (Value.int .i64) (by omega), by first | exact rfl | trivial⟩
      case measure => simp [intOf]; omega
    · obtain rfl : k = n := by omega
      go_wp2_with fail
      go_ret
      exact ⟨rfl, rfl⟩

/-- the number that the first of list k's numbers is marked by -/
def baseL (lls : List (List Int)) : Nat → Nat
  | 0 => 1
  | k + 1 => baseL lls k + (atLL lls k).length
theorem baseL_succ (lls : List (List Int)) (k : Nat) : baseL lls (k + 1) = baseL lls k + (atLL lls k).length := rfl
theorem baseL_le {lls : List (List Int)} (h : ∀ k, k < lls.length → (atLL lls k).length ≤ 1048576) : ∀ k, k ≤ lls.length → baseL lls k ≤ 1 + k * 1048576
  | 0, _ => by simp [baseL]
  | k + 1, hk => by
    have := baseL_le h k (by omega)
    have := h k (by omega)
    unfold baseL
    omega
def MkdLL (w : World) (A : Option Addr) (lls : List (List Int)) : Prop := lls = [] ∨ ∃ b, A = some ⟨b, 0, none⟩ ∧ b < w.heap.size ∧ ∀ k, k < lls.length → ∃ g ck, w.cell? ⟨b, k, none⟩ = some (.slice (some ⟨g, 0, none⟩) (atLL lls k).length ck) ∧ g < w.heap.size ∧ ∀ j, j < (atLL lls k).length → w.cell? ⟨g, j, none⟩ = some (.int .i64 ((baseL lls k : Int) + (j : Int)))
theorem MkdLL.next {w w' : World} {A : Option Addr} {lls : List (List Int)} (h : MkdLL w A lls) (hb : Below w.heap.size w w') : MkdLL w' A lls := by
  rcases h with h | ⟨b, h1, h2, h3⟩
  · exact .inl h
  · exact .inr ⟨b, h1, Nat.lt_of_lt_of_le h2 hb.size, fun k hk => by
      obtain ⟨g, ck, a1, a2, a3⟩ := h3 k hk
      exact ⟨g, ck, (hb.cell (by simpa using h2)).trans a1, Nat.lt_of_lt_of_le a2 hb.size, fun j hj => (hb.cell (by simpa using a2)).trans (a3 j hj)⟩⟩
theorem grown_cell {w w' : World} {row : Option Nat} (hg : w.grownBy w' row) {g o : Nat} (hlt : g < w.heap.size) (hne : some g ≠ row) : w'.cell? ⟨g, o, none⟩ = w.cell? ⟨g, o, none⟩ := by
  have h := hg.block g hlt hne
  simp only [World.cell?, h]

def MkLLRel (b B : Nat) (gs cs : Nat → Nat) (lls : List (List Int)) (k : Nat) (w wr : World) : Prop :=
  Below B w wr ∧ w.heap.size ≤ wr.heap.size ∧ (∀ i, i < lls.length → wr.cell? ⟨b, i, none⟩ = some (.slice (some ⟨gs i, 0, none⟩) (atLL lls i).length (cs i))) ∧
  (∀ i, k ≤ i → i < lls.length → OwnI wr B (.slice (some ⟨gs i, 0, none⟩) (atLL lls i).length (cs i)) (atLL lls i)) ∧
  (∀ i, i < k → ∀ j, j < (atLL lls i).length → wr.cell? ⟨gs i, j, none⟩ = some (.int .i64 ((baseL lls i : Int) + (j : Int))))
theorem MkLLRel.step {b B : Nat} {gs cs : Nat → Nat} {lls : List (List Int)} {k : Nat} {w wr w' : World} (h : MkLLRel b B gs cs lls k w wr) (hk : k < lls.length) (hB : B ≤ w.heap.size) (hbw : b < w.heap.size) (hgw : ∀ i, i < lls.length → B ≤ gs i ∧ gs i < w.heap.size ∧ b ≠ gs i) (hd : ∀ i j, i < j → j < lls.length → gs i ≠ gs j)
    (hg : wr.grownBy w' (some (gs k))) (hm : ∀ j, j < (atLL lls k).length → w'.cell? ⟨gs k, j, none⟩ = some (.int .i64 ((baseL lls k : Int) + (j : Int)))) : MkLLRel b B gs cs lls (k + 1) w w' := by
  obtain ⟨h1, h2, h3, h4, h5⟩ := h
  refine ⟨below_grown h1 hg (fun g e => by injection e with e; have := (hgw k hk).1; omega) (by omega), Nat.le_trans h2 hg.size, fun i hi => ?_, fun i hi hi2 => ?_, fun i hi j hj => ?_⟩
  · rw [grown_cell hg (by omega) (by intro e; injection e with e; exact (hgw k hk).2.2 e)]
    exact h3 i hi
  · exact (h4 i (by omega) hi2).kept hg (.inr (by
      intro e
      have e2 : gs i = gs k := Option.some.inj e
      exact hd k i (by omega) hi2 e2.symm))
  · rcases Nat.lt_or_ge i k with hl | hl
    · rw [grown_cell hg (by have := (hgw i (by omega)).2.1; omega) (by intro e; injection e with e; exact hd i k hl hk e)]
      exact h5 i hl j hj
    · obtain rfl : i = k := by omega
      exact hm j hj

def MarkLLPost (A : Option Addr) (lls : List (List Int)) (B : Nat) (w : World) (e : Ending) (w' : World) : Prop := e = .returned (.int .i64 (baseL lls lls.length : Int)) ∧ MkdLL w' A lls ∧ Below B w w'
theorem markLL_any (A : Option Addr) (c : Nat) (lls : List (List Int)) (n B : Nat) (w : World) (hn : lls.length = n) (h20 : n ≤ 1024) (hl : ∀ k, k < lls.length → (atLL lls k).length ≤ 1048576) (hB : B ≤ w.heap.size) (ho : OwnLL w B (.slice A n c) lls) :
    Calls Try.prog 22 #[.slice A n c, .int .i64 1] w (MarkLLPost A lls B w) := by
  subst hn
  by_cases h0 : 0 < lls.length
  · have hbs := baseL_le hl
    obtain ⟨gs, cs, h1, h2, h3⟩ := ho
    have hcell : ∃ b, A = some ⟨b, 0, none⟩ ∧ B ≤ b ∧ b < w.heap.size ∧ (∀ i, i < lls.length → w.cell? ⟨b, i, none⟩ = some (.slice (some ⟨gs i, 0, none⟩) (atLL lls i).length (cs i))) := by
      rcases h1.2 with ⟨hv, h0'⟩ | ⟨g, cap, cur, hv, hbg, hh, hnc, hcm, hsz, htake⟩
      · omega
      · injection hv with e1 e2 e3
        subst e1 e3
        exact ⟨g, rfl, hbg, (World.ownsRow.lt h1 g rfl).2, fun k hk => (h1.cellAt k (by omega)).trans (hdrs_at gs cs lls k hk)⟩
    obtain ⟨b, rfl, hbB, hbw, hc⟩ := hcell
    have HGW := Lib.hid (show ∀ i, i < lls.length → B ≤ gs i ∧ gs i < w.heap.size ∧ b ≠ gs i from fun i hi => ⟨((h2 i hi).2.1.lt rfl).1, ((h2 i hi).2.1.lt rfl).2, fun e => (h2 i hi).2.2 (by rw [e]; rfl)⟩)
    have HPOS := Lib.hid (fun i hi => (h2 i hi).1)
    have HD := Lib.hid h3
    have H0 := Lib.hid (show MkLLRel b B gs cs lls 0 w w from ⟨Below.refl _ _, Nat.le_refl _, hc, fun i _ hi => (h2 i hi).2.1, fun i hi => absurd hi (by omega)⟩)
    have HBS := Lib.hid hbs
    have HL := Lib.hid hl
    clear h1 h2 h3 hc hbs hl
    obtain ⟨n, hn⟩ : ∃ n, lls.length = n := ⟨_, rfl⟩
    have HN := Lib.hid hn
    rw [hn] at h20 h0
    rw [HN.out]
    clear hn
    go_enter Try.func22, Try.ntmps22
    go_wp2_with fail
    go_loopw [1, 5] (fun t i wr => ∃ k : Nat, k ≤ n ∧ i = .int .i64 (k : Int) ∧ t = .int .i64 (baseL lls k : Int) ∧ MkLLRel b B gs cs lls k w wr) (fun _ i _ => n - (intOf i).toNat)
    case atStart => exact ⟨0, Nat.zero_le _, rfl, rfl, H0.out⟩
    case round =>
      obtain ⟨k, hk, rfl, rfl, hr⟩ := hrel
      have HR := Lib.hid hr
      clear hr
      by_cases hlt : k < n
      · have hki : (k : Int) < n := by omega
        have hkl : k < lls.length := by have := HN.out; omega
        obtain ⟨r1, r2, r3, r4, r5⟩ := HR.out
        have hz := r3 k hkl
        have HO := Lib.hid (r4 k (Nat.le_refl _) hkl)
        clear r1 r2 r3 r4 r5
        have h40 : (0 : Int) ≤ (baseL lls k : Int) ∧ (baseL lls k : Int) + ((atLL lls k).length : Int) ≤ 1099511627776 := by
          have := HBS.out k (by omega); have := HL.out k hkl; omega
        have hpos := HPOS.out k hkl
        generalize hx : (atLL lls k).length = X at hz h40 hpos
        have hO := HO.out
        rw [hx] at hO
        have HO2 := Lib.hid hO
        generalize hgk : gs k = gk at hz HO2
        generalize cs k = ck at hz HO2
        clear hO HO
        go_wp2_with fail
        refine (markIk_any gk ck (atLL lls k) X B (baseL lls k : Int) _ hx hpos h40 HO2.out).mono ?_; rintro e w' ⟨rfl, hg, hm⟩
        have HS := Lib.hid (HR.out.step hkl hB hbw HGW.out HD.out (by rw [hgk]; exact hg) (by rw [hgk, hx]; exact hm))
        clear hg hm
        go_wp2_with fail
        go_roundw
        case rel => exact ⟨k + 1, by omega, by go_num, congrArg (Value.int .i64) (by rw [baseL_succ, hx]; omega), HS.out⟩
        case measure => simp [intOf]; omega
      · obtain rfl : k = n := by omega
        obtain ⟨hb, r2, r3, r4, r5⟩ := HR.out
        have HM := Lib.hid (show MkdLL wr (some ⟨b, 0, none⟩) lls from .inr ⟨b, rfl, by omega, fun i hi => ⟨gs i, cs i, r3 i hi, by have := (HGW.out i hi).2.1; omega, fun j hj => r5 i (by have := HN.out; omega) j hj⟩⟩)
        have HB := Lib.hid hb
        clear hb r2 r3 r4 r5
        go_wp2_with fail
        go_ret
        exact ⟨by first | rfl | (rw [HN.out]; rfl), HM.out, HB.out⟩
  · have hz : lls = [] := List.eq_nil_of_length_eq_zero (by omega)
    subst hz
    have hb := Below.refl B w
    clear ho h0
    go_enter Try.func22, Try.ntmps22
    go_wp2_with fail
    refine wp_loop_rounds 1 ?_
    rw [rounds_succ]
    go_wp2_with fail
    go_ret
    exact ⟨rfl, .inl rfl, hb⟩
theorem heldLL_any (A : Option Addr) (c : Nat) (lls : List (List Int)) (n : Nat) (w : World) (hn : lls.length = n) (h20 : n ≤ 1024) (hl : ∀ k, k < lls.length → (atLL lls k).length ≤ 1048576) (hm : MkdLL w A lls) :
    Calls Try.prog 23 #[.slice A n c, .int .i64 1] w fun e w' => e = .returned (.int .i64 (baseL lls lls.length : Int)) ∧ w = w' := by
  rcases hm with rfl | ⟨b, rfl, hb, hc⟩
  · obtain rfl : n = 0 := by simpa using hn.symm
    clear hl
    go_enter Try.func23, Try.ntmps23
    go_wp2_with fail
    refine wp_loop_rounds 1 ?_
    rw [rounds_succ]
    go_wp2_with fail
    go_ret
    exact ⟨rfl, rfl⟩
  · have HC := Lib.hid hc
    have HBS := Lib.hid (baseL_le hl)
    have HL := Lib.hid hl
    have HN := Lib.hid hn
    rw [HN.out]
    clear hc hn hl
    go_enter Try.func23, Try.ntmps23
    go_wp2_with fail
    go_loopw [1, 5] (fun t i wr => ∃ k : Nat, k ≤ n ∧ i = .int .i64 (k : Int) ∧ t = .int .i64 (baseL lls k : Int) ∧ w = wr) (fun _ i _ => n - (intOf i).toNat)
    case atStart => exact ⟨0, Nat.zero_le _, rfl, rfl, rfl⟩
    case round =>
      obtain ⟨k, hk, rfl, rfl, rfl⟩ := hrel
      by_cases hlt : k < n
      · have hki : (k : Int) < n := by omega
        have hkl : k < lls.length := by have := HN.out; omega
        obtain ⟨gk, ck, hz, hgk, hm⟩ := HC.out k hkl
        have HM := Lib.hid hm
        have h40 : (0 : Int) ≤ (baseL lls k : Int) ∧ (baseL lls k : Int) + ((atLL lls k).length : Int) ≤ 1099511627776 := by
          have := HBS.out k (by omega); have := HL.out k hkl; omega
        clear hm
        generalize hx : (atLL lls k).length = X at hz h40 HM
        go_wp2_with fail
        refine (heldIk_any gk ck X (baseL lls k : Int) _ h40 HM.out).mono ?_; rintro e w' ⟨rfl, rfl⟩
        have h41 : ¬ ((baseL lls k : Int) + (X : Int) < 0) := by omega
        go_wp2_with fail
        go_roundw
        case rel => exact ⟨k + 1, by omega, by go_num, congrArg (Value.int .i64) (by rw [baseL_succ, hx]; omega), by first | exact rfl | trivial⟩
        case measure => simp [intOf]; omega
      · obtain rfl : k = n := by omega
        go_wp2_with fail
        go_ret
        exact ⟨by first | rfl | (rw [HN.out]; rfl), rfl⟩
end Go.Proofs.Ytgiokjflfadeeaa
