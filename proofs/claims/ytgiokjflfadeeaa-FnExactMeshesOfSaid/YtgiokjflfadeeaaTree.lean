/-
  The spanning forest: the program's tree and the reference's l04Tree give the same list.
-/
import Derived.Test.YtgiokjflfadeeaaReached
import Derived.Test.YtgiokjflfadeeaaRowM
namespace Go.Proofs.Ytgiokjflfadeeaa
open Go.RowKit
set_option linter.unusedVariables false

theorem mine_ends {j : Int} {xs : List AW} (h : mineB j xs = true) : xs.length ≤ 24 ∧ (1 ≤ j ∧ j ≤ 16) ∧ ∀ k, k < xs.length → (0 ≤ (atA xs k).u ∧ (atA xs k).u < j) ∧ (0 ≤ (atA xs k).v ∧ (atA xs k).v < j) ∧ (atA xs k).u ≠ (atA xs k).v := by
  unfold mineB at h
  simp only [Bool.and_eq_true, decide_eq_true_eq, List.all_eq_true, List.mem_range] at h
  obtain ⟨h1, h2, h3⟩ := h
  refine ⟨h2, inB_true.1 h1, fun k hk => ?_⟩
  have hs := h3 k hk
  unfold stepOk endsB at hs
  simp only [Bool.and_eq_true] at hs
  obtain ⟨ho, ⟨hu, hv⟩, _⟩ := hs
  have b := air_bd ho
  have bu := inB_true.1 hu
  have bv := inB_true.1 hv
  exact ⟨⟨bu.1, by omega⟩, ⟨bv.1, by omega⟩, b.2.2.1⟩

def joinB (xs : List AW) (es : List Int) (k : Nat) : Bool := partsF xs es es.length (atA xs k).u.toNat == partsF xs es es.length (atA xs k).v.toNat
theorem edges_in {xs : List AW} {es : List Int} {J n m : Nat} (hends : ∀ k, k < n → (0 ≤ (atA xs k).u ∧ (atA xs k).u < J) ∧ (0 ≤ (atA xs k).v ∧ (atA xs k).v < J) ∧ (atA xs k).u ≠ (atA xs k).v) (hes : ∀ k, k < m → 0 ≤ atI es k ∧ atI es k < n) :
    ∀ i, i < m → edgeU xs es i < J ∧ edgeV xs es i < J := by
  intro i hi
  have he := hes i hi
  have hd := hends (atI es i).toNat (by omega)
  unfold edgeU edgeV
  omega
theorem reach_join {xs : List AW} {es rs : List Int} {J n m u v k : Nat} (hends : ∀ k, k < n → (0 ≤ (atA xs k).u ∧ (atA xs k).u < J) ∧ (0 ≤ (atA xs k).v ∧ (atA xs k).v < J) ∧ (atA xs k).u ≠ (atA xs k).v) (hm : es.length = m) (hes : ∀ k, k < m → 0 ≤ atI es k ∧ atI es k < n)
    (hg : Grow xs es m J u rs rs.length 0) (hu : (atA xs k).u = u) (hv : (atA xs k).v = v) (huJ : u < J) (hvJ : v < J) : hasI rs (v : Int) = joinB xs es k := by
  have hl := parts_labels xs es J m (edges_in hends hes)
  have hs := hl.same u v huJ hvJ
  unfold joinB
  rw [hu, hv, Int.toNat_natCast, Int.toNat_natCast, hm, Bool.eq_iff_iff, hasI_mem, hg.fin, beq_iff_eq]
  exact hs.symm

def treeT (xs : List AW) : Nat → List Int
  | 0 => []
  | k + 1 => if joinB xs (treeT xs k) k then treeT xs k else treeT xs k ++ [(k : Int)]
theorem treeT_yes {xs : List AW} {k : Nat} (h : joinB xs (treeT xs k) k = true) : treeT xs (k + 1) = treeT xs k := by
  show (if joinB xs (treeT xs k) k then _ else _) = _
  rw [if_pos h]
theorem treeT_no {xs : List AW} {k : Nat} (h : joinB xs (treeT xs k) k = false) : treeT xs (k + 1) = treeT xs k ++ [(k : Int)] := by
  show (if joinB xs (treeT xs k) k then _ else _) = _
  rw [if_neg (by simp [h])]
theorem treeT_len (xs : List AW) (k : Nat) : (treeT xs k).length ≤ k := by
  induction k with
  | zero => simp [treeT]
  | succ k ih => unfold treeT; split <;> (try simp) <;> omega
theorem treeT_mem (xs : List AW) (k : Nat) : ∀ z, z ∈ treeT xs k → 0 ≤ z ∧ z < k := by
  induction k with
  | zero => intro z hz; simp [treeT] at hz
  | succ k ih =>
    intro z hz
    unfold treeT at hz
    split at hz
    · have := ih z hz; omega
    · rcases List.mem_append.1 hz with hz | hz
      · have := ih z hz; omega
      · have : z = k := by simpa using hz
        omega
theorem treeT_bd (xs : List AW) (k n : Nat) (hk : k ≤ n) : ∀ i, i < (treeT xs k).length → 0 ≤ atI (treeT xs k) i ∧ atI (treeT xs k) i < n := by
  intro i hi
  have := treeT_mem xs k (atI (treeT xs k) i) (by rw [atI_is _ i hi]; exact List.getElem_mem hi)
  omega
theorem t_next {w w1 : World} {A : Option Addr} {n c g b : Nat} {j u v : Int} (hb : Below w.heap.size w w1) (hS : w.cell? ⟨g, 0, none⟩ = some (.int .i64 j) ∧ w.cell? ⟨g, 1, none⟩ = some (.slice A n c) ∧ w.cell? ⟨b, 1, none⟩ = some (.int .i64 u) ∧ w.cell? ⟨b, 2, none⟩ = some (.int .i64 v)) : w1.cell? ⟨g, 0, none⟩ = some (.int .i64 j) ∧ w1.cell? ⟨g, 1, none⟩ = some (.slice A n c) ∧ w1.cell? ⟨b, 1, none⟩ = some (.int .i64 u) ∧ w1.cell? ⟨b, 2, none⟩ = some (.int .i64 v) := by
  obtain ⟨a0, a1, a2, a3⟩ := hS
  have f : ∀ {a : Addr} {v : Value}, w.cell? a = some v → w1.cell? a = some v := fun {a v} h => (hb.cell (World.block_lt_of_cell? w a h)).trans h
  exact ⟨f a0, f a1, f a2, f a3⟩
theorem intsDrew {w : World} {A : Option Addr} {xs : List Int} (h : Ints w w.heap.size A xs) : Ints w.drew w.drew.heap.size A xs := h.next ⟨rfl, rfl, rfl, Nat.le_refl _, fun _ _ => rfl⟩
def OnePost (ls : List Int) (w : World) (e : Ending) (w' : World) : Prop := ∃ v, e = .returned v ∧ OwnI w' w.heap.size v ls ∧ Below w.heap.size w w'

set_option maxHeartbeats 2000000 in
set_option maxRecDepth 100000 in
theorem tree_any (J : Nat) (A : Option Addr) (c : Nat) (xs : List AW) (n : Nat) (w : World) (hn : xs.length = n) (h20 : n ≤ 1048576) (hJ : J ≤ 16)
    (hends : ∀ k, k < n → (0 ≤ (atA xs k).u ∧ (atA xs k).u < J) ∧ (0 ≤ (atA xs k).v ∧ (atA xs k).v < J) ∧ (atA xs k).u ≠ (atA xs k).v)
    (hx : Airs w A xs) :
    Calls Try.prog 64 #[.agg #[.int .i64 (J : Int), .slice A n c]] w (OnePost (treeT xs n) w) := by
  have b0 : Below w.heap.size w (w.alloc (.cells #[.int .i64 (J : Int), .slice A n c] 28)) := (Below.refl _ _).alloc (Nat.le_refl _) _
  have HX := Lib.hid (hx.next b0)
  have HN := Lib.hid hn
  have HEN := Lib.hid hends
  have HB0 := Lib.hid b0
  obtain ⟨W0, hW0⟩ : ∃ W0, W0 = w.alloc (.cells #[.int .i64 (J : Int), .slice A n c] 28) := ⟨_, rfl⟩
  have M0 := Lib.hid (show W0.cell? ⟨w.heap.size, 0, none⟩ = some (.int .i64 (J : Int)) by rw [hW0]; simp [go_sem])
  have M1 := Lib.hid (show W0.cell? ⟨w.heap.size, 1, none⟩ = some (.slice A n c) by rw [hW0]; simp [go_sem])
  have HW := Lib.hid hW0
  rw [← hW0] at HX HB0
  clear hx hn hends b0 hW0
  go_enter Try.func64, Try.ntmps64
  go_wp2_with fail
  go_loopw [3, 9] (fun v t wr => ∃ k : Nat, k ≤ n ∧ t = .int .i64 (k : Int) ∧ OwnI wr W0.heap.size v (treeT xs k) ∧ Below W0.heap.size W0 wr) (fun _ t _ => n - (intOf t).toNat)
  case atStart => exact ⟨0, Nat.zero_le _, rfl, World.ownsRow_nil _ _ _ _, by rw [HW.out]; exact Below.refl _ _⟩
  case round =>
    obtain ⟨k, hk, rfl, ho, hb⟩ := hrel
    have HO := Lib.hid ho
    have HB := Lib.hid hb
    clear ho hb
    have hlen := treeT_len xs k
    by_cases hlt : k < n
    · obtain ⟨E, ce, ev, hE⟩ := HO.out.reads
      subst ev
      have m0 : wr.cell? ⟨w.heap.size, 0, none⟩ = some (.int .i64 (J : Int)) := (HB.out.cell (World.block_lt_of_cell? W0 _ M0.out)).trans M0.out
      have m1 : wr.cell? ⟨w.heap.size, 1, none⟩ = some (.slice A n c) := (HB.out.cell (World.block_lt_of_cell? W0 _ M1.out)).trans M1.out
      have hAX := HX.out.next HB.out
      obtain ⟨b, off, rfl, hb', hc⟩ := hAX.at_ (k := k) (by have := HN.out; omega)
      have hki : (k : Int) < n := by omega
      obtain ⟨⟨hu1, hu2⟩, ⟨hv1, hv2⟩, hne⟩ := HEN.out k hlt
      obtain ⟨ux, hux⟩ := Int.eq_ofNat_of_zero_le hu1
      obtain ⟨vx, hvx⟩ := Int.eq_ofNat_of_zero_le hv1
      have HUV := Lib.hid (show (atA xs k).u = ux ∧ (atA xs k).v = vx ∧ ux < J ∧ vx < J from ⟨hux, hvx, by omega, by omega⟩)
      obtain ⟨c0, c1, c2, c3, c4, c5, c6⟩ := hc
      rw [hux] at c1
      rw [hvx] at c2
      generalize atA xs k = x at c0 c3 c4 c5 c6
      have bA : Below wr.heap.size wr (wr.alloc (.cells #[.string x.a, .int .i64 (ux : Int), .int .i64 (vx : Int), .int .i64 x.l, .int .i64 x.s, .int .i64 x.f, .int .i64 x.k] 51)) := (Below.refl _ _).alloc (Nat.le_refl _) _
      have HF := Lib.hid (show _ ∧ _ ∧ _ ∧ _ from ⟨(bA.cell (World.block_lt_of_cell? wr _ m0)).trans m0, (bA.cell (World.block_lt_of_cell? wr _ m1)).trans m1, (show (wr.alloc (.cells #[.string x.a, .int .i64 (ux : Int), .int .i64 (vx : Int), .int .i64 x.l, .int .i64 x.s, .int .i64 x.f, .int .i64 x.k] 51)).cell? ⟨wr.heap.size, 1, none⟩ = some (.int .i64 (ux : Int)) by simp [go_sem]), (show (wr.alloc (.cells #[.string x.a, .int .i64 (ux : Int), .int .i64 (vx : Int), .int .i64 x.l, .int .i64 x.s, .int .i64 x.f, .int .i64 x.k] 51)).cell? ⟨wr.heap.size, 2, none⟩ = some (.int .i64 (vx : Int)) by simp [go_sem])⟩)
      have HXA := Lib.hid (hAX.next bA)
      have HEA := Lib.hid (hE.next bA)
      have HBA := Lib.hid (stepB HB.out bA)
      have HOA := Lib.hid (HO.out.below bA)
      clear hux hvx hu1 hu2 hv1 hv2 hne hAX hE bA m0 m1
      go_wp2_with fail
      clear c0 c1 c2 c3 c4 c5 c6
      by_cases hj : joinB xs (treeT xs k) k = true
      · have HJ := Lib.hid hj
        clear hj
        go_region_held3 (fun w' => w'.cell? ⟨w.heap.size, 0, none⟩ = some (.int .i64 (J : Int)) ∧ w'.cell? ⟨w.heap.size, 1, none⟩ = some (.slice (some ⟨b, off, none⟩) n c) ∧ w'.cell? ⟨wr.heap.size, 1, none⟩ = some (.int .i64 (ux : Int)) ∧ w'.cell? ⟨wr.heap.size, 2, none⟩ = some (.int .i64 (vx : Int))) (first | exact HF.out | exact t_next bq HF.out)
          ((first | (go_at_call 73; refine (reached_any J _ c xs n ux E ce (treeT xs k) (treeT xs k).length _ HN.out h20 hJ HUV.out.2.2.1 HEN.out rfl (by omega) (treeT_bd xs k n (by omega)) HXA.out.drew (intsDrew HEA.out)).mono ?_; rintro e w7 ⟨v7, rs, rfl, ho7, bq, hg7⟩; obtain ⟨A7, c7, ev7, _⟩ := ho7.reads; subst ev7) | (go_at_call 65; refine (containsI_any _ _ rs _ (vx : Int) _ rfl (by have := hg7.len; omega) ho7.ints.2 true ((reach_join HEN.out rfl (treeT_bd xs k n (by omega)) hg7 HUV.out.1 HUV.out.2.1 HUV.out.2.2.1 HUV.out.2.2.2).trans HJ.out)).mono ?_; rintro e w8 ⟨rfl, rfl⟩)))
        have HB7 := Lib.hid (stepB HBA.out (below_undrew bq))
        have HO7 := Lib.hid (HOA.out.below (below_undrew bq))
        clear bq ho7 hg7
        go_wp2_with fail
        go_roundw
        case rel => exact ⟨k + 1, by omega, by go_num, by rw [treeT_yes HJ.out]; exact HO7.out, HB7.out⟩
        case measure => simp [intOf]; omega
      · simp only [Bool.not_eq_true] at hj
        have HJ := Lib.hid hj
        clear hj
        go_region_held3 (fun w' => w'.cell? ⟨w.heap.size, 0, none⟩ = some (.int .i64 (J : Int)) ∧ w'.cell? ⟨w.heap.size, 1, none⟩ = some (.slice (some ⟨b, off, none⟩) n c) ∧ w'.cell? ⟨wr.heap.size, 1, none⟩ = some (.int .i64 (ux : Int)) ∧ w'.cell? ⟨wr.heap.size, 2, none⟩ = some (.int .i64 (vx : Int))) (first | exact HF.out | exact t_next bq HF.out)
          ((first | (go_at_call 73; refine (reached_any J _ c xs n ux E ce (treeT xs k) (treeT xs k).length _ HN.out h20 hJ HUV.out.2.2.1 HEN.out rfl (by omega) (treeT_bd xs k n (by omega)) HXA.out.drew (intsDrew HEA.out)).mono ?_; rintro e w7 ⟨v7, rs, rfl, ho7, bq, hg7⟩; obtain ⟨A7, c7, ev7, _⟩ := ho7.reads; subst ev7) | (go_at_call 65; refine (containsI_any _ _ rs _ (vx : Int) _ rfl (by have := hg7.len; omega) ho7.ints.2 false ((reach_join HEN.out rfl (treeT_bd xs k n (by omega)) hg7 HUV.out.1 HUV.out.2.1 HUV.out.2.2.1 HUV.out.2.2.2).trans HJ.out)).mono ?_; rintro e w8 ⟨rfl, rfl⟩)))
        have HB7 := Lib.hid (stepB HBA.out (below_undrew bq))
        have HO7 := Lib.hid (HOA.out.below (below_undrew bq))
        clear bq ho7 hg7
        go_wp2_with (at_builtin; refine push_law rfl (.tmp 23) (.tmp 25) rfl _ W0.heap.size _ (treeT xs k) (k : Int) rfl HO7.out rfl (by omega) HB7.out.size ?_; intro v' w4 ho4 hg4 hl4; have HO4 := Lib.hid ho4; have HB4 := Lib.hid (below_grown (HB7.out.alloc HB7.out.size _) hg4 (fun g e => (HO7.out.lt e).1) (by have := HB7.out.size; simp; omega)); clear ho4 hg4 hl4)
        go_roundw
        case rel => exact ⟨k + 1, by omega, by go_num, by rw [treeT_no HJ.out]; exact HO4.out, HB4.out⟩
        case measure => simp [intOf]; omega
    · obtain rfl : k = n := by omega
      go_wp2_with fail
      go_ret
      exact ⟨_, rfl, HO.out.mono HB0.out.size, stepB HB0.out HB.out⟩
end Go.Proofs.Ytgiokjflfadeeaa
