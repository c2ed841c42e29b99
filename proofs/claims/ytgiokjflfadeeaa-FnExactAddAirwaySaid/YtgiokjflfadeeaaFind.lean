/-
  The contracts of the two searches for an airway by its name.
-/
import Derived.Test.YtgiokjflfadeeaaMineLaw
namespace Go.Proofs.Ytgiokjflfadeeaa
open Go.RowKit
set_option linter.unusedVariables false

def eqS (a s : ByteArray) : Bool := a.toList == s.toList
def IsFind (xs : List AW) (s : ByteArray) (i : Int) : Prop :=
  (i = -1 ∧ ∀ k, k < xs.length → eqS (atA xs k).a s = false) ∨ ∃ k : Nat, k < xs.length ∧ i = k ∧ eqS (atA xs k).a s = true ∧ ∀ j, j < k → eqS (atA xs j).a s = false
theorem find_one {xs : List AW} {s : ByteArray} {i i' : Int} (h : IsFind xs s i) (h' : IsFind xs s i') : i = i' := by
  rcases h with ⟨h1, h2⟩ | ⟨k, hk, rfl, he, hb⟩
  · rcases h' with ⟨h1', _⟩ | ⟨k', hk', rfl, he', _⟩
    · omega
    · rw [h2 k' hk'] at he'; cases he'
  · rcases h' with ⟨h1', h2'⟩ | ⟨k', hk', rfl, he', hb'⟩
    · rw [h2' k hk] at he; cases he
    · rcases Nat.lt_trichotomy k k' with g | g | g
      · rw [hb' k g] at he; cases he
      · rw [g]
      · rw [hb k' g] at he'; cases he'
noncomputable def findF (xs : List AW) (s : ByteArray) : Int := Classical.epsilon fun i => IsFind xs s i
theorem findF_is {xs : List AW} {s : ByteArray} {i : Int} (h : IsFind xs s i) : i = findF xs s := find_one h (Classical.epsilon_spec (p := fun i => IsFind xs s i) ⟨i, h⟩)
theorem find_has (xs : List AW) (s : ByteArray) : ∃ i, IsFind xs s i := by
  by_cases h : ∃ k, k < xs.length ∧ eqS (atA xs k).a s = true
  · obtain ⟨k, hk, he⟩ := h
    induction k using Nat.strongRecOn with
    | ind k ih =>
      by_cases h2 : ∃ j, j < k ∧ eqS (atA xs j).a s = true
      · obtain ⟨j, hj, hje⟩ := h2
        exact ih j hj (by omega) hje
      · exact ⟨k, .inr ⟨k, hk, rfl, he, fun j hj => by
          cases hq : eqS (atA xs j).a s with
          | false => rfl
          | true => exact absurd ⟨j, hj, hq⟩ h2⟩⟩
  · exact ⟨-1, .inl ⟨rfl, fun k hk => by
      cases hq : eqS (atA xs k).a s with
      | false => rfl
      | true => exact absurd ⟨k, hk, hq⟩ h⟩⟩
theorem findF_spec (xs : List AW) (s : ByteArray) : IsFind xs s (findF xs s) := by
  obtain ⟨i, hi⟩ := find_has xs s
  rw [← findF_is hi]; exact hi

theorem nameFun_any (x : AW) (s : ByteArray) (g : Nat) (w : World) (q : Bool) (hq : eqS x.a s = q) (hg : g < w.heap.size) (hc : w.cell? ⟨g, 0, none⟩ = some (.string s)) :
    Calls Try.prog 56 #[x.val, .pointer (some ⟨g, 0, none⟩)] w fun e w' => e = .returned (.bool q) ∧ Below w.heap.size w w' := by
  subst hq
  unfold AW.val eqS
  go_enter Try.func56, Try.ntmps56
  go_wp2_with fail
  go_ret
  exact ⟨rfl, by ((repeat (first | with_reducible exact Below.refl _ _ | with_reducible apply below_drewN | with_reducible apply Below.drew | (with_reducible refine Below.alloc ?_ ?_ _) | (with_reducible refine Below.setCell ?_ ?_ _) | (with_reducible refine Below.trans ?_ (hb4.mono ?_)) | (with_reducible refine Below.trans ?_ (hb3.mono ?_)) | (with_reducible refine Below.trans ?_ (hb2.mono ?_)))); all_goals (first | (simp <;> omega) | (have h2s := hb2.size; (try simp at h2s); (try simp); omega) | (have h2s := hb2.size; have h3s := hb3.size; (try simp at h2s); (try simp at h3s); (try simp); omega) | (have h2s := hb2.size; have h3s := hb3.size; have h4s := hb4.size; (try simp at h2s); (try simp at h3s); (try simp at h4s); (try simp); omega)))⟩

def FindPost (xs : List AW) (s : ByteArray) (w : World) (e : Ending) (w' : World) : Prop := e = .returned (.int .i64 (findF xs s)) ∧ Below w.heap.size w w'
theorem idxName_any (A : Option Addr) (c : Nat) (xs : List AW) (n : Nat) (s : ByteArray) (g : Nat) (w : World) (hn : xs.length = n) (h20 : n ≤ 1048576) (hx : Airs w A xs) (hg : g < w.heap.size) (hc : w.cell? ⟨g, 0, none⟩ = some (.string s)) :
    Calls Try.prog 55 #[.slice A n c, .func (.func 56) #[] #[.pointer (some ⟨g, 0, none⟩)]] w (FindPost xs s w) := by
  have HX := Lib.hid hx
  have HN := Lib.hid hn
  have HC := Lib.hid hc
  clear hx hn hc
  go_enter Try.func55, Try.ntmps55
  go_wp2_with fail
  go_loopw [8] (fun i wr => ∃ k : Nat, k ≤ n ∧ i = .int .i64 k ∧ (∀ j, j < k → eqS (atA xs j).a s = false) ∧ Below w.heap.size w wr) (fun i _ => n - (intOf i).toNat)
  case atStart => exact ⟨0, Nat.zero_le _, rfl, fun j hj => absurd hj (by omega), Below.refl _ _⟩
  case round =>
    obtain ⟨k, hk, rfl, hall, hb⟩ := hrel
    have HA := Lib.hid hall
    have HB := Lib.hid hb
    clear hall hb
    by_cases hlt : k < n
    · obtain ⟨b, off, rfl, hb', hc⟩ := (HX.out.next HB.out).at_ (k := k) (by have := HN.out; omega)
      obtain ⟨c0, c1, c2, c3, c4, c5, c6⟩ := hc
      generalize hx : atA xs k = x at c0 c1 c2 c3 c4 c5 c6
      have HXK := Lib.hid hx
      clear hx
      have hgr : g < wr.heap.size := Nat.lt_of_lt_of_le hg HB.out.size
      by_cases he : eqS x.a s = true
      · go_wp2_with fail
        refine (nameFun_any x s g _ true he hgr ((HB.out.cell (by simpa using hg)).trans HC.out)).mono ?_; rintro e w1 ⟨rfl, b1⟩
        go_wp2_with fail
        go_ret
        exact ⟨ret_int (findF_is (.inr ⟨k, by rw [HN.out]; exact hlt, rfl, by rw [HXK.out]; exact he, HA.out⟩)), stepB HB.out b1⟩
      · simp only [Bool.not_eq_true] at he
        have HE := Lib.hid he
        clear he
        go_wp2_with fail
        refine (nameFun_any x s g _ false HE.out hgr ((HB.out.cell (by simpa using hg)).trans HC.out)).mono ?_; rintro e w1 ⟨rfl, b1⟩
        go_wp2_with fail
        go_roundw
        case rel => exact ⟨k + 1, by omega, by go_num, fun j hj => by
          by_cases e : j = k
          · rw [e, HXK.out]; exact HE.out
          · exact HA.out j (by omega), stepB HB.out b1⟩
        case measure => simp [intOf]; omega
    · obtain rfl : k = n := by omega
      go_wp2_with fail
      go_ret
      exact ⟨ret_int (findF_is (.inl ⟨rfl, fun j hj => HA.out j (by have := HN.out; omega)⟩)), HB.out⟩

theorem airwayNamedI_any (j : Int) (A : Option Addr) (c : Nat) (xs : List AW) (n : Nat) (s : ByteArray) (w : World) (hn : xs.length = n) (h20 : n ≤ 1048576) (hx : Airs w A xs) :
    Calls Try.prog 32 #[.agg #[.int .i64 j, .slice A n c], .string s] w (FindPost xs s w) := by
  have b0 : Below w.heap.size w ((w.alloc (.cells #[.int .i64 j, .slice A n c] 28)).alloc (.cells #[.string s] 9)) := by ((repeat (first | with_reducible exact Below.refl _ _ | with_reducible apply below_drewN | with_reducible apply Below.drew | (with_reducible refine Below.alloc ?_ ?_ _) | (with_reducible refine Below.setCell ?_ ?_ _) | (with_reducible refine Below.trans ?_ (hb4.mono ?_)) | (with_reducible refine Below.trans ?_ (hb3.mono ?_)) | (with_reducible refine Below.trans ?_ (hb2.mono ?_)))); all_goals (first | (simp <;> omega) | (have h2s := hb2.size; (try simp at h2s); (try simp); omega) | (have h2s := hb2.size; have h3s := hb3.size; (try simp at h2s); (try simp at h3s); (try simp); omega) | (have h2s := hb2.size; have h3s := hb3.size; have h4s := hb4.size; (try simp at h2s); (try simp at h3s); (try simp at h4s); (try simp); omega)))
  have HX := Lib.hid (hx.next b0)
  have HN := Lib.hid hn
  clear hx hn
  go_enter Try.func32, Try.ntmps32
  go_wp2_with fail
  refine (idxName_any _ _ xs _ s _ _ HN.out h20 HX.out (by simp) (by simp [go_sem])).mono ?_; rintro e w1 ⟨rfl, b1⟩
  have c1 := stepB b0 b1
  clear b0 b1
  go_wp2_with fail
  go_ret
  exact ⟨rfl, c1⟩

theorem l04Find_any (g : Nat) (j : Int) (A : Option Addr) (c : Nat) (xs : List AW) (n : Nat) (s : ByteArray) (w : World) (hn : xs.length = n) (h20 : n ≤ 1048576) (hx : Airs w A xs)
    (m1 : w.cell? ⟨g, 1, none⟩ = some (.slice A n c)) :
    Calls Try.prog 30 #[.pointer (some ⟨g, 0, none⟩), .string s] w (fun e w' => e = .returned (.int .i64 (findF xs s)) ∧ w = w') := by
  have HX := Lib.hid hx
  have HN := Lib.hid hn
  clear hx hn
  go_enter Try.func30, Try.ntmps30
  go_wp2_with fail
  go_loopw [5] (fun i wr => ∃ k : Nat, k ≤ n ∧ i = .int .i64 k ∧ (∀ j, j < k → eqS (atA xs j).a s = false) ∧ w = wr) (fun i _ => n - (intOf i).toNat)
  case atStart => exact ⟨0, Nat.zero_le _, rfl, fun j hj => absurd hj (by omega), rfl⟩
  case round =>
    obtain ⟨k, hk, rfl, hall, rfl⟩ := hrel
    have HA := Lib.hid hall
    clear hall
    by_cases hlt : k < n
    · obtain ⟨b, off, rfl, hb', hc⟩ := HX.out.at_ (k := k) (by have := HN.out; omega)
      obtain ⟨c0, c1, c2, c3, c4, c5, c6⟩ := hc
      clear c1 c2 c3 c4 c5 c6
      generalize hx : atA xs k = x at c0
      have HXK := Lib.hid hx
      clear hx
      by_cases he : eqS x.a s = true
      · have he' : (x.a.toList == s.toList) = true := he
        have HE := Lib.hid he
        clear he
        go_wp2_with fail
        go_ret
        exact ⟨ret_int (findF_is (.inr ⟨k, by rw [HN.out]; exact hlt, rfl, by rw [HXK.out]; exact HE.out, HA.out⟩)), rfl⟩
      · simp only [Bool.not_eq_true] at he
        have he' : (x.a.toList == s.toList) = false := he
        have HE := Lib.hid he
        clear he
        go_wp2_with fail
        go_roundw
        case rel => exact ⟨k + 1, by omega, by go_num, fun j hj => by
          by_cases e : j = k
          · rw [e, HXK.out]; exact HE.out
          · exact HA.out j (by omega), by first | exact rfl | trivial⟩
        case measure => simp [intOf]; omega
    · obtain rfl : k = n := by omega
      go_wp2_with fail
      go_ret
      exact ⟨ret_int (findF_is (.inl ⟨rfl, fun j hj => HA.out j (by have := HN.out; omega)⟩)), rfl⟩

end Go.Proofs.Ytgiokjflfadeeaa
