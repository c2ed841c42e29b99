/-
  Plain law: a text divided at a byte; what the library's SplitN gives at one byte.
-/
import Derived.Test.YtcfcmpblemagiaaGreatDoorRows
import Derived.Lib.Split
import Derived.Lib.Join
namespace Go.Proofs.YtcfcmpblemagiaaGreatDoor
set_option linter.unusedVariables false

def splL (b : UInt8) : List UInt8 → List (List UInt8)
  | [] => [[]]
  | c :: r => if c = b then [] :: splL b r else
    match splL b r with
    | [] => [[c]]
    | h :: t => (c :: h) :: t
theorem splL_no (b : UInt8) (l : List UInt8) (h : b ∉ l) : splL b l = [l] := by
  induction l with
  | nil => rfl
  | cons c r ih =>
    have hc : c ≠ b := fun e => h (by rw [e]; simp)
    unfold splL
    rw [if_neg hc, ih (fun hm => h (List.mem_cons_of_mem _ hm))]
theorem splL_cut (b : UInt8) (x r : List UInt8) (h : b ∉ x) : splL b (x ++ b :: r) = x :: splL b r := by
  induction x with
  | nil =>
    show splL b (b :: r) = _
    rw [splL, if_pos rfl]
  | cons c t ih =>
    have hc : c ≠ b := fun e => h (by rw [e]; simp)
    show splL b (c :: (t ++ b :: r)) = _
    rw [splL, if_neg hc, ih (fun hm => h (List.mem_cons_of_mem _ hm))]
theorem splL_ne (b : UInt8) (l : List UInt8) : splL b l ≠ [] := by
  cases l with
  | nil => simp [splL]
  | cons c r =>
    unfold splL
    split
    · simp
    · split <;> simp
theorem splL_len (b : UInt8) (l : List UInt8) : (splL b l).length ≤ l.length + 1 := by
  induction l with
  | nil => simp [splL]
  | cons c r ih =>
    unfold splL
    split
    · simp; omega
    · split
      · simp
      · rename_i h t e
        rw [e] at ih
        simp at ih ⊢; omega
theorem cut_at (b : UInt8) (l : List UInt8) (h : b ∈ l) : ∃ x r, l = x ++ b :: r ∧ b ∉ x := by
  induction l with
  | nil => simp at h
  | cons c t ih =>
    by_cases hc : c = b
    · subst hc; exact ⟨[], t, rfl, by simp⟩
    · have ht : b ∈ t := by
        rcases List.mem_cons.1 h with e | e
        · exact absurd e.symm hc
        · exact e
      obtain ⟨x, r, e, hx⟩ := ih ht
      exact ⟨c :: x, r, by rw [e]; rfl, by
        intro hm
        rcases List.mem_cons.1 hm with e' | e'
        · exact hc e'.symm
        · exact hx e'⟩
theorem idx_no (b : UInt8) (l : List UInt8) (h : b ∉ l) : Lib.index l [b] = -1 := by
  induction l with
  | nil => rfl
  | cons c r ih =>
    have hc : c ≠ b := fun e => h (by rw [e]; simp)
    have hi := ih (fun hm => h (List.mem_cons_of_mem _ hm))
    have hp : List.isPrefixOf [b] (c :: r) = false := by
      simp [List.isPrefixOf]; exact fun e => hc e.symm
    unfold Lib.index
    rw [hp, hi]
    rfl
theorem idx_cut (b : UInt8) (x r : List UInt8) (h : b ∉ x) : Lib.index (x ++ b :: r) [b] = (x.length : Int) := by
  induction x with
  | nil =>
    show Lib.index (b :: r) [b] = 0
    unfold Lib.index
    have hp : List.isPrefixOf [b] (b :: r) = true := by simp [List.isPrefixOf]
    rw [hp]
    rfl
  | cons c t ih =>
    have hc : c ≠ b := fun e => h (by rw [e]; simp)
    have hi := ih (fun hm => h (List.mem_cons_of_mem _ hm))
    show Lib.index (c :: (t ++ b :: r)) [b] = _
    unfold Lib.index
    have hp : List.isPrefixOf [b] (c :: (t ++ b :: r)) = false := by
      simp [List.isPrefixOf]; exact fun e => hc e.symm
    rw [hp, hi]
    have hb : ((t.length : Int) == -1) = false := beq_eq_false_iff_ne.2 (by omega)
    rw [hb]
    simp
theorem splitK_no (b : UInt8) (k : Nat) (l : List UInt8) (h : b ∉ l) : Lib.splitK [b] 0 k l = [l] := by
  cases k with
  | zero => rfl
  | succ k =>
    unfold Lib.splitK
    rw [idx_no b l h]
    rfl
theorem splitK_cut (b : UInt8) (k : Nat) (x r : List UInt8) (h : b ∉ x) : Lib.splitK [b] 0 (k + 1) (x ++ b :: r) = x :: Lib.splitK [b] 0 k r := by
  rw [Lib.splitK, idx_cut b x r h]
  have hb : ((x.length : Int) == -1) = false := beq_eq_false_iff_ne.2 (by omega)
  rw [hb, if_neg (by simp), Int.toNat_natCast]
  have e1 : (x ++ b :: r).take (x.length + 0) = x := by rw [Nat.add_zero, List.take_left']; rfl
  have e2 : (x ++ b :: r).drop (x.length + [b].length) = r := by
    show (x ++ b :: r).drop (x.length + 1) = r
    rw [List.drop_append, List.drop_of_length_le (by omega)]
    have : x.length + 1 - x.length = 1 := by omega
    rw [this]; rfl
  rw [e1, e2]
theorem splitK_all (b : UInt8) (k : Nat) (l : List UInt8) (h : (splL b l).length ≤ k + 1) : Lib.splitK [b] 0 k l = splL b l := by
  induction k generalizing l with
  | zero =>
    by_cases hm : b ∈ l
    · obtain ⟨x, r, rfl, hx⟩ := cut_at b l hm
      rw [splL_cut b x r hx] at h
      simp at h
      exact absurd h (splL_ne b r)
    · rw [splL_no b l hm]; rfl
  | succ k ih =>
    by_cases hm : b ∈ l
    · obtain ⟨x, r, rfl, hx⟩ := cut_at b l hm
      rw [splL_cut b x r hx] at h ⊢
      rw [splitK_cut b k x r hx, ih r (by simpa using h)]
    · rw [splL_no b l hm, splitK_no b _ l hm]
theorem splitK_more (b : UInt8) (k : Nat) (l : List UInt8) (h : k + 1 ≤ (splL b l).length) : (Lib.splitK [b] 0 k l).length = k + 1 := by
  induction k generalizing l with
  | zero => rfl
  | succ k ih =>
    by_cases hm : b ∈ l
    · obtain ⟨x, r, rfl, hx⟩ := cut_at b l hm
      rw [splL_cut b x r hx] at h
      rw [splitK_cut b k x r hx, List.length_cons, ih r (by simpa using h)]
    · rw [splL_no b l hm] at h; simp at h
theorem join_splL (b : UInt8) (l : List UInt8) : Lib.join (splL b l) [b] = l := by
  have key : ∀ n, ∀ l : List UInt8, l.length = n → Lib.join (splL b l) [b] = l := by
    intro n
    induction n using Nat.strongRecOn with
    | _ n ih =>
      intro l hl
      by_cases hm : b ∈ l
      · obtain ⟨x, r, rfl, hx⟩ := cut_at b l hm
        have hr : r.length < n := by rw [← hl]; simp; omega
        have hj := ih r.length hr r rfl
        rw [splL_cut b x r hx, Lib.join_cons]
        cases hs : splL b r with
        | nil => exact absurd hs (splL_ne b r)
        | cons y t =>
          rw [hs, Lib.join_cons] at hj
          show x ++ Lib.joinTail [b] (y :: t) = _
          unfold Lib.joinTail at hj ⊢
          simp only [List.map_cons, List.flatten_cons]
          rw [List.append_assoc, hj]
          rfl
      · rw [splL_no b l hm, Lib.join_one]
  exact key _ l rfl
def toB (x : List UInt8) : ByteArray := ⟨x.toArray⟩
theorem toB_data (x : List UInt8) : (toB x).data.toList = x := rfl
theorem toB_of (s : ByteArray) : toB s.data.toList = s := rfl
theorem splitB_is (b : UInt8) (k : Nat) (s : ByteArray) : Lib.splitB ⟨#[b]⟩ 0 k s = (Lib.splitK [b] 0 k s.data.toList).map toB := by
  have h := Lib.splitB_data ⟨#[b]⟩ 0 k s
  have e : (⟨#[b]⟩ : ByteArray).data.toList = [b] := rfl
  rw [e] at h
  rw [← h, List.map_map]
  have : (toB ∘ fun x : ByteArray => x.data.toList) = id := by funext x; rfl
  rw [this, List.map_id]
end Go.Proofs.YtcfcmpblemagiaaGreatDoor
