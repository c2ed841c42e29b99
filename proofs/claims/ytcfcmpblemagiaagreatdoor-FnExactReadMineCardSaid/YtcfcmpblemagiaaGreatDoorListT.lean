/-
  The text of a list of numbers: the reference's l01Fits, l01List, ListText and the program's ListText.
-/
import Derived.Test.YtcfcmpblemagiaaGreatDoorDecimal
import Derived.Test.YtcfcmpblemagiaaGreatDoorOwnS
import Derived.Test.YtcfcmpblemagiaaGreatDoorInts
import Derived.Lib.Join
namespace Go.Proofs.YtcfcmpblemagiaaGreatDoor
open Go.RowKit
set_option linter.unusedVariables false

theorem decS_len (n : Int) (h0 : -9223372036854775808 ≤ n) (h1 : n ≤ 9223372036854775807) : (decS n).size ≤ 21 := by
  have key : ∀ u : Nat, u ≤ 9223372036854775808 → (Lib.decDigits u).length ≤ 20 := fun u hu => by
    by_cases h : 0 < u
    · rw [← rdF_dec 20 u h (Nat.lt_of_le_of_lt hu (by decide)), List.length_map, List.length_reverse]; exact rdF_len 20 u
    · have : u = 0 := by omega
      subst this
      rw [Lib.decDigits, dif_pos (by decide)]; simp
  show (Lib.itoa n).toArray.size ≤ 21
  rw [List.size_toArray]
  unfold Lib.itoa
  split
  · rw [List.length_cons]; have := key n.natAbs (by omega); omega
  · have := key n.toNat (by omega); omega
/-- the text of the first k numbers -/
def ltT (xs : List Int) : Nat → ByteArray
  | 0 => ⟨#[]⟩
  | k + 1 => if 0 < k then (ltT xs k ++ ⟨#[44]⟩) ++ decS (atI xs k) else ltT xs k ++ decS (atI xs k)
theorem ltT_first (xs : List Int) (k : Nat) (h : 0 < k) : ltT xs (k + 1) = (ltT xs k ++ ⟨#[44]⟩) ++ decS (atI xs k) := by
  show (if 0 < k then _ else _) = _
  rw [if_pos h]
theorem ltT_zero (xs : List Int) : ltT xs 1 = decS (atI xs 0) := by
  show (if 0 < 0 then _ else (⟨#[]⟩ : ByteArray) ++ decS (atI xs 0)) = _
  rw [if_neg (by omega)]
  exact ByteArray.empty_append
theorem ltT_len (xs : List Int) (hb : ∀ k, k < xs.length → -9223372036854775808 ≤ atI xs k ∧ atI xs k ≤ 9223372036854775807) (k : Nat) (hk : k ≤ xs.length) : (ltT xs k).size ≤ 22 * k := by
  induction k with
  | zero => exact Nat.le_refl _
  | succ k ih =>
    have := ih (by omega)
    have h2 := decS_len (atI xs k) (hb k (by omega)).1 (hb k (by omega)).2
    by_cases h : 0 < k
    · rw [ltT_first xs k h]
      simp only [ByteArray.size_append]
      show (ltT xs k).size + 1 + _ ≤ _
      omega
    · have h0 : k = 0 := by omega
      subst h0
      rw [ltT_zero]; omega
theorem join_snoc (ys : List (List UInt8)) (y sep : List UInt8) : Lib.join (ys ++ [y]) sep = if ys = [] then y else Lib.join ys sep ++ sep ++ y := by
  cases ys with
  | nil => simp [Lib.join_one]
  | cons x r =>
    rw [if_neg (by simp), List.cons_append, Lib.join_cons, Lib.join_cons]
    simp [Lib.joinTail, List.append_assoc]
theorem ltT_join (xs : List Int) (k : Nat) (hk : k ≤ xs.length) : (ltT xs k).data.toList = Lib.join (((xs.take k).map decS).map (·.data.toList)) [44] := by
  induction k with
  | zero => rfl
  | succ k ih =>
    rw [List.take_succ_eq_append_getElem (by omega), List.map_append, List.map_append, List.map_cons, List.map_nil, List.map_cons, List.map_nil, join_snoc, ← ih (by omega), ← atI_is xs k (by omega)]
    by_cases h : 0 < k
    · rw [ltT_first xs k h, if_neg (by intro e; have e := congrArg List.length e; simp only [List.length_map, List.length_take, List.length_nil] at e; omega)]
      simp [ByteArray.data_append]
    · have h0 : k = 0 := by omega
      subst h0
      rw [ltT_zero, if_pos (by simp)]
def listT (xs : List Int) : ByteArray := if xs.length = 0 then ⟨#[45]⟩ else ltT xs xs.length
def fitsB (xs : List Int) : Bool := (List.range xs.length).all (fun k => inB (atI xs k) (-1000000000000) 1000000000000) && decide (xs.length ≤ 64)
def listText (xs : List Int) : ByteArray := if fitsB xs then listT xs else ⟨#[]⟩
end Go.Proofs.YtcfcmpblemagiaaGreatDoor
