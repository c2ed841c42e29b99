/-
  The contract of the reference's l01Dec: the decimal numeral of every int64.
-/
import Derived.Test.YtcfcmpblemagiaaGreatDoorOwnB
import Derived.Lib.ItoaNum
import Derived.Deep.DeepMust
namespace Go.Proofs.YtcfcmpblemagiaaGreatDoor
open Go.RowKit
set_option linter.unusedVariables false

/-- the digits as bytes, the last first -/
def rdF : Nat → Nat → List Int
  | 0, _ => []
  | f + 1, u => if u = 0 then [] else (48 + (u % 10 : Nat) : Int) :: rdF f (u / 10)
def rd (u : Nat) : List Int := rdF 20 u
theorem rdF_zero (f : Nat) : rdF f 0 = [] := by cases f <;> simp [rdF]
theorem rdF_len (f u : Nat) : (rdF f u).length ≤ f := by
  induction f generalizing u with
  | zero => simp [rdF]
  | succ f ih => unfold rdF; split
                 · simp
                 · simp; exact ih _
theorem rdF_more (f u : Nat) (h : u < 10 ^ f) : rdF (f + 1) u = rdF f u := by
  induction f generalizing u with
  | zero => have h0 : u = 0 := by simpa using h
            subst h0; simp [rdF]
  | succ f ih =>
    show (if u = 0 then [] else _ :: rdF (f + 1) (u / 10)) = (if u = 0 then [] else _ :: rdF f (u / 10))
    rw [ih (u / 10) (by rw [Nat.pow_succ] at h; omega)]
theorem rd_step (u : Nat) (h0 : 0 < u) (h : u < 10 ^ 20) : rd u = (48 + (u % 10 : Nat) : Int) :: rd (u / 10) := by
  unfold rd
  show (if u = 0 then [] else _ :: rdF 19 (u / 10)) = _
  rw [if_neg (by omega), rdF_more 19 (u / 10) (by omega)]
theorem rd_zero : rd 0 = [] := rdF_zero 20
theorem rd_len (u : Nat) : (rd u).length ≤ 20 := rdF_len 20 u
theorem ofNat_dig (d : Nat) : UInt8.ofNat ((48 + (d : Int)).toNat) = UInt8.ofNat (48 + d) := by congr 1
theorem rdF_dec (f u : Nat) (h0 : 0 < u) (h : u < 10 ^ f) : (rdF f u).reverse.map (fun n => UInt8.ofNat n.toNat) = Lib.decDigits u := by
  induction f generalizing u with
  | zero => omega
  | succ f ih =>
    have e : rdF (f + 1) u = (48 + (u % 10 : Nat) : Int) :: rdF f (u / 10) := by
      show (if u = 0 then [] else _) = _
      rw [if_neg (by omega)]
    rw [e, List.reverse_cons, List.map_append, Lib.decDigits]
    by_cases hs : u < 10
    · rw [dif_pos hs]
      have e0 : u / 10 = 0 := by omega
      have e1 : u % 10 = u := by omega
      rw [e0, rdF_zero, e1, List.reverse_nil, List.map_nil, List.nil_append, List.map_cons, List.map_nil, ofNat_dig]
    · rw [dif_neg hs, ih (u / 10) (by omega) (by rw [Nat.pow_succ] at h; omega), List.map_cons, List.map_nil, ofNat_dig]
theorem dec_pos (u : Nat) (h0 : 0 < u) (h : u < 10 ^ 20) : strOfNums (rd u).reverse = ⟨(Lib.itoa (u : Int)).toArray⟩ := by
  unfold strOfNums Lib.itoa rd
  rw [rdF_dec 20 u h0 h, if_neg (by omega), Int.toNat_natCast]
theorem dec_neg (u : Nat) (h0 : 0 < u) (h : u < 10 ^ 20) : strOfNums (rd u ++ [45]).reverse = ⟨(Lib.itoa (-(u : Int))).toArray⟩ := by
  unfold strOfNums Lib.itoa rd
  rw [List.reverse_append, List.map_append, rdF_dec 20 u h0 h, if_pos (by omega), Int.natAbs_neg, Int.natAbs_natCast]
  rfl
theorem dec_zero : (⟨#[48]⟩ : ByteArray) = ⟨(Lib.itoa 0).toArray⟩ := by
  unfold Lib.itoa
  rw [if_neg (by omega), Lib.decDigits, dif_pos (by decide)]
  rfl

def decS (n : Int) : ByteArray := ⟨(Lib.itoa n).toArray⟩
def StrPost (s : ByteArray) (w : World) (e : Ending) (w' : World) : Prop := e = .returned (.string s) ∧ Below w.heap.size w w'
theorem drop_rev (xs : List Int) (k : Nat) (h : k < xs.length) : (xs.drop k).reverse = (xs.drop (k + 1)).reverse ++ [atN xs k] := by
  rw [atN_is xs k h, List.drop_eq_getElem_cons h, List.reverse_cons]

end Go.Proofs.YtcfcmpblemagiaaGreatDoor
