/-
  Plain law: what ReadList gives: the program's road and the reference's give the same list.
-/
import Derived.Test.YtcfcmpblemagiaaGreatDoorSplit
import Derived.Test.YtcfcmpblemagiaaGreatDoorReadNum
import Derived.Test.YtcfcmpblemagiaaGreatDoorListText
namespace Go.Proofs.YtcfcmpblemagiaaGreatDoor
set_option linter.unusedVariables false

def nv (p : ByteArray) : Int := (numO p.data.toList).getD 0
def okN (p : ByteArray) : Bool := (numO p.data.toList).isSome
def okR (p : ByteArray) : Bool := okN p && inB (nv p) (-1000000000000) 1000000000000
def rlO (s : ByteArray) : Option (List Int) := if s = ⟨#[45]⟩ then some [] else if decide ((splS 44 s).length ≤ 64) && (splS 44 s).all okR then some ((splS 44 s).map nv) else none
theorem ok_itoa {p : ByteArray} (h : okN p = true) : decS (nv p) = p := by
  unfold okN at h
  obtain ⟨v, hv⟩ := Option.isSome_iff_exists.1 h
  have e : nv p = v := by unfold nv; rw [hv]; rfl
  rw [e]
  rw [← read_num] at hv
  unfold readO at hv
  split at hv
  · rename_i v' _
    split at hv
    · cases hv
    · rename_i hn
      injection hv with hv
      subst hv
      simp only [Bool.or_eq_true, decide_eq_true_eq, not_or, Decidable.not_not] at hn
      unfold decS
      rw [hn.2]
  · cases hv
theorem nv_bd (p : ByteArray) : -1000000000000000000 < nv p ∧ nv p < 1000000000000000000 := by
  unfold nv
  cases h : numO p.data.toList with
  | none => show -1000000000000000000 < (0 : Int) ∧ (0 : Int) < 1000000000000000000; omega
  | some v =>
    show -1000000000000000000 < v ∧ v < 1000000000000000000
    unfold numO at h
    split at h
    · cases h
    · rename_i hb
      split at h
      · rename_i ha
        have hl := dv_lt _ ha
        have hb' : (magO p.data.toList).length ≤ 18 := by
          unfold badO at hb
          simp only [Bool.or_eq_true, decide_eq_true_eq, not_or] at hb
          omega
        have := Nat.lt_of_lt_of_le hl (Nat.pow_le_pow_right (by omega) hb')
        injection h with h
        have e : (10 : Nat) ^ 18 = 1000000000000000000 := by decide
        rw [e] at this
        split at h <;> omega
      · cases h
theorem map_at (ps : List ByteArray) (k : Nat) (h : k < ps.length) : atI (ps.map nv) k = nv ps[k] := by
  rw [atI_is _ k (by simpa using h)]; simp
theorem map_ib (ps : List ByteArray) : IB (ps.map nv) := by
  intro k hk
  have hk' : k < ps.length := by simpa using hk
  rw [map_at ps k hk']
  have := nv_bd ps[k]
  omega
theorem fits_map (ps : List ByteArray) (ho : ps.all okN = true) : fitsB (ps.map nv) = (decide (ps.length ≤ 64) && ps.all okR) := by
  have hlen : (ps.map nv).length = ps.length := by simp
  rw [fits_is _ ps.length hlen, Bool.and_comm]
  congr 1
  rw [Bool.eq_iff_iff]
  unfold inAll
  rw [List.all_eq_true, List.all_eq_true]
  constructor
  · intro h p hp
    obtain ⟨k, hk, rfl⟩ := List.getElem_of_mem hp
    have h1 := h k (List.mem_range.2 hk)
    unfold inN at h1
    rw [map_at ps k hk] at h1
    unfold okR
    rw [List.all_eq_true.1 ho _ hp, h1]; rfl
  · intro h k hk
    have hk' := List.mem_range.1 hk
    have h1 := h ps[k] (List.getElem_mem hk')
    unfold inN
    rw [map_at ps k hk']
    unfold okR at h1
    simp only [Bool.and_eq_true] at h1
    exact h1.2
theorem text_map (s : ByteArray) (ps : List ByteArray) (hps : ps = splS 44 s) (ho : ps.all okN = true) : ltT (ps.map nv) ps.length = s := by
  have h := ltT_join (ps.map nv) ps.length (by simp)
  have e1 : (ps.map nv).take ps.length = ps.map nv := List.take_of_length_le (by simp)
  have e2 : (ps.map nv).map decS = ps := by
    rw [List.map_map]
    calc ps.map (decS ∘ nv) = ps.map id := List.map_congr_left (fun p hp => ok_itoa (List.all_eq_true.1 ho p hp))
      _ = ps := List.map_id ps
  rw [e1, e2] at h
  have e3 : ps.map (·.data.toList) = splL 44 s.data.toList := by
    rw [hps]
    unfold splS
    rw [List.map_map]
    calc (splL 44 s.data.toList).map ((fun x : ByteArray => x.data.toList) ∘ toB) = (splL 44 s.data.toList).map id := List.map_congr_left (fun p _ => rfl)
      _ = _ := List.map_id _
  rw [e3, join_splL] at h
  have hb : toB (ltT (ps.map nv) ps.length).data.toList = toB s.data.toList := by rw [h]
  rw [toB_of, toB_of] at hb
  exact hb
theorem splS_ne (b : UInt8) (s : ByteArray) : splS b s ≠ [] := by
  unfold splS; intro h; exact splL_ne b _ (List.map_eq_nil_iff.1 h)
theorem empty_num (s : ByteArray) (h : s.size = 0) : okN s = false := by
  have : s.data.toList = [] := List.eq_nil_of_length_eq_zero (by rw [len_is]; exact h)
  unfold okN; rw [this]; rfl
theorem empty_spl (b : UInt8) (s : ByteArray) (h : s.size = 0) : splS b s = [s] := by
  have : s.data.toList = [] := List.eq_nil_of_length_eq_zero (by rw [len_is]; exact h)
  unfold splS; rw [this]
  show [toB []] = [s]
  rw [← toB_of s, this]
/-- the pieces that the program looks at: at most 65 -/
def cutN (s : ByteArray) : List ByteArray := Lib.splitB ⟨#[44]⟩ 0 (min 65 (s.size + 1) - 1) s
theorem cutN_all (s : ByteArray) (h : (splS 44 s).length ≤ 65) : cutN s = splS 44 s := by
  unfold cutN
  rw [splitB_is]
  unfold splS at h ⊢
  rw [List.length_map] at h
  rw [splitK_all]
  have := splL_len 44 s.data.toList
  rw [len_is] at this
  omega
theorem cutN_more (s : ByteArray) (h : 65 < (splS 44 s).length) : (cutN s).length = 65 := by
  unfold cutN
  rw [splitB_is, List.length_map]
  unfold splS at h
  rw [List.length_map] at h
  have := splL_len 44 s.data.toList
  rw [len_is] at this
  have e : min 65 (s.size + 1) - 1 = 64 := by omega
  rw [e]
  exact splitK_more 44 64 _ (by omega)
theorem cutN_len (s : ByteArray) : (cutN s).length ≤ 65 := by
  by_cases h : (splS 44 s).length ≤ 65
  · rw [cutN_all s h]; exact h
  · rw [cutN_more s (by omega)]; exact Nat.le_refl _
theorem cut_some_no (s : ByteArray) (h45 : s ≠ ⟨#[45]⟩) (h : (cutN s).all okN = false) : rlO s = none := by
  unfold rlO
  rw [if_neg h45]
  by_cases hl : (splS 44 s).length ≤ 64
  · rw [cutN_all s (by omega)] at h
    have : (splS 44 s).all okR = false := by
      rw [List.all_eq_false] at h ⊢
      obtain ⟨p, hp, hn⟩ := h
      exact ⟨p, hp, by unfold okR; simp only [Bool.not_eq_true] at hn; rw [hn]; simp⟩
    rw [this, Bool.and_false, if_neg (by simp)]
  · rw [decide_eq_false hl, Bool.false_and, if_neg (by simp)]
theorem cut_all (s : ByteArray) (h45 : s ≠ ⟨#[45]⟩) (h : (cutN s).all okN = true) :
    (listText ((cutN s).map nv) = s → rlO s = some ((cutN s).map nv)) ∧ (listText ((cutN s).map nv) ≠ s → rlO s = none) := by
  have hsz : 0 < s.size := by
    apply Nat.pos_of_ne_zero; intro hz
    rw [cutN_all s (by rw [empty_spl 44 s hz]; simp), empty_spl 44 s hz] at h
    simp only [List.all_cons, List.all_nil, Bool.and_true] at h
    rw [empty_num s hz] at h
    cases h
  have hemp : (⟨#[]⟩ : ByteArray) ≠ s := by
    intro e; rw [← e] at hsz; exact absurd hsz (by decide)
  by_cases hl : (splS 44 s).length ≤ 64
  · have hc := cutN_all s (by omega)
    rw [hc] at h ⊢
    have hf := fits_map _ h
    unfold rlO
    rw [if_neg h45, ← hf]
    unfold listText
    cases hfb : fitsB ((splS 44 s).map nv) with
    | true =>
      rw [if_pos rfl, if_pos rfl]
      have hlt : listT ((splS 44 s).map nv) = s := by
        unfold listT
        have hne := splS_ne 44 s
        rw [if_neg (by simpa using hne), List.length_map]
        exact text_map s _ rfl h
      rw [hlt]
      exact ⟨fun _ => rfl, fun hn => absurd rfl hn⟩
    | false =>
      rw [if_neg (by simp), if_neg (by simp)]
      exact ⟨fun he => absurd he hemp, fun _ => rfl⟩
  · have hno : fitsB ((cutN s).map nv) = false := by
      have : 64 < (cutN s).length := by
        by_cases h65 : (splS 44 s).length ≤ 65
        · rw [cutN_all s h65]; omega
        · rw [cutN_more s (by omega)]; omega
      unfold fitsB
      rw [List.length_map, decide_eq_false (by omega), Bool.and_false]
    have hr : rlO s = none := by
      unfold rlO
      rw [if_neg h45, decide_eq_false hl, Bool.false_and, if_neg (by simp)]
    unfold listText
    rw [hno, if_neg (by simp)]
    exact ⟨fun he => absurd he hemp, fun _ => hr⟩
end Go.Proofs.YtcfcmpblemagiaaGreatDoor
