/-
  Plain law: a mine's text, cut at most 26 times at '/' and read, or divided at '/' and read.
-/
import Derived.Test.YtcfcmpblemagiaaGreatDoorReadWayT
import Derived.Test.YtcfcmpblemagiaaGreatDoorMineText
import Derived.Lib.Join
import Derived.Test.YtcfcmpblemagiaaGreatDoorNum
import Derived.RowKit3
import Derived.ProofKit
import Derived.OpenShut
import Derived.Lib.SmallJoins
namespace Go.Proofs.YtcfcmpblemagiaaGreatDoor
open Go.RowKit
set_option linter.unusedVariables false

def wayD (p : ByteArray) : AW := (rwO p).getD ⟨⟨#[]⟩, 0, 0, 0, 0, 0, 0⟩
def okW (p : ByteArray) : Bool := (rwO p).isSome
def rmO (s : ByteArray) : Option (Int × List AW) := match splS 47 s with
  | [] => none
  | p :: qs => if okN p && (qs.all okW && mineB (nv p) (qs.map wayD)) then some (nv p, qs.map wayD) else none
theorem okW_is {p : ByteArray} (h : okW p = true) : rwO p = some (wayD p) := by
  unfold okW at h; unfold wayD
  cases hr : rwO p with
  | none => rw [hr] at h; cases h
  | some y => rfl
theorem wayO_ok {a : ByteArray} {o : Option (List Int)} {y : AW} (h : wayO a o = some y) : y.okB = true ∧ y.a = a ∧ o = some (nums y) := by
  unfold wayO at h
  split at h
  · split at h
    · rename_i hk
      injection h with h; subst h; exact ⟨hk, rfl, rfl⟩
    · cases h
  · cases h
theorem rwO_text {p : ByteArray} {y : AW} (h : rwO p = some y) : y.okB = true ∧ awT y = p ∧ y.a.size ≤ p.size := by
  obtain ⟨x, r, b, hc, hx, hr, hyes, hno⟩ := cut_way p
  rcases six_cases (rlO (toB r)) (toB x) with ⟨z, hz, e3⟩ | ⟨ls, e3, hl, hn⟩ | ⟨e3, hn⟩
  · obtain ⟨h1, h2, h3⟩ := hyes z hz e3
    cases ho : z.okB with
    | true =>
      obtain ⟨h4, h5⟩ := h2 ho
      rw [h] at h5; injection h5 with h5; subst h5
      exact ⟨ho, h4, h1⟩
    | false => rw [(h3 ho).2] at h; cases h
  · rw [hno hn] at h; cases h
  · rw [hno hn] at h; cases h
theorem rwO_no47 {p : ByteArray} {y : AW} (h : rwO p = some y) : (47 : UInt8) ∉ p.data.toList := by
  unfold rwO at h
  split at h
  · rename_i a r e
    obtain ⟨ho, ha, hr⟩ := wayO_ok h
    intro hm
    have hj := join_splL 32 p.data.toList
    have e2 : splL 32 p.data.toList = [a.data.toList, r.data.toList] := by
      have := congrArg (List.map (fun b : ByteArray => b.data.toList)) e
      unfold splS at this
      rw [List.map_map] at this
      have e4 : ((fun b : ByteArray => b.data.toList) ∘ toB) = id := by funext x; rfl
      rw [e4, List.map_id] at this
      exact this
    rw [e2] at hj
    rw [← hj, Lib.join_cons] at hm
    rcases List.mem_append.1 hm with hm | hm
    · unfold AW.okB airB nameB okAll at ho
      simp only [Bool.and_eq_true] at ho
      rw [ha] at ho
      have := List.all_eq_true.1 ho.1.2.2.2 47 hm
      exact absurd this (by decide)
    · have hm' : (47 : UInt8) ∈ [(32 : UInt8)] ++ r.data.toList := by simpa [Lib.joinTail] using hm
      rcases List.mem_append.1 hm' with hm | hm
      · exact absurd (List.mem_singleton.1 hm) (by decide)
      · exact rlO_no 47 ⟨by decide, by decide, by decide⟩ hr (nums_ne y) hm
  · cases h
theorem okW_no47 {p : ByteArray} (h : okW p = true) : (47 : UInt8) ∉ p.data.toList := rwO_no47 (okW_is h)
/-- the pieces that the program looks at: at most 26 -/
def cutM (s : ByteArray) : List ByteArray := Lib.splitB ⟨#[47]⟩ 0 (min 26 (s.size + 1) - 1) s
theorem cutM_all (s : ByteArray) (h : (splS 47 s).length ≤ 26) : cutM s = splS 47 s := by
  unfold cutM
  rw [splitB_is]
  unfold splS at h ⊢
  rw [List.length_map] at h
  rw [splitK_all]
  have := splL_len 47 s.data.toList
  rw [len_is] at this
  omega
theorem splitK_last (b : UInt8) (k : Nat) (l : List UInt8) (h : k + 1 < (splL b l).length) : ∃ q, q ∈ Lib.splitK [b] 0 k l ∧ b ∈ q := by
  induction k generalizing l with
  | zero =>
    refine ⟨l, by simp [Lib.splitK], Classical.byContradiction fun hm => ?_⟩
    rw [splL_no b l hm] at h; simp at h
  | succ k ih =>
    by_cases hm : b ∈ l
    · obtain ⟨x, r, rfl, hx⟩ := cut_at b l hm
      rw [splL_cut b x r hx] at h
      obtain ⟨q, h1, h2⟩ := ih r (by simpa using h)
      exact ⟨q, by rw [splitK_cut b k x r hx]; exact List.mem_cons_of_mem _ h1, h2⟩
    · rw [splL_no b l hm] at h; simp at h
/-- how the two ways of cutting meet -/
theorem cut_mine (s : ByteArray) : ∃ p qs qc, splS 47 s = p :: qs ∧ cutM s = p :: qc ∧ qc.length ≤ 25 ∧ p.size ≤ s.size ∧ (∀ q ∈ qc, q.size ≤ s.size) ∧ (∀ q ∈ qs, q.size ≤ s.size) ∧ qs.length ≤ s.size ∧
    (qc = qs ∨ (qc.all okW = false ∧ 24 < qs.length)) := by
  have hsz : ∀ q ∈ splS 47 s, q.size ≤ s.size := spl_size 47 s
  have hlen := splS_len 47 s
  by_cases h : (splS 47 s).length ≤ 26
  · have hc := cutM_all s h
    cases hs : splS 47 s with
    | nil => exact absurd hs (splS_ne 47 s)
    | cons p qs =>
      rw [hs] at h hsz hc hlen
      exact ⟨p, qs, qs, rfl, hc, by simpa using h, hsz p (by simp), fun q hq => hsz q (by simp [hq]), fun q hq => hsz q (by simp [hq]), by simpa using hlen, .inl rfl⟩
  · have hl : 26 < (splL 47 s.data.toList).length := by unfold splS at h; rw [List.length_map] at h; omega
    have hm : (47 : UInt8) ∈ s.data.toList := Classical.byContradiction fun hm => by rw [splL_no 47 _ hm] at hl; simp at hl
    obtain ⟨x, r, e, hx⟩ := cut_at 47 _ hm
    have hl2 : 25 < (splL 47 r).length := by rw [e, splL_cut 47 x r hx, List.length_cons] at hl; omega
    have hs' := splL_len 47 s.data.toList
    rw [len_is] at hs'
    have hk : min 26 (s.size + 1) - 1 = 24 + 1 := by omega
    have hc : cutM s = toB x :: (Lib.splitK [47] 0 24 r).map toB := by
      unfold cutM
      rw [splitB_is, hk, e, splitK_cut 47 24 x r hx]; rfl
    have hsp : splS 47 s = toB x :: (splL 47 r).map toB := by
      unfold splS; rw [e, splL_cut 47 x r hx]; rfl
    have hse : s.size = x.length + (r.length + 1) := by rw [← len_is, e]; simp
    have hxz : (toB x).size = x.length := by show x.toArray.size = _; simp
    refine ⟨toB x, (splL 47 r).map toB, (Lib.splitK [47] 0 24 r).map toB, hsp, hc, ?_, by omega, fun q hq => ?_, fun q hq => hsz q (by rw [hsp]; exact List.mem_cons_of_mem _ hq), ?_, .inr ⟨?_, ?_⟩⟩
    · rw [List.length_map, splitK_more 47 24 r (by omega)]; omega
    · obtain ⟨q', hq', rfl⟩ := List.mem_map.1 hq
      have h1 := splitK_size _ _ _ _ hq'
      have h2 : (toB q').size = q'.length := by show q'.toArray.size = _; simp
      omega
    · rw [hsp] at hlen; simpa using hlen
    · obtain ⟨q, h1, h2⟩ := splitK_last 47 24 r (by omega)
      refine Classical.byContradiction fun hh => ?_
      have hh' : ((Lib.splitK [47] 0 24 r).map toB).all okW = true := by simpa using hh
      have := List.all_eq_true.1 hh' (toB q) (List.mem_map.2 ⟨q, h1, rfl⟩)
      exact okW_no47 this h2
    · rw [List.length_map]; omega
def lineD (x : AW) : List UInt8 := (lineT x).data.toList
theorem mnL_join (j : Int) (xs : List AW) (k : Nat) (hk : k ≤ xs.length) : (mnL j xs k).data.toList = (decS j).data.toList ++ Lib.joinTail [47] ((xs.map lineD).take k) := by
  induction k with
  | zero => simp [mnL, Lib.joinTail]
  | succ k ih =>
    have hr : (xs.map lineD)[k]? = some (lineD (atA xs k)) := by
      rw [List.getElem?_map, List.getElem?_eq_getElem (by omega), atA_is xs k (by omega)]; rfl
    rw [Lib.joinTail_take_succ [47] (xs.map lineD) k _ hr]
    show (mnL j xs k ++ (⟨#[47]⟩ ++ lineT (atA xs k))).data.toList = _
    rw [ByteArray.data_append, ByteArray.data_append, Array.toList_append, Array.toList_append, ih (by omega), List.append_assoc, List.append_assoc]
    rfl
/-- a mine whose pieces read: its text is the very text -/
theorem mine_text {s p : ByteArray} {qs : List ByteArray} (h : splS 47 s = p :: qs) (hp : okN p = true) (hq : qs.all okW = true) :
    (mineB (nv p) (qs.map wayD) = true → mnT (nv p) (qs.map wayD) = s) ∧ (mineB (nv p) (qs.map wayD) = false → mnT (nv p) (qs.map wayD) ≠ s) := by
  refine ⟨fun hm => ?_, fun hm hh => ?_⟩
  · unfold mnT
    rw [if_pos hm]
    have h1 := mnL_join (nv p) (qs.map wayD) (qs.map wayD).length (Nat.le_refl _)
    have e1 : ((qs.map wayD).map lineD).take (qs.map wayD).length = (qs.map wayD).map lineD := List.take_of_length_le (by simp)
    have e2 : (qs.map wayD).map lineD = qs.map (fun b : ByteArray => b.data.toList) := by
      rw [List.map_map]
      refine List.map_congr_left fun q hq' => ?_
      have hw := okW_is (List.all_eq_true.1 hq q hq')
      obtain ⟨h2, h3, _⟩ := rwO_text hw
      show (lineT (wayD q)).data.toList = _
      rw [← awT_is h2, h3]
    rw [e1, e2, ok_itoa hp, ← Lib.join_cons] at h1
    have e3 : p.data.toList :: qs.map (fun b : ByteArray => b.data.toList) = splL 47 s.data.toList := by
      have := congrArg (List.map (fun b : ByteArray => b.data.toList)) h
      unfold splS at this
      rw [List.map_map] at this
      have e4 : ((fun b : ByteArray => b.data.toList) ∘ toB) = id := by funext x; rfl
      rw [e4, List.map_id] at this
      exact this.symm
    rw [e3, join_splL] at h1
    have hb : toB (mnL (nv p) (qs.map wayD) (qs.map wayD).length).data.toList = toB s.data.toList := by rw [h1]
    rw [toB_of, toB_of] at hb
    exact hb
  · unfold mnT at hh
    rw [hm] at hh
    have hs : s.size = 0 := by rw [← hh]; rfl
    rw [empty_spl 47 s hs] at h
    injection h with h1 _
    rw [← h1, empty_num s hs] at hp
    cases hp
theorem rm_is {s p : ByteArray} {qs : List ByteArray} (h : splS 47 s = p :: qs) : rmO s = if okN p && (qs.all okW && mineB (nv p) (qs.map wayD)) then some (nv p, qs.map wayD) else none := by
  unfold rmO; rw [h]
theorem rm_bad {s p : ByteArray} {qs : List ByteArray} (h : splS 47 s = p :: qs) (hb : okN p = false ∨ qs.all okW = false ∨ mineB (nv p) (qs.map wayD) = false) : rmO s = none := by
  rw [rm_is h, if_neg]
  rcases hb with hb | hb | hb <;> simp [hb]
theorem rm_many {s p : ByteArray} {qs : List ByteArray} (h : splS 47 s = p :: qs) (hl : 24 < qs.length) : rmO s = none := by
  refine rm_bad h (.inr (.inr ?_))
  unfold mineB
  have : decide ((qs.map wayD).length ≤ 24) = false := by simp; omega
  rw [this]; simp
end Go.Proofs.YtcfcmpblemagiaaGreatDoor
