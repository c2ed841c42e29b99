/-
  FnExactPathOf: for every mine and any two numbers the program's PathOf returns what the reference's returns; the mine and the lists stay the caller's own.
-/
import Derived.Test.YtgiokjflfadeeaaPathP
import Derived.Test.YtgiokjflfadeeaaPathD
import Derived.Test.YtgiokjflfadeeaaTreeS
import Derived.Deep.Onto
import Derived.Test.YtgiokjflfadeeaaNum
import Derived.RowKit3
import Derived.ProofKit
import Derived.OpenShut
import Derived.Lib.SmallJoins
namespace Go.Proofs.Ytgiokjflfadeeaa
open Go.RowKit
set_option linter.unusedVariables false

noncomputable def pathF (j : Int) (xs : List AW) (p q : Int) : List Int := if mineB j xs && (inB p 0 (j - 1) && inB q 0 (j - 1)) then walkF xs (allL xs.length) xs.length j.toNat q.toNat p.toNat else []
noncomputable def pathC (j : Int) (xs : List AW) (p q : Int) : Int := if mineB j xs then (if inB p 0 (j - 1) && inB q 0 (j - 1) then (if okF xs (allL xs.length) xs.length j.toNat q.toNat p.toNat then 0 else 3) else 2) else 1
theorem path_in {j p q : Int} {xs : List AW} (h : mineB j xs = true) (h2 : inB p 0 (j - 1) = true) (h3 : inB q 0 (j - 1) = true) (h4 : okF xs (allL xs.length) xs.length j.toNat q.toNat p.toNat = true) : pathF j xs p q = walkF xs (allL xs.length) xs.length j.toNat q.toNat p.toNat ∧ pathC j xs p q = 0 := by
  unfold pathF pathC; rw [h, h2, h3, h4]; exact ⟨rfl, rfl⟩
theorem path_off {j p q : Int} {xs : List AW} (h : mineB j xs = true) (h2 : inB p 0 (j - 1) = true) (h3 : inB q 0 (j - 1) = true) (h4 : okF xs (allL xs.length) xs.length j.toNat q.toNat p.toNat = false) : pathF j xs p q = [] ∧ pathC j xs p q = 3 := by
  have h5 : walkF xs (allL xs.length) xs.length j.toNat q.toNat p.toNat = [] := by
    unfold okF at h4
    unfold walkF
    rw [if_neg (by simpa using h4)]
  unfold pathF pathC; rw [h, h2, h3, h4, h5]; exact ⟨rfl, rfl⟩
theorem path_out1 {j p q : Int} {xs : List AW} (h : mineB j xs = true) (h2 : inB p 0 (j - 1) = false) : pathF j xs p q = [] ∧ pathC j xs p q = 2 := by
  unfold pathF pathC; rw [h, h2]; exact ⟨rfl, rfl⟩
theorem path_out2 {j p q : Int} {xs : List AW} (h : mineB j xs = true) (h2 : inB q 0 (j - 1) = false) : pathF j xs p q = [] ∧ pathC j xs p q = 2 := by
  unfold pathF pathC; rw [h, h2, Bool.and_false]; exact ⟨rfl, rfl⟩
theorem path_no {j p q : Int} {xs : List AW} (h : mineB j xs = false) : pathF j xs p q = [] ∧ pathC j xs p q = 1 := by
  unfold pathF pathC; rw [h]; exact ⟨rfl, rfl⟩
theorem pathF_len (j p q : Int) (xs : List AW) : (pathF j xs p q).length ≤ 16 := by
  by_cases h : mineB j xs = true
  · by_cases h2 : inB p 0 (j - 1) = true
    · by_cases h3 : inB q 0 (j - 1) = true
      · obtain ⟨h24, hj, hends⟩ := mine_ends h
        have e1 : pathF j xs p q = walkF xs (allL xs.length) xs.length j.toNat q.toNat p.toNat := by unfold pathF; rw [h, h2, h3]; rfl
        have hp := inB_true.1 h2
        have hJ : ((j.toNat : Nat) : Int) = j := by omega
        rw [e1]
        have := walkF_len (to := q.toNat) (edges_all (J := j.toNat) (by rw [hJ]; exact hends) (allL_bd xs.length)) (fr := p.toNat) (by omega)
        omega
      · rw [(path_out2 h (by simpa using h3)).1]; simp
    · rw [(path_out1 h (by simpa using h2)).1]; simp
  · rw [(path_no (by simpa using h)).1]; simp
theorem hasJunction_any (j : Int) (A : Option Addr) (n c : Nat) (q : Int) (w : World) (hj : 1 ≤ j ∧ j ≤ 16) :
    Calls Try.prog 42 #[.agg #[.int .i64 j, .slice A n c], .int .i64 q] w fun e w' => e = .returned (.bool (inB q 0 (j - 1))) ∧ Below w.heap.size w w' := by
  go_enter Try.func42, Try.ntmps42
  go_wp2_with (go_at_call 57; refine (within_any _ _ _ _).mono ?_; rintro e w' ⟨rfl, rfl⟩)
  go_ret
  exact ⟨rfl, by ((repeat (first | with_reducible exact Below.refl _ _ | with_reducible apply below_drewN | with_reducible apply Below.drew | (with_reducible refine Below.alloc ?_ ?_ _) | (with_reducible refine Below.setCell ?_ ?_ _) | (with_reducible refine Below.trans ?_ (hb4.mono ?_)) | (with_reducible refine Below.trans ?_ (hb3.mono ?_)) | (with_reducible refine Below.trans ?_ (hb2.mono ?_)))); all_goals (first | (simp <;> omega) | (have h2s := hb2.size; (try simp at h2s); (try simp); omega) | (have h2s := hb2.size; have h3s := hb3.size; (try simp at h2s); (try simp at h3s); (try simp); omega) | (have h2s := hb2.size; have h3s := hb3.size; have h4s := hb4.size; (try simp at h2s); (try simp at h3s); (try simp at h4s); (try simp); omega)))⟩

set_option maxHeartbeats 4000000 in
set_option maxRecDepth 100000 in
theorem pathP_any (j p q : Int) (A : Option Addr) (c : Nat) (xs : List AW) (n : Nat) (w : World) (hn : xs.length = n) (h20 : n ≤ 1048576) (hs : ∀ k, k < n → (atA xs k).a.size ≤ maxLen) (hx : Airs w A xs) :
    Calls Try.prog 15 #[.agg #[.int .i64 j, .slice A n c], .int .i64 p, .int .i64 q] w (ListPost (pathF j xs p q) (pathC j xs p q) w) := by
  have b0 : Below w.heap.size w (w.alloc (.cells #[.int .i64 j, .slice A n c] 28)) := by ((repeat (first | with_reducible exact Below.refl _ _ | with_reducible apply below_drewN | with_reducible apply Below.drew | (with_reducible refine Below.alloc ?_ ?_ _) | (with_reducible refine Below.setCell ?_ ?_ _) | (with_reducible refine Below.trans ?_ (hb4.mono ?_)) | (with_reducible refine Below.trans ?_ (hb3.mono ?_)) | (with_reducible refine Below.trans ?_ (hb2.mono ?_)))); all_goals (first | (simp <;> omega) | (have h2s := hb2.size; (try simp at h2s); (try simp); omega) | (have h2s := hb2.size; have h3s := hb3.size; (try simp at h2s); (try simp at h3s); (try simp); omega) | (have h2s := hb2.size; have h3s := hb3.size; have h4s := hb4.size; (try simp at h2s); (try simp at h3s); (try simp at h4s); (try simp); omega)))
  have HX := Lib.hid (hx.next b0)
  have HN := Lib.hid hn
  have HS := Lib.hid hs
  clear hx hn hs
  go_enter Try.func15, Try.ntmps15
  go_wp2_with fail
  refine (validMineP_any j _ _ xs n _ HN.out h20 HS.out HX.out).mono ?_
  by_cases hv : mineB j xs = true
  · have HV := Lib.hid hv
    obtain ⟨h24, hj, hends⟩ := mine_ends hv
    rw [HV.out]
    clear hv
    rintro e w1 ⟨rfl, b1⟩
    obtain ⟨J, rfl⟩ := Int.eq_ofNat_of_zero_le (show 0 ≤ j by omega)
    have m0 : w1.cell? ⟨w.heap.size, 0, none⟩ = some (.int .i64 (J : Int)) := (b1.cell (by simp)).trans (by simp [go_sem])
    have m1 : w1.cell? ⟨w.heap.size, 1, none⟩ = some (.slice A n c) := (b1.cell (by simp)).trans (by simp [go_sem])
    have HEN := Lib.hid (by rw [HN.out] at hends; exact hends)
    have c1 := stepB b0 b1
    have hJ : 1 ≤ J ∧ J ≤ 16 := by omega
    have HX1 := Lib.hid (HX.out.next b1)
    clear b0 hends b1
    go_wp2_with fail
    refine (hasJunction_any (J : Int) _ _ _ p _ hj).mono ?_
    by_cases hp : inB p 0 ((J : Int) - 1) = true
    · have HP := Lib.hid hp
      have hpb := inB_true.1 hp
      rw [HP.out]
      clear hp
      rintro e w2 ⟨rfl, b2⟩
      obtain ⟨n0, n1⟩ := two_next' b2 ⟨m0, m1⟩
      have c2 := stepB c1 b2
      have HX2 := Lib.hid (HX1.out.next b2)
      clear m0 m1 b2 c1
      go_wp2_with fail
      refine (hasJunction_any (J : Int) _ _ _ q _ hj).mono ?_
      by_cases hq : inB q 0 ((J : Int) - 1) = true
      · have HQ := Lib.hid hq
        have hqb := inB_true.1 hq
        rw [HQ.out]
        clear hq
        rintro e w3 ⟨rfl, b3⟩
        obtain ⟨o0, o1⟩ := two_next' b3 ⟨n0, n1⟩
        have HC := Lib.hid (stepB c2 b3)
        have HX3 := Lib.hid (HX2.out.next b3)
        have HM := Lib.hid (show _ ∧ _ from ⟨o0, o1⟩)
        clear n0 n1 b3 c2 o0 o1
        obtain ⟨fr, rfl⟩ := Int.eq_ofNat_of_zero_le hpb.1
        obtain ⟨to, rfl⟩ := Int.eq_ofNat_of_zero_le hqb.1
        have hfr : fr < J := by omega
        have hto : to < J := by omega
        by_cases hok : okF xs (allL n) n J to fr = true
        · have HOK := Lib.hid hok
          clear hok
          go_wp2_with fail
          go_region_held3 (fun w' => w'.cell? ⟨w.heap.size, 0, none⟩ = some (.int .i64 (J : Int)) ∧ w'.cell? ⟨w.heap.size, 1, none⟩ = some (.slice A n c)) (first | exact HM.out | exact two_next' ba HM.out | exact two_next' bq (two_next' ba HM.out))
            ((first | (go_at_call 44; refine (all_any J A n c _ h20).mono ?_; rintro e wa ⟨va, rfl, hoa, ba⟩; obtain ⟨Aa, ca, eva, hia⟩ := hoa.reads; rw [labL_len] at eva; subst eva)
                        | (go_at_call 43; refine (path_any J A c xs n Aa ca (allL n) n fr to _ HN.out h20 hJ HEN.out (allL_len n) h20 (allL_bd n) hfr hto (HX3.out.drew.next ba) hia).mono ?_; rw [HOK.out]; rintro e w7 ⟨v7, rfl, ho7, bq⟩)))
          have HO7 := Lib.hid ho7
          have HB7 := Lib.hid (stepB HC.out (stepB (below_undrew ba) bq))
          have HSA := Lib.hid (Nat.le_trans HC.out.size (below_undrew ba).size)
          clear ba bq hoa hia ho7
          go_wp2_with fail
          go_ret2
          exact list_ret (by have h := path_in HV.out HP.out HQ.out (by rw [HN.out, Int.toNat_natCast, Int.toNat_natCast, Int.toNat_natCast]; exact HOK.out); rw [h.1, h.2, HN.out, Int.toNat_natCast, Int.toNat_natCast, Int.toNat_natCast]; exact ⟨rfl, rfl⟩) (HO7.out.mono HSA.out) HB7.out
        · have HOK := Lib.hid (show okF xs (allL n) n J to fr = false by simpa using hok)
          clear hok
          go_wp2_with fail
          go_region_held3 (fun w' => w'.cell? ⟨w.heap.size, 0, none⟩ = some (.int .i64 (J : Int)) ∧ w'.cell? ⟨w.heap.size, 1, none⟩ = some (.slice A n c)) (first | exact HM.out | exact two_next' ba HM.out | exact two_next' bq (two_next' ba HM.out))
            ((first | (go_at_call 44; refine (all_any J A n c _ h20).mono ?_; rintro e wa ⟨va, rfl, hoa, ba⟩; obtain ⟨Aa, ca, eva, hia⟩ := hoa.reads; rw [labL_len] at eva; subst eva)
                        | (go_at_call 43; refine (path_any J A c xs n Aa ca (allL n) n fr to _ HN.out h20 hJ HEN.out (allL_len n) h20 (allL_bd n) hfr hto (HX3.out.drew.next ba) hia).mono ?_; rw [HOK.out]; rintro e w7 ⟨v7, rfl, ho7, bq⟩)))
          have HO7 := Lib.hid ho7
          have HB7 := Lib.hid (stepB HC.out (stepB (below_undrew ba) bq))
          have HSA := Lib.hid (Nat.le_trans HC.out.size (below_undrew ba).size)
          clear ba bq hoa hia ho7
          go_wp2_with fail
          go_ret2
          exact list_ret (path_off HV.out HP.out HQ.out (by rw [HN.out, Int.toNat_natCast, Int.toNat_natCast, Int.toNat_natCast]; exact HOK.out)) (World.ownsRow_nil _ _ _ _) HB7.out
      · simp only [Bool.not_eq_true] at hq
        have HQ := Lib.hid hq
        rw [HQ.out]
        clear hq
        rintro e w3 ⟨rfl, b3⟩
        have HC := Lib.hid (stepB c2 b3)
        clear n0 n1 b3 c2
        go_wp2_with fail
        go_ret2
        exact list_ret (path_out2 HV.out HQ.out) (World.ownsRow_nil _ _ _ _) HC.out
    · simp only [Bool.not_eq_true] at hp
      have HP := Lib.hid hp
      rw [HP.out]
      clear hp
      rintro e w2 ⟨rfl, b2⟩
      have HC := Lib.hid (stepB c1 b2)
      clear m0 m1 b2 c1
      go_wp2_with fail
      go_ret2
      exact list_ret (path_out1 HV.out HP.out) (World.ownsRow_nil _ _ _ _) HC.out
  · simp only [Bool.not_eq_true] at hv
    have HV := Lib.hid hv
    rw [HV.out]
    clear hv
    rintro e w1 ⟨rfl, b1⟩
    have c1 := Lib.hid (stepB b0 b1)
    clear b0 b1
    go_wp2_with fail
    go_ret2
    exact list_ret (path_no HV.out) (World.ownsRow_nil _ _ _ _) c1.out

set_option maxHeartbeats 4000000 in
set_option maxRecDepth 100000 in
theorem pathS_any (j p q : Int) (A : Option Addr) (c : Nat) (xs : List AW) (n : Nat) (w : World) (hn : xs.length = n) (h20 : n ≤ 1048576) (hs : ∀ k, k < n → (atA xs k).a.size ≤ maxLen) (hx : Airs w A xs) :
    Calls Try.prog 14 #[.agg #[.int .i64 j, .slice A n c], .int .i64 p, .int .i64 q] w (ListPost (pathF j xs p q) (pathC j xs p q) w) := by
  have b0 : Below w.heap.size w (w.alloc (.cells #[.int .i64 j, .slice A n c] 28)) := by ((repeat (first | with_reducible exact Below.refl _ _ | with_reducible apply below_drewN | with_reducible apply Below.drew | (with_reducible refine Below.alloc ?_ ?_ _) | (with_reducible refine Below.setCell ?_ ?_ _) | (with_reducible refine Below.trans ?_ (hb4.mono ?_)) | (with_reducible refine Below.trans ?_ (hb3.mono ?_)) | (with_reducible refine Below.trans ?_ (hb2.mono ?_)))); all_goals (first | (simp <;> omega) | (have h2s := hb2.size; (try simp at h2s); (try simp); omega) | (have h2s := hb2.size; have h3s := hb3.size; (try simp at h2s); (try simp at h3s); (try simp); omega) | (have h2s := hb2.size; have h3s := hb3.size; have h4s := hb4.size; (try simp at h2s); (try simp at h3s); (try simp at h4s); (try simp); omega)))
  have HX := Lib.hid (hx.next b0)
  have HN := Lib.hid hn
  have HS := Lib.hid hs
  clear hx hn hs
  go_enter Try.func14, Try.ntmps14
  go_wp2_with fail
  refine (l04Ok_any _ j A c xs n _ HN.out h20 HS.out HX.out (by simp [go_sem]) (by simp [go_sem])).mono ?_
  by_cases hv : mineB j xs = true
  · have HV := Lib.hid hv
    obtain ⟨h24, hj, hends⟩ := mine_ends hv
    rw [HV.out]
    clear hv
    rintro e w1 ⟨rfl, q1, rfl⟩
    obtain ⟨J, rfl⟩ := Int.eq_ofNat_of_zero_le (show 0 ≤ j by omega)
    have c1 := below_drewN b0 q1
    have HX1 := Lib.hid (HX.out.next (below_drewN (Below.refl _ _) q1))
    generalize hw1 : (w.alloc (.cells #[.int .i64 (J : Int), .slice A n c] 28)).drewN q1 = w1 at c1 HX1 ⊢
    have m0 : w1.cell? ⟨w.heap.size, 0, none⟩ = some (.int .i64 (J : Int)) := by rw [← hw1]; simp [go_sem]
    have m1 : w1.cell? ⟨w.heap.size, 1, none⟩ = some (.slice A n c) := by rw [← hw1]; simp [go_sem]
    have HEN := Lib.hid (by rw [HN.out] at hends; exact hends)
    have HC := Lib.hid c1
    have hJ : 1 ≤ J ∧ J ≤ 16 := by omega
    clear b0 c1 hw1 hends
    go_wp2_with fail
    by_cases hp : inB p 0 ((J : Int) - 1) = true
    · have HP := Lib.hid hp
      have hpb := inB_true.1 hp
      refine (l04Junction_is _ (J : Int) p _ m0 hj true hp).mono ?_
      clear hp
      rintro e w2 ⟨rfl, rfl⟩
      go_wp2_with fail
      by_cases hq : inB q 0 ((J : Int) - 1) = true
      · have HQ := Lib.hid hq
        have hqb := inB_true.1 hq
        refine (l04Junction_is _ (J : Int) q _ m0 hj true hq).mono ?_
        clear hq
        rintro e w3 ⟨rfl, rfl⟩
        obtain ⟨fr, rfl⟩ := Int.eq_ofNat_of_zero_le hpb.1
        obtain ⟨to, rfl⟩ := Int.eq_ofNat_of_zero_le hqb.1
        have hfr : fr < J := by omega
        have hto : to < J := by omega
        go_wp2_with fail
        refine (l04All_any _ (-1) A n c _ h20 (by omega) m1).mono ?_; rintro e w4 ⟨v, rfl, ho, b4⟩
        obtain ⟨A2, c2, ev, hi⟩ := ho.reads
        rw [labL_len] at ev
        subst ev
        obtain ⟨n0, n1⟩ := two_next' b4 ⟨m0, m1⟩
        have HB := Lib.hid b4
        clear b4 m0 m1
        go_wp2_with fail
        refine (l04Walk_any _ J A c xs n A2 c2 (allL n) n fr to _ HN.out h20 hJ HEN.out (allL_len n) h20 (allL_bd n) hfr hto (HX1.out.next HB.out) hi n0 n1).mono ?_
        by_cases hok : okF xs (allL n) n J to fr = true
        · rw [hok]
          rintro e w5 ⟨v5, rfl, ho5, b5⟩
          have HOK := Lib.hid hok
          have HO5 := Lib.hid ho5
          have HB5 := Lib.hid (stepB HC.out (stepB HB.out b5))
          have HSA := Lib.hid (Nat.le_trans HC.out.size HB.out.size)
          clear hok ho5 b5 n0 n1 hi ho
          go_wp2_with fail
          go_ret2
          exact list_ret (by have h := path_in HV.out HP.out HQ.out (by rw [HN.out, Int.toNat_natCast, Int.toNat_natCast, Int.toNat_natCast]; exact HOK.out); rw [h.1, h.2, HN.out, Int.toNat_natCast, Int.toNat_natCast, Int.toNat_natCast]; exact ⟨rfl, rfl⟩) (HO5.out.mono HSA.out) HB5.out
        · have hok2 : okF xs (allL n) n J to fr = false := by simpa using hok
          rw [hok2]
          rintro e w5 ⟨v5, rfl, ho5, b5⟩
          have HOK := Lib.hid hok2
          have HB5 := Lib.hid (stepB HC.out (stepB HB.out b5))
          clear hok hok2 ho5 b5 n0 n1 hi ho
          go_wp2_with fail
          go_ret2
          exact list_ret (path_off HV.out HP.out HQ.out (by rw [HN.out, Int.toNat_natCast, Int.toNat_natCast, Int.toNat_natCast]; exact HOK.out)) (World.ownsRow_nil _ _ _ _) HB5.out
      · simp only [Bool.not_eq_true] at hq
        have HQ := Lib.hid hq
        refine (l04Junction_is _ (J : Int) q _ m0 hj false hq).mono ?_
        clear hq
        rintro e w3 ⟨rfl, rfl⟩
        go_wp2_with fail
        go_ret2
        exact list_ret (path_out2 HV.out HQ.out) (World.ownsRow_nil _ _ _ _) HC.out
    · simp only [Bool.not_eq_true] at hp
      have HP := Lib.hid hp
      refine (l04Junction_is _ (J : Int) p _ m0 hj false hp).mono ?_
      clear hp
      rintro e w2 ⟨rfl, rfl⟩
      go_wp2_with fail
      go_ret2
      exact list_ret (path_out1 HV.out HP.out) (World.ownsRow_nil _ _ _ _) HC.out
  · simp only [Bool.not_eq_true] at hv
    have HV := Lib.hid hv
    rw [HV.out]
    clear hv
    rintro e w1 ⟨rfl, q1, rfl⟩
    have c1 := Lib.hid (below_drewN b0 q1)
    clear b0
    go_wp2_with fail
    go_ret2
    exact list_ret (path_no HV.out) (World.ownsRow_nil _ _ _ _) c1.out

set_option maxHeartbeats 2000000 in
theorem law_PathOf (j : Int) (A : Option Addr) (n c : Nat) (xs : List AW) (hn : xs.length = n) (hm : n ≤ maxLen) (hs : ∀ k, k < n → (atA xs k).a.size ≤ maxLen) (p : Int) (_ : -9223372036854775808 ≤ p ∧ p ≤ 9223372036854775807) (q : Int) (_ : -9223372036854775808 ≤ q ∧ q ≤ 9223372036854775807) (w : World) (hx : Airs w A xs) :
    Calls Try.prog 4 #[.agg #[.int .i64 j, .slice A n c], .int .i64 p, .int .i64 q] w fun e w' => e = .returned (.bool true) ∧ Below w.heap.size w w' := by
  unfold maxLen at hm
  have HX := Lib.hid hx
  have HN := Lib.hid hn
  have HS := Lib.hid hs
  clear hx hn hs
  have b0 : Below w.heap.size w (w.alloc (.cells #[.int .i64 j, .slice A n c] 24)) := (Below.refl _ _).alloc (Nat.le_refl _) _
  go_enter Try.func4, Try.ntmps4
  go_wp2_with fail
  refine (szMine_any j A c xs n 1048576 _ HN.out (by unfold maxLen; omega) (by omega) (by omega) HS.out (HX.out.next b0)).mono ?_; rintro e w1 ⟨r, rfl, hr, b1⟩
  have m0 : w1.cell? ⟨w.heap.size, 0, none⟩ = some (.int .i64 j) := (b1.cell (by simp)).trans (by simp [go_sem])
  have m1 : w1.cell? ⟨w.heap.size, 1, none⟩ = some (.slice A n c) := (b1.cell (by simp)).trans (by simp [go_sem])
  have c1 := stepB b0 b1
  clear b0 b1
  by_cases hr0 : r < 0
  · go_wp2_with fail
    go_ret
    exact ⟨rfl, c1⟩
  · have hr2 := hr.resolve_left hr0
    have h20 : n ≤ 1048576 := by have := HN.out; omega
    clear hr
    have hr0 : 0 ≤ r := by omega
    clear hr2
    go_wp2_with fail
    refine (toMine_any j A c xs n _ HN.out h20 (HX.out.next c1)).mono ?_; rintro e w2 ⟨g2, rfl, hg2, r2, b2⟩
    go_wp2_with fail
    obtain ⟨N, hN⟩ : ∃ N, (pathF j xs p q).length = N := ⟨_, rfl⟩
    have hN20 : N ≤ 1048576 := by have := pathF_len j p q xs; omega
    have HL := Lib.hid hN
    clear hN
    generalize hls : pathF j xs p q = ls at HL
    generalize hcd : pathC j xs p q = cd
    have HLS := Lib.hid hls
    have HCD := Lib.hid hcd
    clear hls hcd
    refine (pathS_any j p q _ _ xs n _ HN.out h20 HS.out (r2.airs HN.out)).mono ?_; rw [HLS.out, HCD.out]; rintro e w3 ⟨v0, rfl, ho0, b3⟩
    obtain ⟨A0, k0, ev0, J0⟩ := ho0.reads
    rw [HL.out] at ev0
    subst ev0
    clear ho0
    have b23 := stepB b2 b3
    have n0 : w3.cell? ⟨w.heap.size, 0, none⟩ = some (.int .i64 j) := (b23.cell (World.block_lt_of_cell? w1 _ m0)).trans m0
    have n1 : w3.cell? ⟨w.heap.size, 1, none⟩ = some (.slice A n c) := (b23.cell (World.block_lt_of_cell? w1 _ m1)).trans m1
    have c3 := stepB c1 b23
    have c3k := c3
    have N0 := Lib.hid n0
    have N1 := Lib.hid n1
    clear b2 b3 b23 m0 m1 c1 r2 hg2
    go_wp2_with fail
    refine (toMine_any j A c xs n _ HN.out h20 (HX.out.next c3)).mono ?_; rintro e w4 ⟨g4, rfl, hg4, r4, b4⟩
    have b4a : Below w3.heap.size w3 (w4.alloc (.cells #[.int .i64 j, .slice (some ⟨g4, 0, none⟩) n n] 28)) := b4.alloc b4.size _
    have o0 : (w4.alloc (.cells #[.int .i64 j, .slice (some ⟨g4, 0, none⟩) n n] 28)).cell? ⟨w.heap.size, 0, none⟩ = some (.int .i64 j) := (b4a.cell (World.block_lt_of_cell? w3 _ n0)).trans n0
    have o1 : (w4.alloc (.cells #[.int .i64 j, .slice (some ⟨g4, 0, none⟩) n n] 28)).cell? ⟨w.heap.size, 1, none⟩ = some (.slice A n c) := (b4a.cell (World.block_lt_of_cell? w3 _ n1)).trans n1
    have c4 := stepB c3 b4a
    have AX := (r4.airs HN.out).next ((Below.refl w4.heap.size w4).alloc (Nat.le_refl _) (.cells #[.int .i64 j, .slice (some ⟨g4, 0, none⟩) n n] 28))
    have RX := r4.next ((Below.refl w4.heap.size w4).alloc (Nat.le_refl _) (.cells #[.int .i64 j, .slice (some ⟨g4, 0, none⟩) n n] 28))
    have p0 : (w4.alloc (.cells #[.int .i64 j, .slice (some ⟨g4, 0, none⟩) n n] 28)).cell? ⟨w4.heap.size, 0, none⟩ = some (.int .i64 j) := by simp [go_sem]
    have p1 : (w4.alloc (.cells #[.int .i64 j, .slice (some ⟨g4, 0, none⟩) n n] 28)).cell? ⟨w4.heap.size, 1, none⟩ = some (.slice (some ⟨g4, 0, none⟩) n n) := by simp [go_sem]
    have hg43 : w3.heap.size ≤ g4 := hg4
    clear b4 n0 n1 c3 r4
    go_wp2_with fail
    refine (pathP_any j p q _ _ xs n _ HN.out h20 HS.out AX).mono ?_; rw [HLS.out, HCD.out]; rintro e w5 ⟨v5, rfl, ho5, b5⟩
    have c5 := stepB c4 b5
    have d5 := stepB b4a b5
    have HQ := Lib.hid (q_next b5 ⟨o0, o1, p0, p1⟩)
    have AX5 := Lib.hid (AX.next b5)
    have RX5 := Lib.hid ((RX.next b5).rowN)
    have CX3 := Lib.hid (HX.out.next c3k)
    have CX5 := Lib.hid (CX3.out.next d5)
    obtain ⟨A5, k5, ev5, _⟩ := ho5.reads
    rw [HL.out] at ev5
    subst ev5
    have hB5 : g4 < (w4.alloc (.cells #[.int .i64 j, .slice (some ⟨g4, 0, none⟩) n n] 28)).heap.size := RX.lt
    have hB53 : w3.heap.size ≤ (w4.alloc (.cells #[.int .i64 j, .slice (some ⟨g4, 0, none⟩) n n] 28)).heap.size := b4a.size
    have hB5w : (w4.alloc (.cells #[.int .i64 j, .slice (some ⟨g4, 0, none⟩) n n] 28)).heap.size ≤ w5.heap.size := b5.size
    generalize hBB : (w4.alloc (.cells #[.int .i64 j, .slice (some ⟨g4, 0, none⟩) n n] 28)).heap.size = BB at ho5 hB5 hB53 hB5w
    have HBB := Lib.hid hBB
    clear hBB
    have HO5 := Lib.hid ho5
    have D5 := Lib.hid d5
    have C5 := Lib.hid c5
    clear ho5 d5 c5 b5 o0 o1 p0 p1 AX c4 RX b4a
    go_wp2_with fail
    refine (eqI_same _ _ _ _ ls N _ HL.out (by omega) HO5.out.ints.2 (J0.next D5.out)).mono ?_; rintro e w6 ⟨rfl, b6⟩
    have HO6 := Lib.hid (HO5.out.below b6)
    have D6 := Lib.hid (stepB D5.out b6)
    have C6 := Lib.hid (stepB C5.out b6)
    have HQ6 := Lib.hid (q_next b6 HQ.out)
    have AX6 := Lib.hid (AX5.out.next b6)
    have RX6 := Lib.hid (RX5.out.next b6)
    have CX6 := Lib.hid (CX5.out.next b6)
    have hs6 : w5.heap.size ≤ w6.heap.size := b6.size
    clear b6
    go_wp2_with fail
    go_region_held3 (fun w' => w'.cell? ⟨w.heap.size, 0, none⟩ = some (.int .i64 j) ∧ w'.cell? ⟨w.heap.size, 1, none⟩ = some (.slice A n c) ∧ w'.cell? ⟨w4.heap.size, 0, none⟩ = some (.int .i64 j) ∧ w'.cell? ⟨w4.heap.size, 1, none⟩ = some (.slice (some ⟨g4, 0, none⟩) n n)) (first | exact HQ6.out | exact q_next bq HQ6.out | exact q_next br (q_next bq HQ6.out))
      ((first | (go_at_call 9; refine (toMine_any j A c xs n _ HN.out h20 CX6.out.drew).mono ?_; rintro e w7 ⟨g7, rfl, hg7, r7, bq⟩) | (go_at_call 11; refine (eqMine_same j _ _ _ _ xs n _ HN.out (by omega) (AX6.out.drew.next bq) (r7.airs HN.out)).mono ?_; rintro e w8 ⟨rfl, br⟩)))
    have b8 := stepB (below_undrew bq) br
    have HO8 := Lib.hid (HO6.out.below b8)
    have D8 := Lib.hid (stepB D6.out b8)
    have C8 := Lib.hid (stepB C6.out b8)
    have RX8 := Lib.hid (RX6.out.next b8)
    have hs8 : w6.heap.size ≤ w8.heap.size := b8.size
    have HQ8 := q_next b8 HQ6.out
    obtain ⟨_, _, p0, p1⟩ := HQ8
    clear bq br r7 b8
    go_wp2_with fail
    refine (markMine_any j g4 n n _ h20 RX8.out).mono ?_; rintro e w9 ⟨r9, rfl, hg9⟩
    have D9 := Lib.hid (below_grown D8.out hg9 (fun g e => by injection e with e; omega) (by have := D8.out.size; omega))
    have C9 := Lib.hid (below_grown C8.out hg9 (fun g e => by injection e with e; have := c3k.size; omega) (by have := C8.out.size; omega))
    have HO9 := Lib.hid (HO8.out.kept hg9 (by
      cases hA : (Value.slice A5 N k5).ownBlock with
      | none => exact .inl rfl
      | some g => exact .inr (by intro e; injection e with e; have := (HO8.out.lt hA).1; omega)))
    have hs9 : w8.heap.size ≤ w9.heap.size := hg9.size
    clear hg9 p0 p1
    have hr9 : (0 : Int) ≤ (r9 : Int) := by omega
    go_wp2_with fail
    refine (eqI_same _ _ _ _ ls N _ HL.out (by omega) HO9.out.ints.2 (J0.next D9.out)).mono ?_; rintro e w10 ⟨rfl, b10⟩
    have HO10 := Lib.hid (HO9.out.below b10)
    have D10 := Lib.hid (stepB D9.out b10)
    have C10 := Lib.hid (stepB C9.out b10)
    have hs10 : w9.heap.size ≤ w10.heap.size := b10.size
    clear b10
    go_wp2_with fail
    refine (markI_any A5 k5 ls N BB _ HL.out (by omega) (by omega) HO10.out).mono ?_; rintro e w11 ⟨rfl, hm11, b11⟩
    have D11 := Lib.hid (D10.out.trans (b11.mono hB53))
    have C11 := Lib.hid (C10.out.trans (b11.mono (by have := c3k.size; omega)))
    have HM11 := Lib.hid hm11
    clear b11 hm11
    have hN0 : (0 : Int) ≤ (N : Int) := by omega
    have hN2 : (N : Int) ≤ 1048576 := by omega
    go_wp2_with fail
    refine (heldI_any A5 k5 N _ (by omega) HM11.out).mono ?_; rintro e w12 ⟨rfl, rfl⟩
    have o0 : w11.cell? ⟨w.heap.size, 0, none⟩ = some (.int .i64 j) := (D11.out.cell (World.block_lt_of_cell? w3 _ N0.out)).trans N0.out
    have o1 : w11.cell? ⟨w.heap.size, 1, none⟩ = some (.slice A n c) := (D11.out.cell (World.block_lt_of_cell? w3 _ N1.out)).trans N1.out
    have CX11 := Lib.hid (CX3.out.next D11.out)
    go_wp2_with fail
    refine (toMine_any j A c xs n _ HN.out h20 CX11.out).mono ?_; rintro e w13 ⟨g13, rfl, hg13, r13, b13⟩
    go_wp2_with fail
    refine (pathP_any j p q _ _ xs n _ HN.out h20 HS.out (r13.airs HN.out)).mono ?_; rw [HLS.out, HCD.out]; rintro e w14 ⟨v14, rfl, ho14, b14⟩
    have b14' := stepB b13 b14
    have D14 := Lib.hid (stepB D11.out b14')
    have C14 := Lib.hid (stepB C11.out b14')
    have HM14 := Lib.hid (HM11.out.next b14')
    obtain ⟨A14, k14, ev14, i14⟩ := ho14.reads
    rw [HL.out] at ev14
    subst ev14
    have I14 := Lib.hid i14
    clear b13 b14 b14' ho14 i14 o0 o1 r13 hg13
    go_wp2_with fail
    refine (eqI_same _ _ _ _ ls N _ HL.out (by omega) I14.out (J0.next D14.out)).mono ?_; rintro e w15 ⟨rfl, b15⟩
    have C15 := Lib.hid (stepB C14.out b15)
    have HM15 := Lib.hid (HM14.out.next b15)
    clear b15
    go_wp2_with fail
    refine (heldI_any A5 k5 N _ (by omega) HM15.out).mono ?_; rintro e w16 ⟨rfl, rfl⟩
    go_wp2_with fail
    go_ret
    exact ⟨rfl, C15.out⟩

/-! ### the row of FnExactPathOf: the arguments are opened, the walk is met, each argument reads behind the call as before -/
namespace fnExactPathOf
open Go.ChangeShapes Go.WideShapes Go.ChangeAt Go.RowKit Go.Joins
open Go.ChangeMaps (open_string shut_string)
set_option linter.unusedVariables false
set_option maxRecDepth 100000 in
theorem lifted (os : Os) (started : os.Started) (H : Type) (enc : TypeId × Value → H) :
    ReturnsInHanded {} Try.checked os 4 .any (Rows.fnExactPathOfSpec.pre6 enc Try.prog Try.f4 Rows.fnExactPathOfRow.domain false) (Rows.fnExactPathOfSpec.post enc Try.prog Try.f4 false true false false) := by
  refine returnsInHanded_of_change (C := Try.checked) own started (by kernel_rfl) Try.func4
    (ChangeSpec.witness6 (enc := enc) (C := Try.checked) false ⟨#[], #[.agg #[.int .i64 0, .slice none 0 0], .int .i64 0, .int .i64 0], []⟩ 8 (by kernel_rfl) (by kernel_rfl) (by kernel_rfl) (by kernel_rfl)) ?_
  intro W base args ds gs before hval0 hW hcnd _
  have hval : ∀ (j : Nat) t v, Try.f4.params[j]? = some t → args[j]? = some v → Value.okWide Try.prog W .any base t v := hval0
  have hW' := hW
  obtain ⟨p, q, hA0, hV, rfl, hfz, hnd⟩ := hW
  have hA : DataW.TrodAll enc Try.prog W 0 (fun _ => true) true Try.f4.params.toList args.toList ds p := hA0
  rw [Try.params4] at hA hval
  obtain ⟨v0, vs0, d0, ds0, p0, q0, hargs, rfl, rfl, h0, r0⟩ := trodAll_cons hA
  obtain ⟨v1, vs1, d1, ds1, p1, q1, rfl, rfl, rfl, h1, r1⟩ := trodAll_cons r0
  obtain ⟨v2, vs2, d2, ds2, p2, q2, rfl, rfl, rfl, h2, r2⟩ := trodAll_cons r1
  obtain ⟨rfl, rfl, rfl⟩ := trodAll_nil r2
  obtain rfl : args = #[v0, v1, v2] := by cases args; simp_all
  obtain ⟨rfl, rfl⟩ := trodVars_none hV
  clear hA0 hval0
  simp only [List.append_nil] at hW'
  have lt0 : ∀ x ∈ p0, x.block < W.heap.size := fun x hx => by simpa using hW'.lt x (by simp [hx])
  have k0 := h0
  have lt1 : ∀ x ∈ p1, x.block < W.heap.size := fun x hx => by simpa using hW'.lt x (by simp [hx])
  have k1 := h1
  have lt2 : ∀ x ∈ p2, x.block < W.heap.size := fun x hx => by simpa using hW'.lt x (by simp [hx])
  have k2 := h2
  obtain ⟨c0_0, c0_1, y0_0, y0_1, m0, rfl, rfl, rfl, hy0_0, hy0_1⟩ := open_agg2 Try.underlying24 (by kernel_rfl) (by kernel_rfl) (hval 0 24 v0 rfl rfl) h0
  obtain ⟨a0_0, e0_0, z0_0, w0_0⟩ := DataW.trod_int Try.underlying2 hy0_0
  simp only [List.cons.injEq, and_true] at e0_0; subst e0_0
  obtain ⟨A0, len0, cap0, rfl⟩ := slice_shape Try.underlying22 Try.underlying48 (by kernel_rfl) (by kernel_rfl) hy0_1
  obtain ⟨xs0, hn0, hm0, hs0, hx0⟩ := view_airs Try.underlying22 Try.underlying48 (by kernel_rfl) (by kernel_rfl) Try.underlying9 Try.underlying2 Try.underlying2 Try.underlying2 Try.underlying2 Try.underlying2 Try.underlying2 hy0_1
  obtain ⟨a1, rfl, rfl, rfl, w1⟩ := open_int Try.underlying2 (hval 1 2 v1 rfl rfl) h1
  obtain ⟨a2, rfl, rfl, rfl, w2⟩ := open_int Try.underlying2 (hval 2 2 v2 rfl rfl) h2
  refine (law_PathOf a0_0 A0 len0 cap0 xs0 hn0 hm0 hs0 a1 (wf_bd w1) a2 (wf_bd w2) W hx0).mono fun e W' ⟨he, hb⟩ => ?_
  subst he
  exact ⟨_, rfl, _, _, _, _, _, [], hW', (trodAll_cons_mk (shut_bool Try.underlying4 _) trodAll_mk0), (trodAll_cons_mk (Below.trod laidOut (by kernel_rfl) (of_decide_eq_true (by kernel_rfl)) k0 hb lt0) (trodAll_cons_mk (Below.trod laidOut (by kernel_rfl) (of_decide_eq_true (by kernel_rfl)) k1 hb lt1) (trodAll_cons_mk (Below.trod laidOut (by kernel_rfl) (of_decide_eq_true (by kernel_rfl)) k2 hb lt2) trodAll_mk0))), rfl, hb.frame _, fun h => by cases h⟩

theorem proved : Rows.FnExactPathOfSaid :=
  OpenClaim.holds_of_wide 4 Try.f4 rfl rfl rfl rfl rfl rfl rfl ⟨rfl, rfl, rfl, rfl, rfl⟩ rfl rfl rfl rfl rfl (by kernel_rfl) Try.func4 (by kernel_rfl)
    (of_decide_eq_true (by kernel_rfl)) (by unfold Func.isWrapper; first | (rw [if_pos (by decide +kernel)]; kernel_rfl) | (rw [if_neg (by decide +kernel)]; exact ⟨rfl, rfl⟩))
    (fun os started H enc _ => lifted os started H enc)
#print axioms proved
end fnExactPathOf
end Go.Proofs.Ytgiokjflfadeeaa
