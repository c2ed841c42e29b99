/-
  The contract of the reference's test of a mine.
-/
import Derived.Test.YtgiokjflfadeeaaValid
namespace Go.Proofs.Ytgiokjflfadeeaa
open Go.RowKit
set_option linter.unusedVariables false

theorem AirAt.drewN {w : World} {b o : Nat} {x : AW} (h : AirAt w b o x) (n : Nat) : AirAt (w.drewN n) b o x := ⟨h.c0, h.c1, h.c2, h.c3, h.c4, h.c5, h.c6⟩
theorem l03OkAW_is (b o : Nat) (x : AW) (w : World) (hx : x.a.size ≤ maxLen) (h : AirAt w b o x) (q : Bool) (hq : x.okB = q) : Calls Try.prog 47 #[.pointer (some ⟨b, o, none⟩)] w fun e w' => e = .returned (.bool q) ∧ ∃ m, w' = w.drewN m := by
  subst hq; exact l03OkAW_any b o x w hx h
theorem l04Junction_is (g : Nat) (j u : Int) (w : World) (hc : w.cell? ⟨g, 0, none⟩ = some (.int .i64 j)) (hj : 1 ≤ j ∧ j ≤ 16) (q : Bool) (hq : inB u 0 (j - 1) = q) :
    Calls Try.prog 39 #[.pointer (some ⟨g, 0, none⟩), .int .i64 u] w fun e w' => e = .returned (.bool q) ∧ w = w' := by
  subst hq
  go_enter Try.func39, Try.ntmps39
  go_wp2_with (go_at_call 54; refine (l00In_any _ _ _ _).mono ?_; rintro e w' ⟨rfl, rfl⟩)
  go_ret
  exact ⟨rfl, rfl⟩

theorem l04Junction_at (g : Nat) (j u : Int) (w : World) (n : Nat) (hc : w.cell? ⟨g, 0, none⟩ = some (.int .i64 j)) (hj : 1 ≤ j ∧ j ≤ 16) (q : Bool) (hq : inB u 0 (j - 1) = q) :
    Calls Try.prog 39 #[.pointer (some ⟨g, 0, none⟩), .int .i64 u] (w.drewN n) fun e w' => e = .returned (.bool q) ∧ w.drewN n = w' := l04Junction_is g j u (w.drewN n) hc hj q hq
set_option maxHeartbeats 2000000 in
set_option maxRecDepth 100000 in
theorem l04Ok_any (g : Nat) (j : Int) (A : Option Addr) (c : Nat) (xs : List AW) (n : Nat) (w : World) (hn : xs.length = n) (h20 : n ≤ 1048576) (hs : ∀ k, k < n → (atA xs k).a.size ≤ maxLen) (hx : Airs w A xs)
    (m0 : w.cell? ⟨g, 0, none⟩ = some (.int .i64 j)) (m1 : w.cell? ⟨g, 1, none⟩ = some (.slice A n c)) :
    Calls Try.prog 29 #[.pointer (some ⟨g, 0, none⟩)] w fun e w' => e = .returned (.bool (mineB j xs)) ∧ ∃ q, w' = w.drewN q := by
  have HX := Lib.hid hx
  have HN := Lib.hid hn
  have HS := Lib.hid hs
  clear hx hn hs
  by_cases g0 : inB j 1 16 = true
  · have b0 := inB_true.1 g0
    go_enter Try.func29, Try.ntmps29
    go_wp2_with (go_at_call 54; refine (l00In_is _ _ _ _ _ g0).mono ?_; rintro e w' ⟨rfl, rfl⟩)
    go_loopw [3] (fun i wr => ∃ k : Nat, k ≤ n ∧ i = .int .i64 k ∧ (List.range k).all (stepOk j xs) = true ∧ ∃ q, wr = w.drewN q) (fun i _ => n - (intOf i).toNat)
    case atStart => exact ⟨0, Nat.zero_le _, rfl, rfl, 0, rfl⟩
    case round =>
      obtain ⟨k, hk, rfl, hall, q, rfl⟩ := hrel
      have HA := Lib.hid hall
      clear hall
      by_cases hlt : k < n
      · obtain ⟨b, off, rfl, hb', hc⟩ := HX.out.at_ (k := k) (by have := HN.out; omega)
        have hki : (k : Int) < n := by omega
        have hsz := HS.out k hlt
        have hp : 0 < k → ∃ p : ByteArray, p = (atA xs (k - 1)).a ∧ w.cell? ⟨b, off + (k - 1) * 7, none⟩ = some (.string p) := fun h0 => by
          obtain ⟨b2, off2, e2, hb2', hc2⟩ := HX.out.at_ (k := k - 1) (by have := HN.out; omega)
          injection e2 with e2; injection e2 with e21 e22
          subst e21 e22
          exact ⟨_, rfl, hc2.c0⟩
        have HPQ := Lib.hid hp
        clear hp
        generalize hx : atA xs k = x at hc hsz
        have HXK := Lib.hid hx
        have HP := Lib.hid (stepOk_is j xs k x hx)
        have HC := Lib.hid hc
        obtain ⟨c0, c1, c2, c3, c4, c5, c6⟩ := hc
        clear hx
        by_cases g1 : x.okB = true
        · by_cases g2 : inB x.u 0 (j - 1) = true
          · by_cases g3 : inB x.v 0 (j - 1) = true
            · by_cases h0 : 0 < k
              · obtain ⟨p, hpe, hpc⟩ := HPQ.out h0
                have HPE := Lib.hid hpe
                clear hpe
                have h0i : decide ((0 : Int) < k) = true := by simpa using h0
                have hk1 : IntKind.i64.wrap ((k : Int) - 1) = (k : Int) - 1 := IntWalk.i64_in _ (by omega)
                have hk2 : ((k : Int) - 1).toNat = k - 1 := by omega
                have hk3 : 0 ≤ (k : Int) - 1 := by omega
                have hk4 : (k : Int) - 1 < n := by omega
                have hk5 : 1 ≤ (k : Int) := by omega
                have hk6 : (k : Int) < n + 1 := by omega
                have hk8 : 1 ≤ k := by omega
                go_wp2_with fail
                go_quiet ((first | (go_at_call 47; exact quiet_add_ex (l03OkAW_is _ _ x _ hsz (HC.out.drewN _) _ g1)) | (go_at_call 39; first | with_reducible exact quiet_add_left (l04Junction_at _ j x.u w _ m0 b0 _ g2) | with_reducible exact quiet_add_left (l04Junction_at _ j x.v w _ m0 b0 _ g3))))
                clear hk1 hk2 hk3 hk4 hk5 hk6 hk8 hpc c0 c1 c2 c3 c4 c5 c6
                generalize hle : (Op.bytesLess p.toList x.a.toList) = q2 at *
                have HL := Lib.hid (show leS x.a (atA xs (k - 1)).a = !q2 by rw [leS_ge, ← HPE.out, hle])
                clear hle
                cases q2
                · go_wp2_with fail
                  go_ret
                  exact ⟨ret_bool (by rw [mine_no (k := k) (by have := HN.out; omega) (by rw [HP.out, g1, HL.out]; unfold endsB; rw [g2, g3]; simp; omega)]), _, by first | rw [World.drewN_drewN] | rfl⟩
                · go_wp2_with fail
                  go_roundw
                  case rel => exact ⟨k + 1, by omega, by go_num, by rw [range_take, HA.out, HP.out, g1, HL.out]; unfold endsB; rw [g2, g3]; simp, _, by first | rw [World.drewN_drewN] | rfl⟩
                  case measure => simp [intOf]; omega
              · have H0 := Lib.hid (show k = 0 by omega)
                have h0i : decide ((0 : Int) < k) = false := by simp; omega
                have h0n : decide (0 < k) = false := by simp; omega
                have h0l : (k : Int) ≤ 0 := by omega
                clear h0
                go_wp2_with fail
                go_quiet ((first | (go_at_call 47; exact quiet_add_ex (l03OkAW_is _ _ x _ hsz (HC.out.drewN _) _ g1)) | (go_at_call 39; first | with_reducible exact quiet_add_left (l04Junction_at _ j x.u w _ m0 b0 _ g2) | with_reducible exact quiet_add_left (l04Junction_at _ j x.v w _ m0 b0 _ g3))))
                clear c0 c1 c2 c3 c4 c5 c6
                go_wp2_with fail
                go_roundw
                case rel => exact ⟨k + 1, by omega, by go_num, by rw [range_take, HA.out, HP.out, g1, H0.out]; unfold endsB; rw [g2, g3]; simp, _, by first | rw [World.drewN_drewN] | rfl⟩
                case measure => simp [intOf]; omega
            · simp only [Bool.not_eq_true] at g3
              go_wp2_with fail
              go_quiet ((first | (go_at_call 47; exact quiet_add_ex (l03OkAW_is _ _ x _ hsz (HC.out.drewN _) _ g1)) | (go_at_call 39; first | with_reducible exact quiet_add_left (l04Junction_at _ j x.u w _ m0 b0 _ g2) | with_reducible exact quiet_add_left (l04Junction_at _ j x.v w _ m0 b0 _ g3))))
              clear c0 c1 c2 c3 c4 c5 c6
              go_wp2_with fail
              go_ret
              exact ⟨ret_bool (by rw [mine_no (k := k) (by have := HN.out; omega) (by rw [HP.out, g1]; unfold endsB; rw [g2, g3]; simp)]), _, by first | rw [World.drewN_drewN] | rfl⟩
          · simp only [Bool.not_eq_true] at g2
            go_wp2_with fail
            go_quiet ((first | (go_at_call 47; exact quiet_add_ex (l03OkAW_is _ _ x _ hsz (HC.out.drewN _) _ g1)) | (go_at_call 39; first | with_reducible exact quiet_add_left (l04Junction_at _ j x.u w _ m0 b0 _ g2) | with_reducible exact quiet_add_left (l04Junction_at _ j x.v w _ m0 b0 _ g3))))
            clear c0 c1 c2 c3 c4 c5 c6
            go_wp2_with fail
            go_ret
            exact ⟨ret_bool (by rw [mine_no (k := k) (by have := HN.out; omega) (by rw [HP.out, g1]; unfold endsB; rw [g2]; simp)]), _, by first | rw [World.drewN_drewN] | rfl⟩
        · simp only [Bool.not_eq_true] at g1
          go_wp2_with fail
          go_quiet ((first | (go_at_call 47; exact quiet_add_ex (l03OkAW_is _ _ x _ hsz (HC.out.drewN _) _ g1)) | (go_at_call 39; first | with_reducible exact quiet_add_left (l04Junction_at _ j x.u w _ m0 b0 _ g2) | with_reducible exact quiet_add_left (l04Junction_at _ j x.v w _ m0 b0 _ g3))))
          clear c0 c1 c2 c3 c4 c5 c6
          go_wp2_with fail
          go_ret
          exact ⟨ret_bool (by rw [mine_no (k := k) (by have := HN.out; omega) (by rw [HP.out, g1]; simp)]), _, by first | rw [World.drewN_drewN] | rfl⟩
      · obtain rfl : k = n := by omega
        go_wp2_with fail
        go_ret
        exact ⟨ret_bool (by unfold mineB; rw [HN.out, HA.out, g0]; simp; omega), _, rfl⟩
  · simp only [Bool.not_eq_true] at g0
    go_enter Try.func29, Try.ntmps29
    go_wp2_with (go_at_call 54; refine (l00In_is _ _ _ _ _ g0).mono ?_; rintro e w' ⟨rfl, rfl⟩)
    go_ret
    exact ⟨ret_bool (by unfold mineB; rw [g0]; simp), 0, rfl⟩
end Go.Proofs.Ytgiokjflfadeeaa
