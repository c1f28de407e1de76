/- The reference of the controller: its small functions. -/
import Derived.Test.YtedamnocolfmlaaGreatMA5
set_option linter.unusedSimpArgs false
set_option linter.unusedVariables false
namespace Go.Proofs.YtedamnocolfmlaaGreat
open Go.RowKit

set_option maxRecDepth 100000 in
set_option maxHeartbeats 1000000 in
theorem rmuxes_any (m : Mb) (w : World) :
    Calls Tryz.prog 25 #[.agg (mbv m)] w fun e w' => e = .returned (.int .u8 (setN (fun i => thereB (m.mx i)) 3)) ∧ Ext w w' := by
  go_enter Tryz.func25, Tryz.ntmps25
  go_wp2
  go_loop [3, 4] (fun n i => ∃ k : Nat, k ≤ 3 ∧ i = .int .i64 k ∧ n = .int .i64 (setN (fun i => thereB (m.mx i)) k)) (fun _ i => 3 - (intOf i).toNat)
  case atStart => exact ⟨0, Nat.zero_le _, rfl, rfl⟩
  case round =>
    obtain ⟨k, hk, rfl, rfl⟩ := hrel
    have hd := setN_bd (fun i => thereB (m.mx i)) k
    by_cases hlt : k < 3
    · have hlt' : (k : Int) < 3 := by omega
      cases h1 : (m.mx k == 1) <;> cases h2 : (m.mx k == 2)
      · have HS := Lib.hid (show setN (fun i => thereB (m.mx i)) (k + 1) = setN (fun i => thereB (m.mx i)) k by rw [setN]; simp [thereB, h1, h2])
        go_wp2
        go_round
        case rel => exact ⟨k + 1, by omega, by go_num, by rw [HS.out]⟩
        case measure => simp [intOf]; omega
      all_goals
        have HS := Lib.hid (show setN (fun i => thereB (m.mx i)) (k + 1) = setN (fun i => thereB (m.mx i)) k + 2 ^ k by rw [setN]; simp [thereB, h1, h2])
        generalize hx : setN (fun i => thereB (m.mx i)) k = x at hd HS ⊢
        clear hx
        go_wp2
        go_round
        case rel => exact ⟨k + 1, by omega, by go_num, by rw [HS.out, pow_wrap (by omega) hd.1 hd.2]⟩
        case measure => simp [intOf]; omega
    · obtain rfl : k = 3 := by omega
      generalize hx : setN (fun i => thereB (m.mx i)) 3 = x at hd ⊢
      have hx0 := hd.1
      have hx1 : x < 64 := Int.lt_of_lt_of_le hd.2 (by decide)
      clear hd
      go_wp2
      go_ret
      exact ⟨rfl, by (repeat (first | with_reducible exact Ext.rf _ | with_reducible assumption | with_reducible refine Ext.al ?_ _ | with_reducible refine Ext.dr ?_ | with_reducible refine Ext.dn ?_ _ | ((with_reducible refine Ext.st _ ?_ ?_); focus (first | omega | (simp; omega) | simp)) | with_reducible refine Ext.tr ?_ (by assumption) | with_reducible refine Ext.tr ?_ (up_ext (by assumption)) | with_reducible refine Ext.of (by assumption) ?_))⟩

set_option maxRecDepth 100000 in
set_option maxHeartbeats 1000000 in
theorem rhas_any (c : Cl) (w : World) : Calls Tryz.prog 10 #[.agg (clv c)] w fun e w' => e = .returned (.int .i64 (hasC c)) ∧ Ext w w' := by
  cases hc : c.has
  all_goals
    go_enter Tryz.func10, Tryz.ntmps10
    go_wp2
    go_ret
    exact ⟨by unfold hasC; rw [hc]; rfl, by (repeat (first | with_reducible exact Ext.rf _ | with_reducible assumption | with_reducible refine Ext.al ?_ _ | with_reducible refine Ext.dr ?_ | with_reducible refine Ext.dn ?_ _ | ((with_reducible refine Ext.st _ ?_ ?_); focus (first | omega | (simp; omega) | simp)) | with_reducible refine Ext.tr ?_ (by assumption) | with_reducible refine Ext.tr ?_ (up_ext (by assumption)) | with_reducible refine Ext.of (by assumption) ?_))⟩
theorem mbR_bk {m : Mb} (k : Nat) (hk : k < 6) (h : 4 ≤ m.bk k) : mbR m = false := by
  unfold mbR
  rw [Bool.and_eq_false_iff]
  right
  exact List.all_eq_false.2 ⟨k, List.mem_range.2 hk, by unfold badS; simp [h]⟩
theorem mbR_mx {m : Mb} (k : Nat) (hk : k < 3) (h : (decide (4 ≤ m.mx k) || m.mx k == 2) = true) : mbR m = false := by
  unfold mbR
  rw [Bool.and_eq_false_iff]
  left
  exact List.all_eq_false.2 ⟨k, List.mem_range.2 hk, by unfold badS; simp at h ⊢; omega⟩
theorem mbR_ok {m : Mb} (h1 : ∀ k, k < 6 → ¬ 4 ≤ m.bk k) (h2 : ∀ k, k < 3 → (decide (4 ≤ m.mx k) || m.mx k == 2) = false) : mbR m = true := by
  unfold mbR
  rw [Bool.and_eq_true]
  refine ⟨List.all_eq_true.2 fun k hk => ?_, List.all_eq_true.2 fun k hk => ?_⟩
  · have := h2 k (List.mem_range.1 hk)
    unfold badS
    simp at this ⊢
    exact this
  · have := h1 k (List.mem_range.1 hk)
    unfold badS
    simp
    omega
set_option maxRecDepth 100000 in
set_option maxHeartbeats 2000000 in
theorem rmbright_any (m : Mb) (w : World) : Calls Tryz.prog 19 #[.agg (mbv m)] w fun e w' => e = .returned (.bool (mbR m)) ∧ Ext w w' := by
  go_enter Tryz.func19, Tryz.ntmps19
  go_wp2
  go_loop [3] (fun a => ∃ k : Nat, k ≤ 6 ∧ a = .int .i64 k ∧ (∀ j, j < k → ¬ 4 ≤ m.bk j)) (fun a => 6 - (intOf a).toNat)
  case atStart => exact ⟨0, Nat.zero_le _, rfl, fun j hj => by omega⟩
  case round =>
    obtain ⟨k, hk, rfl, hA⟩ := hrel
    by_cases hlt : k < 6
    · have hlt' : (k : Int) < 6 := by omega
      by_cases h4 : 4 ≤ m.bk k
      · have HN := Lib.hid (mbR_bk k hlt h4)
        clear hA
        go_wp2
        go_ret
        exact ⟨ret_bool HN.out.symm, by (repeat (first | with_reducible exact Ext.rf _ | with_reducible assumption | with_reducible refine Ext.al ?_ _ | with_reducible refine Ext.dr ?_ | with_reducible refine Ext.dn ?_ _ | ((with_reducible refine Ext.st _ ?_ ?_); focus (first | omega | (simp; omega) | simp)) | with_reducible refine Ext.tr ?_ (by assumption) | with_reducible refine Ext.tr ?_ (up_ext (by assumption)) | with_reducible refine Ext.of (by assumption) ?_))⟩
      · have HA := Lib.hid hA
        clear hA
        go_wp2
        go_round
        case rel => exact ⟨k + 1, by omega, by go_num, fun j hj => by rcases Nat.lt_or_ge j k with h | h; exact HA.out j h; (obtain rfl : j = k := by omega); exact h4⟩
        case measure => simp [intOf]; omega
    · obtain rfl : k = 6 := by omega
      have HA := Lib.hid hA
      clear hA
      rw [show ((6 : Nat) : Int) = 6 from rfl]
      go_wp2
      go_loop [4] (fun a => ∃ k : Nat, k ≤ 3 ∧ a = .int .i64 k ∧ (∀ j, j < k → (decide (4 ≤ m.mx j) || m.mx j == 2) = false)) (fun a => 3 - (intOf a).toNat)
      case atStart => exact ⟨0, Nat.zero_le _, rfl, fun j hj => by omega⟩
      case round =>
        obtain ⟨k, hk, rfl, hB⟩ := hrel
        by_cases hlt : k < 3
        · have hlt' : (k : Int) < 3 := by omega
          have HB := Lib.hid hB
          clear hB
          cases h4 : decide (4 ≤ m.mx k)
          · have h4' := of_decide_eq_false h4
            cases h2 : (m.mx k == 2)
            · have HG := Lib.hid (show (decide (4 ≤ m.mx k) || m.mx k == 2) = false by rw [h4, h2]; rfl)
              go_wp2
              refine ⟨⟨k + 1, by omega, by go_num, fun j hj => by rcases Nat.lt_or_ge j k with h | h; exact HB.out j h; (obtain rfl : j = k := by omega); exact HG.out⟩, by simp [intOf]; omega⟩
            · have HN := Lib.hid (mbR_mx k hlt (by rw [h2]; simp))
              go_wp2
              go_ret
              exact ⟨ret_bool HN.out.symm, by (repeat (first | with_reducible exact Ext.rf _ | with_reducible assumption | with_reducible refine Ext.al ?_ _ | with_reducible refine Ext.dr ?_ | with_reducible refine Ext.dn ?_ _ | ((with_reducible refine Ext.st _ ?_ ?_); focus (first | omega | (simp; omega) | simp)) | with_reducible refine Ext.tr ?_ (by assumption) | with_reducible refine Ext.tr ?_ (up_ext (by assumption)) | with_reducible refine Ext.of (by assumption) ?_))⟩
          · have h4' := of_decide_eq_true h4
            have HN := Lib.hid (mbR_mx k hlt (by rw [h4]; rfl))
            go_wp2
            go_ret
            exact ⟨ret_bool HN.out.symm, by (repeat (first | with_reducible exact Ext.rf _ | with_reducible assumption | with_reducible refine Ext.al ?_ _ | with_reducible refine Ext.dr ?_ | with_reducible refine Ext.dn ?_ _ | ((with_reducible refine Ext.st _ ?_ ?_); focus (first | omega | (simp; omega) | simp)) | with_reducible refine Ext.tr ?_ (by assumption) | with_reducible refine Ext.tr ?_ (up_ext (by assumption)) | with_reducible refine Ext.of (by assumption) ?_))⟩
        · obtain rfl : k = 3 := by omega
          have HN := Lib.hid (mbR_ok (fun k hk => by have := HA.out k hk; omega) hB)
          clear hB
          go_wp2
          go_ret
          exact ⟨ret_bool HN.out.symm, by (repeat (first | with_reducible exact Ext.rf _ | with_reducible assumption | with_reducible refine Ext.al ?_ _ | with_reducible refine Ext.dr ?_ | with_reducible refine Ext.dn ?_ _ | ((with_reducible refine Ext.st _ ?_ ?_); focus (first | omega | (simp; omega) | simp)) | with_reducible refine Ext.tr ?_ (by assumption) | with_reducible refine Ext.tr ?_ (up_ext (by assumption)) | with_reducible refine Ext.of (by assumption) ?_))⟩
set_option maxHeartbeats 400000 in
theorem rback09_any (n : Int) (w : World) :
    Calls Tryz.prog 69 #[.int .i64 n] w fun e w' => e = .returned (.bool (nodeB n)) ∧ w = w' := by
  go_enter Tryz.func69, Tryz.ntmps69
  go_wp2
  all_goals (go_ret; exact ⟨ret_bool (by simp_all [nodeB] <;> omega), rfl⟩)
set_option maxRecDepth 20000 in
set_option maxHeartbeats 2000000 in
theorem reright_any (x : En) (w : World) :
    Calls Tryz.prog 46 #[.agg (env x)] w fun e w' => e = .returned (.bool (enR x)) ∧ Ext w w' := by
  rw [env_lit]
  obtain ⟨a, b, c, d⟩ := x
  go_enter Tryz.func46, Tryz.ntmps46
  go_wp2_with ((go_at_call 69; (with_reducible refine (rback09_any _ _).mono ?_); rintro e w' ⟨rfl, rfl⟩))
  all_goals (try go_ret)
  all_goals refine ⟨ret_bool ?_, ?_⟩
  all_goals first | (guard_target =~ Below _ _ _; (repeat (first | with_reducible exact Ext.rf _ | with_reducible assumption | with_reducible refine Ext.al ?_ _ | with_reducible refine Ext.dr ?_ | with_reducible refine Ext.dn ?_ _ | ((with_reducible refine Ext.st _ ?_ ?_); focus (first | omega | (simp; omega) | simp)) | with_reducible refine Ext.tr ?_ (by assumption) | with_reducible refine Ext.tr ?_ (up_ext (by assumption)) | with_reducible refine Ext.of (by assumption) ?_)); done) | (simp_all [enR, nodeB]; done) | grind [enR, nodeB]

end Go.Proofs.YtedamnocolfmlaaGreat
