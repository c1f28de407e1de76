/- RuleWords returns true: for any mode, SYN or not, any kind. -/
import Derived.Test.YtnceijlphinnhaaR15
set_option linter.unusedSimpArgs false
set_option linter.unusedVariables false
namespace Go.Proofs.Ytnceijlphinnhaa
open Go.ChangeShapes Go.WideShapes Go.ChangeAt Go.RowKit

theorem words_cases (m : Md) (h0 : 0 ≤ m.k) :
    (toOf m false 2 = -1 ∧ toOf m true 3 = -1 ∧ toOf m true 5 = -1 ∧ ∀ s, ∃ d x, ruleA m 1 0 0 s false true = ⟨d, x, 0, 0, 0⟩ ∧ (d = 0 ∨ d = 2)) ∨
    (∃ p g, 0 ≤ p ∧ toOf m false 2 = p ∧ toOf m true 3 = p ∧ toOf m true 5 = -1 ∧ ∀ s, ∃ kk, ruleA m 1 0 0 s false true = ⟨3, 0, kk, p, g⟩) ∨
    (∃ p g, 0 ≤ p ∧ toOf m false 2 = p ∧ toOf m true 3 = -1 ∧ toOf m true 5 = p ∧ ∀ s, ∃ kk, ruleA m 1 0 0 s false true = ⟨3, 0, kk, p, g⟩) := by
  have hk := known_k m h0
  have hp : (knownM m).k = 2 ∨ (knownM m).k = 3 → 0 ≤ (knownM m).p := by
    unfold knownM
    split
    · rename_i h
      unfold Md.right rightB at h
      grind
    · simp
  unfold toOf ruleA ruleT acceptA acceptC acceptW dropA
  generalize knownM m = M at *
  rcases hk with hk | hk | hk | hk
  · exact .inl ⟨by simp [hk], by simp [hk], by simp [hk], fun s => by cases s <;> simp [hk]⟩
  · exact .inl ⟨by simp [hk], by simp [hk], by simp [hk], fun s => by cases s <;> simp [hk]⟩
  · exact .inr (.inl ⟨M.p, M.g, hp (.inl hk), by simp [hk], by simp [hk], by simp [hk], fun s => by cases s <;> simp [hk]⟩)
  · exact .inr (.inr ⟨M.p, M.g, hp (.inr hk), by simp [hk], by simp [hk], by simp [hk], fun s => by cases s <;> simp [hk]⟩)
theorem known_deliver (m : Md) (s r : Bool) : ruleA m 1 0 0 s true r = ⟨1, 0, 0, 0, 0⟩ := by unfold ruleA; simp
theorem none_dropped (m : Md) (k : Int) (s n r : Bool) (h : k = 0 ∨ 6 ≤ k) : ruleA m k 0 0 s n r = ⟨0, 13, 0, 0, 0⟩ := by unfold ruleA dropA; rw [if_pos h]
theorem none_dropped0 (m : Md) (s n r : Bool) : ruleA m 0 0 0 s n r = ⟨0, 13, 0, 0, 0⟩ := none_dropped m 0 s n r (.inl rfl)

set_option maxRecDepth 100000 in
set_option maxHeartbeats 4000000 in
theorem words_a_in_false (m : Md) (h_m : 0 ≤ m.k) (k : Int) (k1 : 1 ≤ k) (k6 : k < 6) (d x : Int) (d3 : (d == 3) = false) (H1 : Hid (toOf m false 2 = -1)) (H2 : Hid (toOf m true 3 = -1)) (H3 : Hid (toOf m true 5 = -1)) (HR : Hid (ruleA m 1 0 0 false false true = ⟨d, x, 0, 0, 0⟩)) (w : World) :
    Calls Try.prog 11 #[m.v, .bool false, .int .u8 k] w fun e w' => e = .returned (.bool true) ∧ Ext w w' := by
  go_enter Try.func11, Try.ntmps11
  go_wp2_with (first | (go_at_call 30; (with_reducible refine (words_any m _ h_m).mono ?_); rw [H1.out, H2.out, H3.out]; rintro e w' ⟨rfl, hb⟩; obtain ⟨hc, hf, hl, hz, -⟩ := kept hb; try simp at hz) | (go_at_call 36; (with_reducible refine (ruleSends_any ⟨_, _, _, _, _⟩ _).mono ?_); rintro e w' ⟨rfl, hb⟩; obtain ⟨hc, hf, hl, hz, -⟩ := kept hb; try simp at hz) | (go_at_call 38; (with_reducible refine (rwakes_any _).mono ?_); rintro e w' ⟨rfl, hb⟩; obtain ⟨hc, hf, hl, hz, -⟩ := kept hb; try simp at hz) | (go_at_call 32; (with_reducible refine (rule_any m _ _ _ _ _ _ _ h_m (by omega)).mono ?_); (first | rw [HR.out] | rw [known_deliver] | rw [none_dropped0] | rw [none_dropped _ _ _ _ _ (.inr k6)]); rintro e w' ⟨rfl, hb⟩; obtain ⟨hc, hf, hl, hz, -⟩ := kept hb; try simp at hz))
  all_goals go_ret
  all_goals refine ⟨ret_bool ?_, ?_⟩
  all_goals first | (guard_target =~ Below _ _ _; (repeat (first | with_reducible exact Ext.rf _ | with_reducible assumption | with_reducible refine Ext.al ?_ _ | with_reducible refine Ext.dr ?_ | with_reducible refine Ext.dn ?_ _ | ((with_reducible refine Ext.st _ ?_ ?_); focus (first | omega | (simp; omega) | simp)) | with_reducible refine Ext.tr ?_ (by assumption) | with_reducible refine Ext.tr ?_ (up_ext (by assumption)) | with_reducible refine Ext.of (by assumption) ?_))) | rfl | grind

set_option maxRecDepth 100000 in
set_option maxHeartbeats 4000000 in
theorem words_b_in_false (m : Md) (h_m : 0 ≤ m.k) (k : Int) (k1 : 1 ≤ k) (k6 : k < 6) (p g : Int) (p0 : 0 ≤ p) (kk : Int) (H1 : Hid (toOf m false 2 = p)) (H2 : Hid (toOf m true 3 = p)) (H3 : Hid (toOf m true 5 = -1)) (HR : Hid (ruleA m 1 0 0 false false true = ⟨3, 0, kk, p, g⟩)) (w : World) :
    Calls Try.prog 11 #[m.v, .bool false, .int .u8 k] w fun e w' => e = .returned (.bool true) ∧ Ext w w' := by
  have e1 : (p != -1) = true := by rw [bne_iff_ne]; omega
  have e2 : (p == -1) = false := by rw [beq_eq_false_iff_ne]; omega
  have e3 : (-1 != p) = true := by rw [bne_iff_ne]; omega
  go_enter Try.func11, Try.ntmps11
  go_wp2_with (first | (go_at_call 30; (with_reducible refine (words_any m _ h_m).mono ?_); rw [H1.out, H2.out, H3.out]; rintro e w' ⟨rfl, hb⟩; obtain ⟨hc, hf, hl, hz, -⟩ := kept hb; try simp at hz) | (go_at_call 36; (with_reducible refine (ruleSends_any ⟨_, _, _, _, _⟩ _).mono ?_); rintro e w' ⟨rfl, hb⟩; obtain ⟨hc, hf, hl, hz, -⟩ := kept hb; try simp at hz) | (go_at_call 38; (with_reducible refine (rwakes_any _).mono ?_); rintro e w' ⟨rfl, hb⟩; obtain ⟨hc, hf, hl, hz, -⟩ := kept hb; try simp at hz) | (go_at_call 32; (with_reducible refine (rule_any m _ _ _ _ _ _ _ h_m (by omega)).mono ?_); (first | rw [HR.out] | rw [known_deliver] | rw [none_dropped0] | rw [none_dropped _ _ _ _ _ (.inr k6)]); rintro e w' ⟨rfl, hb⟩; obtain ⟨hc, hf, hl, hz, -⟩ := kept hb; try simp at hz))
  all_goals go_ret
  all_goals refine ⟨ret_bool ?_, ?_⟩
  all_goals first | (guard_target =~ Below _ _ _; (repeat (first | with_reducible exact Ext.rf _ | with_reducible assumption | with_reducible refine Ext.al ?_ _ | with_reducible refine Ext.dr ?_ | with_reducible refine Ext.dn ?_ _ | ((with_reducible refine Ext.st _ ?_ ?_); focus (first | omega | (simp; omega) | simp)) | with_reducible refine Ext.tr ?_ (by assumption) | with_reducible refine Ext.tr ?_ (up_ext (by assumption)) | with_reducible refine Ext.of (by assumption) ?_))) | rfl | grind

set_option maxRecDepth 100000 in
set_option maxHeartbeats 4000000 in
theorem words_c_in_false (m : Md) (h_m : 0 ≤ m.k) (k : Int) (k1 : 1 ≤ k) (k6 : k < 6) (p g : Int) (p0 : 0 ≤ p) (kk : Int) (H1 : Hid (toOf m false 2 = p)) (H2 : Hid (toOf m true 3 = -1)) (H3 : Hid (toOf m true 5 = p)) (HR : Hid (ruleA m 1 0 0 false false true = ⟨3, 0, kk, p, g⟩)) (w : World) :
    Calls Try.prog 11 #[m.v, .bool false, .int .u8 k] w fun e w' => e = .returned (.bool true) ∧ Ext w w' := by
  have e1 : (p != -1) = true := by rw [bne_iff_ne]; omega
  have e2 : (p == -1) = false := by rw [beq_eq_false_iff_ne]; omega
  have e3 : (-1 != p) = true := by rw [bne_iff_ne]; omega
  go_enter Try.func11, Try.ntmps11
  go_wp2_with (first | (go_at_call 30; (with_reducible refine (words_any m _ h_m).mono ?_); rw [H1.out, H2.out, H3.out]; rintro e w' ⟨rfl, hb⟩; obtain ⟨hc, hf, hl, hz, -⟩ := kept hb; try simp at hz) | (go_at_call 36; (with_reducible refine (ruleSends_any ⟨_, _, _, _, _⟩ _).mono ?_); rintro e w' ⟨rfl, hb⟩; obtain ⟨hc, hf, hl, hz, -⟩ := kept hb; try simp at hz) | (go_at_call 38; (with_reducible refine (rwakes_any _).mono ?_); rintro e w' ⟨rfl, hb⟩; obtain ⟨hc, hf, hl, hz, -⟩ := kept hb; try simp at hz) | (go_at_call 32; (with_reducible refine (rule_any m _ _ _ _ _ _ _ h_m (by omega)).mono ?_); (first | rw [HR.out] | rw [known_deliver] | rw [none_dropped0] | rw [none_dropped _ _ _ _ _ (.inr k6)]); rintro e w' ⟨rfl, hb⟩; obtain ⟨hc, hf, hl, hz, -⟩ := kept hb; try simp at hz))
  all_goals go_ret
  all_goals refine ⟨ret_bool ?_, ?_⟩
  all_goals first | (guard_target =~ Below _ _ _; (repeat (first | with_reducible exact Ext.rf _ | with_reducible assumption | with_reducible refine Ext.al ?_ _ | with_reducible refine Ext.dr ?_ | with_reducible refine Ext.dn ?_ _ | ((with_reducible refine Ext.st _ ?_ ?_); focus (first | omega | (simp; omega) | simp)) | with_reducible refine Ext.tr ?_ (by assumption) | with_reducible refine Ext.tr ?_ (up_ext (by assumption)) | with_reducible refine Ext.of (by assumption) ?_))) | rfl | grind

set_option maxRecDepth 100000 in
set_option maxHeartbeats 4000000 in
theorem words_a_in_true (m : Md) (h_m : 0 ≤ m.k) (k : Int) (k1 : 1 ≤ k) (k6 : k < 6) (d x : Int) (d3 : (d == 3) = false) (H1 : Hid (toOf m false 2 = -1)) (H2 : Hid (toOf m true 3 = -1)) (H3 : Hid (toOf m true 5 = -1)) (HR : Hid (ruleA m 1 0 0 true false true = ⟨d, x, 0, 0, 0⟩)) (w : World) :
    Calls Try.prog 11 #[m.v, .bool true, .int .u8 k] w fun e w' => e = .returned (.bool true) ∧ Ext w w' := by
  go_enter Try.func11, Try.ntmps11
  go_wp2_with (first | (go_at_call 30; (with_reducible refine (words_any m _ h_m).mono ?_); rw [H1.out, H2.out, H3.out]; rintro e w' ⟨rfl, hb⟩; obtain ⟨hc, hf, hl, hz, -⟩ := kept hb; try simp at hz) | (go_at_call 36; (with_reducible refine (ruleSends_any ⟨_, _, _, _, _⟩ _).mono ?_); rintro e w' ⟨rfl, hb⟩; obtain ⟨hc, hf, hl, hz, -⟩ := kept hb; try simp at hz) | (go_at_call 38; (with_reducible refine (rwakes_any _).mono ?_); rintro e w' ⟨rfl, hb⟩; obtain ⟨hc, hf, hl, hz, -⟩ := kept hb; try simp at hz) | (go_at_call 32; (with_reducible refine (rule_any m _ _ _ _ _ _ _ h_m (by omega)).mono ?_); (first | rw [HR.out] | rw [known_deliver] | rw [none_dropped0] | rw [none_dropped _ _ _ _ _ (.inr k6)]); rintro e w' ⟨rfl, hb⟩; obtain ⟨hc, hf, hl, hz, -⟩ := kept hb; try simp at hz))
  all_goals go_ret
  all_goals refine ⟨ret_bool ?_, ?_⟩
  all_goals first | (guard_target =~ Below _ _ _; (repeat (first | with_reducible exact Ext.rf _ | with_reducible assumption | with_reducible refine Ext.al ?_ _ | with_reducible refine Ext.dr ?_ | with_reducible refine Ext.dn ?_ _ | ((with_reducible refine Ext.st _ ?_ ?_); focus (first | omega | (simp; omega) | simp)) | with_reducible refine Ext.tr ?_ (by assumption) | with_reducible refine Ext.tr ?_ (up_ext (by assumption)) | with_reducible refine Ext.of (by assumption) ?_))) | rfl | grind

set_option maxRecDepth 100000 in
set_option maxHeartbeats 4000000 in
theorem words_b_in_true (m : Md) (h_m : 0 ≤ m.k) (k : Int) (k1 : 1 ≤ k) (k6 : k < 6) (p g : Int) (p0 : 0 ≤ p) (kk : Int) (H1 : Hid (toOf m false 2 = p)) (H2 : Hid (toOf m true 3 = p)) (H3 : Hid (toOf m true 5 = -1)) (HR : Hid (ruleA m 1 0 0 true false true = ⟨3, 0, kk, p, g⟩)) (w : World) :
    Calls Try.prog 11 #[m.v, .bool true, .int .u8 k] w fun e w' => e = .returned (.bool true) ∧ Ext w w' := by
  have e1 : (p != -1) = true := by rw [bne_iff_ne]; omega
  have e2 : (p == -1) = false := by rw [beq_eq_false_iff_ne]; omega
  have e3 : (-1 != p) = true := by rw [bne_iff_ne]; omega
  go_enter Try.func11, Try.ntmps11
  go_wp2_with (first | (go_at_call 30; (with_reducible refine (words_any m _ h_m).mono ?_); rw [H1.out, H2.out, H3.out]; rintro e w' ⟨rfl, hb⟩; obtain ⟨hc, hf, hl, hz, -⟩ := kept hb; try simp at hz) | (go_at_call 36; (with_reducible refine (ruleSends_any ⟨_, _, _, _, _⟩ _).mono ?_); rintro e w' ⟨rfl, hb⟩; obtain ⟨hc, hf, hl, hz, -⟩ := kept hb; try simp at hz) | (go_at_call 38; (with_reducible refine (rwakes_any _).mono ?_); rintro e w' ⟨rfl, hb⟩; obtain ⟨hc, hf, hl, hz, -⟩ := kept hb; try simp at hz) | (go_at_call 32; (with_reducible refine (rule_any m _ _ _ _ _ _ _ h_m (by omega)).mono ?_); (first | rw [HR.out] | rw [known_deliver] | rw [none_dropped0] | rw [none_dropped _ _ _ _ _ (.inr k6)]); rintro e w' ⟨rfl, hb⟩; obtain ⟨hc, hf, hl, hz, -⟩ := kept hb; try simp at hz))
  all_goals go_ret
  all_goals refine ⟨ret_bool ?_, ?_⟩
  all_goals first | (guard_target =~ Below _ _ _; (repeat (first | with_reducible exact Ext.rf _ | with_reducible assumption | with_reducible refine Ext.al ?_ _ | with_reducible refine Ext.dr ?_ | with_reducible refine Ext.dn ?_ _ | ((with_reducible refine Ext.st _ ?_ ?_); focus (first | omega | (simp; omega) | simp)) | with_reducible refine Ext.tr ?_ (by assumption) | with_reducible refine Ext.tr ?_ (up_ext (by assumption)) | with_reducible refine Ext.of (by assumption) ?_))) | rfl | grind

set_option maxRecDepth 100000 in
set_option maxHeartbeats 4000000 in
theorem words_c_in_true (m : Md) (h_m : 0 ≤ m.k) (k : Int) (k1 : 1 ≤ k) (k6 : k < 6) (p g : Int) (p0 : 0 ≤ p) (kk : Int) (H1 : Hid (toOf m false 2 = p)) (H2 : Hid (toOf m true 3 = -1)) (H3 : Hid (toOf m true 5 = p)) (HR : Hid (ruleA m 1 0 0 true false true = ⟨3, 0, kk, p, g⟩)) (w : World) :
    Calls Try.prog 11 #[m.v, .bool true, .int .u8 k] w fun e w' => e = .returned (.bool true) ∧ Ext w w' := by
  have e1 : (p != -1) = true := by rw [bne_iff_ne]; omega
  have e2 : (p == -1) = false := by rw [beq_eq_false_iff_ne]; omega
  have e3 : (-1 != p) = true := by rw [bne_iff_ne]; omega
  go_enter Try.func11, Try.ntmps11
  go_wp2_with (first | (go_at_call 30; (with_reducible refine (words_any m _ h_m).mono ?_); rw [H1.out, H2.out, H3.out]; rintro e w' ⟨rfl, hb⟩; obtain ⟨hc, hf, hl, hz, -⟩ := kept hb; try simp at hz) | (go_at_call 36; (with_reducible refine (ruleSends_any ⟨_, _, _, _, _⟩ _).mono ?_); rintro e w' ⟨rfl, hb⟩; obtain ⟨hc, hf, hl, hz, -⟩ := kept hb; try simp at hz) | (go_at_call 38; (with_reducible refine (rwakes_any _).mono ?_); rintro e w' ⟨rfl, hb⟩; obtain ⟨hc, hf, hl, hz, -⟩ := kept hb; try simp at hz) | (go_at_call 32; (with_reducible refine (rule_any m _ _ _ _ _ _ _ h_m (by omega)).mono ?_); (first | rw [HR.out] | rw [known_deliver] | rw [none_dropped0] | rw [none_dropped _ _ _ _ _ (.inr k6)]); rintro e w' ⟨rfl, hb⟩; obtain ⟨hc, hf, hl, hz, -⟩ := kept hb; try simp at hz))
  all_goals go_ret
  all_goals refine ⟨ret_bool ?_, ?_⟩
  all_goals first | (guard_target =~ Below _ _ _; (repeat (first | with_reducible exact Ext.rf _ | with_reducible assumption | with_reducible refine Ext.al ?_ _ | with_reducible refine Ext.dr ?_ | with_reducible refine Ext.dn ?_ _ | ((with_reducible refine Ext.st _ ?_ ?_); focus (first | omega | (simp; omega) | simp)) | with_reducible refine Ext.tr ?_ (by assumption) | with_reducible refine Ext.tr ?_ (up_ext (by assumption)) | with_reducible refine Ext.of (by assumption) ?_))) | rfl | grind

set_option maxRecDepth 100000 in
set_option maxHeartbeats 4000000 in
theorem words_a_no0_false (m : Md) (h_m : 0 ≤ m.k)  (d x : Int) (d3 : (d == 3) = false) (H1 : Hid (toOf m false 2 = -1)) (H2 : Hid (toOf m true 3 = -1)) (H3 : Hid (toOf m true 5 = -1)) (HR : Hid (ruleA m 1 0 0 false false true = ⟨d, x, 0, 0, 0⟩)) (w : World) :
    Calls Try.prog 11 #[m.v, .bool false, .int .u8 0] w fun e w' => e = .returned (.bool true) ∧ Ext w w' := by
  go_enter Try.func11, Try.ntmps11
  go_wp2_with (first | (go_at_call 30; (with_reducible refine (words_any m _ h_m).mono ?_); rw [H1.out, H2.out, H3.out]; rintro e w' ⟨rfl, hb⟩; obtain ⟨hc, hf, hl, hz, -⟩ := kept hb; try simp at hz) | (go_at_call 36; (with_reducible refine (ruleSends_any ⟨_, _, _, _, _⟩ _).mono ?_); rintro e w' ⟨rfl, hb⟩; obtain ⟨hc, hf, hl, hz, -⟩ := kept hb; try simp at hz) | (go_at_call 38; (with_reducible refine (rwakes_any _).mono ?_); rintro e w' ⟨rfl, hb⟩; obtain ⟨hc, hf, hl, hz, -⟩ := kept hb; try simp at hz) | (go_at_call 32; (with_reducible refine (rule_any m _ _ _ _ _ _ _ h_m (by omega)).mono ?_); (first | rw [HR.out] | rw [known_deliver] | rw [none_dropped0] | rw [none_dropped _ _ _ _ _ (.inr k6)]); rintro e w' ⟨rfl, hb⟩; obtain ⟨hc, hf, hl, hz, -⟩ := kept hb; try simp at hz))
  all_goals go_ret
  all_goals refine ⟨ret_bool ?_, ?_⟩
  all_goals first | (guard_target =~ Below _ _ _; (repeat (first | with_reducible exact Ext.rf _ | with_reducible assumption | with_reducible refine Ext.al ?_ _ | with_reducible refine Ext.dr ?_ | with_reducible refine Ext.dn ?_ _ | ((with_reducible refine Ext.st _ ?_ ?_); focus (first | omega | (simp; omega) | simp)) | with_reducible refine Ext.tr ?_ (by assumption) | with_reducible refine Ext.tr ?_ (up_ext (by assumption)) | with_reducible refine Ext.of (by assumption) ?_))) | rfl | grind

set_option maxRecDepth 100000 in
set_option maxHeartbeats 4000000 in
theorem words_b_no0_false (m : Md) (h_m : 0 ≤ m.k)  (p g : Int) (p0 : 0 ≤ p) (kk : Int) (H1 : Hid (toOf m false 2 = p)) (H2 : Hid (toOf m true 3 = p)) (H3 : Hid (toOf m true 5 = -1)) (HR : Hid (ruleA m 1 0 0 false false true = ⟨3, 0, kk, p, g⟩)) (w : World) :
    Calls Try.prog 11 #[m.v, .bool false, .int .u8 0] w fun e w' => e = .returned (.bool true) ∧ Ext w w' := by
  have e1 : (p != -1) = true := by rw [bne_iff_ne]; omega
  have e2 : (p == -1) = false := by rw [beq_eq_false_iff_ne]; omega
  have e3 : (-1 != p) = true := by rw [bne_iff_ne]; omega
  go_enter Try.func11, Try.ntmps11
  go_wp2_with (first | (go_at_call 30; (with_reducible refine (words_any m _ h_m).mono ?_); rw [H1.out, H2.out, H3.out]; rintro e w' ⟨rfl, hb⟩; obtain ⟨hc, hf, hl, hz, -⟩ := kept hb; try simp at hz) | (go_at_call 36; (with_reducible refine (ruleSends_any ⟨_, _, _, _, _⟩ _).mono ?_); rintro e w' ⟨rfl, hb⟩; obtain ⟨hc, hf, hl, hz, -⟩ := kept hb; try simp at hz) | (go_at_call 38; (with_reducible refine (rwakes_any _).mono ?_); rintro e w' ⟨rfl, hb⟩; obtain ⟨hc, hf, hl, hz, -⟩ := kept hb; try simp at hz) | (go_at_call 32; (with_reducible refine (rule_any m _ _ _ _ _ _ _ h_m (by omega)).mono ?_); (first | rw [HR.out] | rw [known_deliver] | rw [none_dropped0] | rw [none_dropped _ _ _ _ _ (.inr k6)]); rintro e w' ⟨rfl, hb⟩; obtain ⟨hc, hf, hl, hz, -⟩ := kept hb; try simp at hz))
  all_goals go_ret
  all_goals refine ⟨ret_bool ?_, ?_⟩
  all_goals first | (guard_target =~ Below _ _ _; (repeat (first | with_reducible exact Ext.rf _ | with_reducible assumption | with_reducible refine Ext.al ?_ _ | with_reducible refine Ext.dr ?_ | with_reducible refine Ext.dn ?_ _ | ((with_reducible refine Ext.st _ ?_ ?_); focus (first | omega | (simp; omega) | simp)) | with_reducible refine Ext.tr ?_ (by assumption) | with_reducible refine Ext.tr ?_ (up_ext (by assumption)) | with_reducible refine Ext.of (by assumption) ?_))) | rfl | grind

set_option maxRecDepth 100000 in
set_option maxHeartbeats 4000000 in
theorem words_c_no0_false (m : Md) (h_m : 0 ≤ m.k)  (p g : Int) (p0 : 0 ≤ p) (kk : Int) (H1 : Hid (toOf m false 2 = p)) (H2 : Hid (toOf m true 3 = -1)) (H3 : Hid (toOf m true 5 = p)) (HR : Hid (ruleA m 1 0 0 false false true = ⟨3, 0, kk, p, g⟩)) (w : World) :
    Calls Try.prog 11 #[m.v, .bool false, .int .u8 0] w fun e w' => e = .returned (.bool true) ∧ Ext w w' := by
  have e1 : (p != -1) = true := by rw [bne_iff_ne]; omega
  have e2 : (p == -1) = false := by rw [beq_eq_false_iff_ne]; omega
  have e3 : (-1 != p) = true := by rw [bne_iff_ne]; omega
  go_enter Try.func11, Try.ntmps11
  go_wp2_with (first | (go_at_call 30; (with_reducible refine (words_any m _ h_m).mono ?_); rw [H1.out, H2.out, H3.out]; rintro e w' ⟨rfl, hb⟩; obtain ⟨hc, hf, hl, hz, -⟩ := kept hb; try simp at hz) | (go_at_call 36; (with_reducible refine (ruleSends_any ⟨_, _, _, _, _⟩ _).mono ?_); rintro e w' ⟨rfl, hb⟩; obtain ⟨hc, hf, hl, hz, -⟩ := kept hb; try simp at hz) | (go_at_call 38; (with_reducible refine (rwakes_any _).mono ?_); rintro e w' ⟨rfl, hb⟩; obtain ⟨hc, hf, hl, hz, -⟩ := kept hb; try simp at hz) | (go_at_call 32; (with_reducible refine (rule_any m _ _ _ _ _ _ _ h_m (by omega)).mono ?_); (first | rw [HR.out] | rw [known_deliver] | rw [none_dropped0] | rw [none_dropped _ _ _ _ _ (.inr k6)]); rintro e w' ⟨rfl, hb⟩; obtain ⟨hc, hf, hl, hz, -⟩ := kept hb; try simp at hz))
  all_goals go_ret
  all_goals refine ⟨ret_bool ?_, ?_⟩
  all_goals first | (guard_target =~ Below _ _ _; (repeat (first | with_reducible exact Ext.rf _ | with_reducible assumption | with_reducible refine Ext.al ?_ _ | with_reducible refine Ext.dr ?_ | with_reducible refine Ext.dn ?_ _ | ((with_reducible refine Ext.st _ ?_ ?_); focus (first | omega | (simp; omega) | simp)) | with_reducible refine Ext.tr ?_ (by assumption) | with_reducible refine Ext.tr ?_ (up_ext (by assumption)) | with_reducible refine Ext.of (by assumption) ?_))) | rfl | grind

set_option maxRecDepth 100000 in
set_option maxHeartbeats 4000000 in
theorem words_a_no0_true (m : Md) (h_m : 0 ≤ m.k)  (d x : Int) (d3 : (d == 3) = false) (H1 : Hid (toOf m false 2 = -1)) (H2 : Hid (toOf m true 3 = -1)) (H3 : Hid (toOf m true 5 = -1)) (HR : Hid (ruleA m 1 0 0 true false true = ⟨d, x, 0, 0, 0⟩)) (w : World) :
    Calls Try.prog 11 #[m.v, .bool true, .int .u8 0] w fun e w' => e = .returned (.bool true) ∧ Ext w w' := by
  go_enter Try.func11, Try.ntmps11
  go_wp2_with (first | (go_at_call 30; (with_reducible refine (words_any m _ h_m).mono ?_); rw [H1.out, H2.out, H3.out]; rintro e w' ⟨rfl, hb⟩; obtain ⟨hc, hf, hl, hz, -⟩ := kept hb; try simp at hz) | (go_at_call 36; (with_reducible refine (ruleSends_any ⟨_, _, _, _, _⟩ _).mono ?_); rintro e w' ⟨rfl, hb⟩; obtain ⟨hc, hf, hl, hz, -⟩ := kept hb; try simp at hz) | (go_at_call 38; (with_reducible refine (rwakes_any _).mono ?_); rintro e w' ⟨rfl, hb⟩; obtain ⟨hc, hf, hl, hz, -⟩ := kept hb; try simp at hz) | (go_at_call 32; (with_reducible refine (rule_any m _ _ _ _ _ _ _ h_m (by omega)).mono ?_); (first | rw [HR.out] | rw [known_deliver] | rw [none_dropped0] | rw [none_dropped _ _ _ _ _ (.inr k6)]); rintro e w' ⟨rfl, hb⟩; obtain ⟨hc, hf, hl, hz, -⟩ := kept hb; try simp at hz))
  all_goals go_ret
  all_goals refine ⟨ret_bool ?_, ?_⟩
  all_goals first | (guard_target =~ Below _ _ _; (repeat (first | with_reducible exact Ext.rf _ | with_reducible assumption | with_reducible refine Ext.al ?_ _ | with_reducible refine Ext.dr ?_ | with_reducible refine Ext.dn ?_ _ | ((with_reducible refine Ext.st _ ?_ ?_); focus (first | omega | (simp; omega) | simp)) | with_reducible refine Ext.tr ?_ (by assumption) | with_reducible refine Ext.tr ?_ (up_ext (by assumption)) | with_reducible refine Ext.of (by assumption) ?_))) | rfl | grind

set_option maxRecDepth 100000 in
set_option maxHeartbeats 4000000 in
theorem words_b_no0_true (m : Md) (h_m : 0 ≤ m.k)  (p g : Int) (p0 : 0 ≤ p) (kk : Int) (H1 : Hid (toOf m false 2 = p)) (H2 : Hid (toOf m true 3 = p)) (H3 : Hid (toOf m true 5 = -1)) (HR : Hid (ruleA m 1 0 0 true false true = ⟨3, 0, kk, p, g⟩)) (w : World) :
    Calls Try.prog 11 #[m.v, .bool true, .int .u8 0] w fun e w' => e = .returned (.bool true) ∧ Ext w w' := by
  have e1 : (p != -1) = true := by rw [bne_iff_ne]; omega
  have e2 : (p == -1) = false := by rw [beq_eq_false_iff_ne]; omega
  have e3 : (-1 != p) = true := by rw [bne_iff_ne]; omega
  go_enter Try.func11, Try.ntmps11
  go_wp2_with (first | (go_at_call 30; (with_reducible refine (words_any m _ h_m).mono ?_); rw [H1.out, H2.out, H3.out]; rintro e w' ⟨rfl, hb⟩; obtain ⟨hc, hf, hl, hz, -⟩ := kept hb; try simp at hz) | (go_at_call 36; (with_reducible refine (ruleSends_any ⟨_, _, _, _, _⟩ _).mono ?_); rintro e w' ⟨rfl, hb⟩; obtain ⟨hc, hf, hl, hz, -⟩ := kept hb; try simp at hz) | (go_at_call 38; (with_reducible refine (rwakes_any _).mono ?_); rintro e w' ⟨rfl, hb⟩; obtain ⟨hc, hf, hl, hz, -⟩ := kept hb; try simp at hz) | (go_at_call 32; (with_reducible refine (rule_any m _ _ _ _ _ _ _ h_m (by omega)).mono ?_); (first | rw [HR.out] | rw [known_deliver] | rw [none_dropped0] | rw [none_dropped _ _ _ _ _ (.inr k6)]); rintro e w' ⟨rfl, hb⟩; obtain ⟨hc, hf, hl, hz, -⟩ := kept hb; try simp at hz))
  all_goals go_ret
  all_goals refine ⟨ret_bool ?_, ?_⟩
  all_goals first | (guard_target =~ Below _ _ _; (repeat (first | with_reducible exact Ext.rf _ | with_reducible assumption | with_reducible refine Ext.al ?_ _ | with_reducible refine Ext.dr ?_ | with_reducible refine Ext.dn ?_ _ | ((with_reducible refine Ext.st _ ?_ ?_); focus (first | omega | (simp; omega) | simp)) | with_reducible refine Ext.tr ?_ (by assumption) | with_reducible refine Ext.tr ?_ (up_ext (by assumption)) | with_reducible refine Ext.of (by assumption) ?_))) | rfl | grind

set_option maxRecDepth 100000 in
set_option maxHeartbeats 4000000 in
theorem words_c_no0_true (m : Md) (h_m : 0 ≤ m.k)  (p g : Int) (p0 : 0 ≤ p) (kk : Int) (H1 : Hid (toOf m false 2 = p)) (H2 : Hid (toOf m true 3 = -1)) (H3 : Hid (toOf m true 5 = p)) (HR : Hid (ruleA m 1 0 0 true false true = ⟨3, 0, kk, p, g⟩)) (w : World) :
    Calls Try.prog 11 #[m.v, .bool true, .int .u8 0] w fun e w' => e = .returned (.bool true) ∧ Ext w w' := by
  have e1 : (p != -1) = true := by rw [bne_iff_ne]; omega
  have e2 : (p == -1) = false := by rw [beq_eq_false_iff_ne]; omega
  have e3 : (-1 != p) = true := by rw [bne_iff_ne]; omega
  go_enter Try.func11, Try.ntmps11
  go_wp2_with (first | (go_at_call 30; (with_reducible refine (words_any m _ h_m).mono ?_); rw [H1.out, H2.out, H3.out]; rintro e w' ⟨rfl, hb⟩; obtain ⟨hc, hf, hl, hz, -⟩ := kept hb; try simp at hz) | (go_at_call 36; (with_reducible refine (ruleSends_any ⟨_, _, _, _, _⟩ _).mono ?_); rintro e w' ⟨rfl, hb⟩; obtain ⟨hc, hf, hl, hz, -⟩ := kept hb; try simp at hz) | (go_at_call 38; (with_reducible refine (rwakes_any _).mono ?_); rintro e w' ⟨rfl, hb⟩; obtain ⟨hc, hf, hl, hz, -⟩ := kept hb; try simp at hz) | (go_at_call 32; (with_reducible refine (rule_any m _ _ _ _ _ _ _ h_m (by omega)).mono ?_); (first | rw [HR.out] | rw [known_deliver] | rw [none_dropped0] | rw [none_dropped _ _ _ _ _ (.inr k6)]); rintro e w' ⟨rfl, hb⟩; obtain ⟨hc, hf, hl, hz, -⟩ := kept hb; try simp at hz))
  all_goals go_ret
  all_goals refine ⟨ret_bool ?_, ?_⟩
  all_goals first | (guard_target =~ Below _ _ _; (repeat (first | with_reducible exact Ext.rf _ | with_reducible assumption | with_reducible refine Ext.al ?_ _ | with_reducible refine Ext.dr ?_ | with_reducible refine Ext.dn ?_ _ | ((with_reducible refine Ext.st _ ?_ ?_); focus (first | omega | (simp; omega) | simp)) | with_reducible refine Ext.tr ?_ (by assumption) | with_reducible refine Ext.tr ?_ (up_ext (by assumption)) | with_reducible refine Ext.of (by assumption) ?_))) | rfl | grind

set_option maxRecDepth 100000 in
set_option maxHeartbeats 4000000 in
theorem words_a_no6_false (m : Md) (h_m : 0 ≤ m.k) (k : Int) (k6 : 6 ≤ k) (d x : Int) (d3 : (d == 3) = false) (H1 : Hid (toOf m false 2 = -1)) (H2 : Hid (toOf m true 3 = -1)) (H3 : Hid (toOf m true 5 = -1)) (HR : Hid (ruleA m 1 0 0 false false true = ⟨d, x, 0, 0, 0⟩)) (w : World) :
    Calls Try.prog 11 #[m.v, .bool false, .int .u8 k] w fun e w' => e = .returned (.bool true) ∧ Ext w w' := by
  go_enter Try.func11, Try.ntmps11
  go_wp2_with (first | (go_at_call 30; (with_reducible refine (words_any m _ h_m).mono ?_); rw [H1.out, H2.out, H3.out]; rintro e w' ⟨rfl, hb⟩; obtain ⟨hc, hf, hl, hz, -⟩ := kept hb; try simp at hz) | (go_at_call 36; (with_reducible refine (ruleSends_any ⟨_, _, _, _, _⟩ _).mono ?_); rintro e w' ⟨rfl, hb⟩; obtain ⟨hc, hf, hl, hz, -⟩ := kept hb; try simp at hz) | (go_at_call 38; (with_reducible refine (rwakes_any _).mono ?_); rintro e w' ⟨rfl, hb⟩; obtain ⟨hc, hf, hl, hz, -⟩ := kept hb; try simp at hz) | (go_at_call 32; (with_reducible refine (rule_any m _ _ _ _ _ _ _ h_m (by omega)).mono ?_); (first | rw [HR.out] | rw [known_deliver] | rw [none_dropped0] | rw [none_dropped _ _ _ _ _ (.inr k6)]); rintro e w' ⟨rfl, hb⟩; obtain ⟨hc, hf, hl, hz, -⟩ := kept hb; try simp at hz))
  all_goals go_ret
  all_goals refine ⟨ret_bool ?_, ?_⟩
  all_goals first | (guard_target =~ Below _ _ _; (repeat (first | with_reducible exact Ext.rf _ | with_reducible assumption | with_reducible refine Ext.al ?_ _ | with_reducible refine Ext.dr ?_ | with_reducible refine Ext.dn ?_ _ | ((with_reducible refine Ext.st _ ?_ ?_); focus (first | omega | (simp; omega) | simp)) | with_reducible refine Ext.tr ?_ (by assumption) | with_reducible refine Ext.tr ?_ (up_ext (by assumption)) | with_reducible refine Ext.of (by assumption) ?_))) | rfl | grind

set_option maxRecDepth 100000 in
set_option maxHeartbeats 4000000 in
theorem words_b_no6_false (m : Md) (h_m : 0 ≤ m.k) (k : Int) (k6 : 6 ≤ k) (p g : Int) (p0 : 0 ≤ p) (kk : Int) (H1 : Hid (toOf m false 2 = p)) (H2 : Hid (toOf m true 3 = p)) (H3 : Hid (toOf m true 5 = -1)) (HR : Hid (ruleA m 1 0 0 false false true = ⟨3, 0, kk, p, g⟩)) (w : World) :
    Calls Try.prog 11 #[m.v, .bool false, .int .u8 k] w fun e w' => e = .returned (.bool true) ∧ Ext w w' := by
  have e1 : (p != -1) = true := by rw [bne_iff_ne]; omega
  have e2 : (p == -1) = false := by rw [beq_eq_false_iff_ne]; omega
  have e3 : (-1 != p) = true := by rw [bne_iff_ne]; omega
  go_enter Try.func11, Try.ntmps11
  go_wp2_with (first | (go_at_call 30; (with_reducible refine (words_any m _ h_m).mono ?_); rw [H1.out, H2.out, H3.out]; rintro e w' ⟨rfl, hb⟩; obtain ⟨hc, hf, hl, hz, -⟩ := kept hb; try simp at hz) | (go_at_call 36; (with_reducible refine (ruleSends_any ⟨_, _, _, _, _⟩ _).mono ?_); rintro e w' ⟨rfl, hb⟩; obtain ⟨hc, hf, hl, hz, -⟩ := kept hb; try simp at hz) | (go_at_call 38; (with_reducible refine (rwakes_any _).mono ?_); rintro e w' ⟨rfl, hb⟩; obtain ⟨hc, hf, hl, hz, -⟩ := kept hb; try simp at hz) | (go_at_call 32; (with_reducible refine (rule_any m _ _ _ _ _ _ _ h_m (by omega)).mono ?_); (first | rw [HR.out] | rw [known_deliver] | rw [none_dropped0] | rw [none_dropped _ _ _ _ _ (.inr k6)]); rintro e w' ⟨rfl, hb⟩; obtain ⟨hc, hf, hl, hz, -⟩ := kept hb; try simp at hz))
  all_goals go_ret
  all_goals refine ⟨ret_bool ?_, ?_⟩
  all_goals first | (guard_target =~ Below _ _ _; (repeat (first | with_reducible exact Ext.rf _ | with_reducible assumption | with_reducible refine Ext.al ?_ _ | with_reducible refine Ext.dr ?_ | with_reducible refine Ext.dn ?_ _ | ((with_reducible refine Ext.st _ ?_ ?_); focus (first | omega | (simp; omega) | simp)) | with_reducible refine Ext.tr ?_ (by assumption) | with_reducible refine Ext.tr ?_ (up_ext (by assumption)) | with_reducible refine Ext.of (by assumption) ?_))) | rfl | grind

set_option maxRecDepth 100000 in
set_option maxHeartbeats 4000000 in
theorem words_c_no6_false (m : Md) (h_m : 0 ≤ m.k) (k : Int) (k6 : 6 ≤ k) (p g : Int) (p0 : 0 ≤ p) (kk : Int) (H1 : Hid (toOf m false 2 = p)) (H2 : Hid (toOf m true 3 = -1)) (H3 : Hid (toOf m true 5 = p)) (HR : Hid (ruleA m 1 0 0 false false true = ⟨3, 0, kk, p, g⟩)) (w : World) :
    Calls Try.prog 11 #[m.v, .bool false, .int .u8 k] w fun e w' => e = .returned (.bool true) ∧ Ext w w' := by
  have e1 : (p != -1) = true := by rw [bne_iff_ne]; omega
  have e2 : (p == -1) = false := by rw [beq_eq_false_iff_ne]; omega
  have e3 : (-1 != p) = true := by rw [bne_iff_ne]; omega
  go_enter Try.func11, Try.ntmps11
  go_wp2_with (first | (go_at_call 30; (with_reducible refine (words_any m _ h_m).mono ?_); rw [H1.out, H2.out, H3.out]; rintro e w' ⟨rfl, hb⟩; obtain ⟨hc, hf, hl, hz, -⟩ := kept hb; try simp at hz) | (go_at_call 36; (with_reducible refine (ruleSends_any ⟨_, _, _, _, _⟩ _).mono ?_); rintro e w' ⟨rfl, hb⟩; obtain ⟨hc, hf, hl, hz, -⟩ := kept hb; try simp at hz) | (go_at_call 38; (with_reducible refine (rwakes_any _).mono ?_); rintro e w' ⟨rfl, hb⟩; obtain ⟨hc, hf, hl, hz, -⟩ := kept hb; try simp at hz) | (go_at_call 32; (with_reducible refine (rule_any m _ _ _ _ _ _ _ h_m (by omega)).mono ?_); (first | rw [HR.out] | rw [known_deliver] | rw [none_dropped0] | rw [none_dropped _ _ _ _ _ (.inr k6)]); rintro e w' ⟨rfl, hb⟩; obtain ⟨hc, hf, hl, hz, -⟩ := kept hb; try simp at hz))
  all_goals go_ret
  all_goals refine ⟨ret_bool ?_, ?_⟩
  all_goals first | (guard_target =~ Below _ _ _; (repeat (first | with_reducible exact Ext.rf _ | with_reducible assumption | with_reducible refine Ext.al ?_ _ | with_reducible refine Ext.dr ?_ | with_reducible refine Ext.dn ?_ _ | ((with_reducible refine Ext.st _ ?_ ?_); focus (first | omega | (simp; omega) | simp)) | with_reducible refine Ext.tr ?_ (by assumption) | with_reducible refine Ext.tr ?_ (up_ext (by assumption)) | with_reducible refine Ext.of (by assumption) ?_))) | rfl | grind

set_option maxRecDepth 100000 in
set_option maxHeartbeats 4000000 in
theorem words_a_no6_true (m : Md) (h_m : 0 ≤ m.k) (k : Int) (k6 : 6 ≤ k) (d x : Int) (d3 : (d == 3) = false) (H1 : Hid (toOf m false 2 = -1)) (H2 : Hid (toOf m true 3 = -1)) (H3 : Hid (toOf m true 5 = -1)) (HR : Hid (ruleA m 1 0 0 true false true = ⟨d, x, 0, 0, 0⟩)) (w : World) :
    Calls Try.prog 11 #[m.v, .bool true, .int .u8 k] w fun e w' => e = .returned (.bool true) ∧ Ext w w' := by
  go_enter Try.func11, Try.ntmps11
  go_wp2_with (first | (go_at_call 30; (with_reducible refine (words_any m _ h_m).mono ?_); rw [H1.out, H2.out, H3.out]; rintro e w' ⟨rfl, hb⟩; obtain ⟨hc, hf, hl, hz, -⟩ := kept hb; try simp at hz) | (go_at_call 36; (with_reducible refine (ruleSends_any ⟨_, _, _, _, _⟩ _).mono ?_); rintro e w' ⟨rfl, hb⟩; obtain ⟨hc, hf, hl, hz, -⟩ := kept hb; try simp at hz) | (go_at_call 38; (with_reducible refine (rwakes_any _).mono ?_); rintro e w' ⟨rfl, hb⟩; obtain ⟨hc, hf, hl, hz, -⟩ := kept hb; try simp at hz) | (go_at_call 32; (with_reducible refine (rule_any m _ _ _ _ _ _ _ h_m (by omega)).mono ?_); (first | rw [HR.out] | rw [known_deliver] | rw [none_dropped0] | rw [none_dropped _ _ _ _ _ (.inr k6)]); rintro e w' ⟨rfl, hb⟩; obtain ⟨hc, hf, hl, hz, -⟩ := kept hb; try simp at hz))
  all_goals go_ret
  all_goals refine ⟨ret_bool ?_, ?_⟩
  all_goals first | (guard_target =~ Below _ _ _; (repeat (first | with_reducible exact Ext.rf _ | with_reducible assumption | with_reducible refine Ext.al ?_ _ | with_reducible refine Ext.dr ?_ | with_reducible refine Ext.dn ?_ _ | ((with_reducible refine Ext.st _ ?_ ?_); focus (first | omega | (simp; omega) | simp)) | with_reducible refine Ext.tr ?_ (by assumption) | with_reducible refine Ext.tr ?_ (up_ext (by assumption)) | with_reducible refine Ext.of (by assumption) ?_))) | rfl | grind

set_option maxRecDepth 100000 in
set_option maxHeartbeats 4000000 in
theorem words_b_no6_true (m : Md) (h_m : 0 ≤ m.k) (k : Int) (k6 : 6 ≤ k) (p g : Int) (p0 : 0 ≤ p) (kk : Int) (H1 : Hid (toOf m false 2 = p)) (H2 : Hid (toOf m true 3 = p)) (H3 : Hid (toOf m true 5 = -1)) (HR : Hid (ruleA m 1 0 0 true false true = ⟨3, 0, kk, p, g⟩)) (w : World) :
    Calls Try.prog 11 #[m.v, .bool true, .int .u8 k] w fun e w' => e = .returned (.bool true) ∧ Ext w w' := by
  have e1 : (p != -1) = true := by rw [bne_iff_ne]; omega
  have e2 : (p == -1) = false := by rw [beq_eq_false_iff_ne]; omega
  have e3 : (-1 != p) = true := by rw [bne_iff_ne]; omega
  go_enter Try.func11, Try.ntmps11
  go_wp2_with (first | (go_at_call 30; (with_reducible refine (words_any m _ h_m).mono ?_); rw [H1.out, H2.out, H3.out]; rintro e w' ⟨rfl, hb⟩; obtain ⟨hc, hf, hl, hz, -⟩ := kept hb; try simp at hz) | (go_at_call 36; (with_reducible refine (ruleSends_any ⟨_, _, _, _, _⟩ _).mono ?_); rintro e w' ⟨rfl, hb⟩; obtain ⟨hc, hf, hl, hz, -⟩ := kept hb; try simp at hz) | (go_at_call 38; (with_reducible refine (rwakes_any _).mono ?_); rintro e w' ⟨rfl, hb⟩; obtain ⟨hc, hf, hl, hz, -⟩ := kept hb; try simp at hz) | (go_at_call 32; (with_reducible refine (rule_any m _ _ _ _ _ _ _ h_m (by omega)).mono ?_); (first | rw [HR.out] | rw [known_deliver] | rw [none_dropped0] | rw [none_dropped _ _ _ _ _ (.inr k6)]); rintro e w' ⟨rfl, hb⟩; obtain ⟨hc, hf, hl, hz, -⟩ := kept hb; try simp at hz))
  all_goals go_ret
  all_goals refine ⟨ret_bool ?_, ?_⟩
  all_goals first | (guard_target =~ Below _ _ _; (repeat (first | with_reducible exact Ext.rf _ | with_reducible assumption | with_reducible refine Ext.al ?_ _ | with_reducible refine Ext.dr ?_ | with_reducible refine Ext.dn ?_ _ | ((with_reducible refine Ext.st _ ?_ ?_); focus (first | omega | (simp; omega) | simp)) | with_reducible refine Ext.tr ?_ (by assumption) | with_reducible refine Ext.tr ?_ (up_ext (by assumption)) | with_reducible refine Ext.of (by assumption) ?_))) | rfl | grind

set_option maxRecDepth 100000 in
set_option maxHeartbeats 4000000 in
theorem words_c_no6_true (m : Md) (h_m : 0 ≤ m.k) (k : Int) (k6 : 6 ≤ k) (p g : Int) (p0 : 0 ≤ p) (kk : Int) (H1 : Hid (toOf m false 2 = p)) (H2 : Hid (toOf m true 3 = -1)) (H3 : Hid (toOf m true 5 = p)) (HR : Hid (ruleA m 1 0 0 true false true = ⟨3, 0, kk, p, g⟩)) (w : World) :
    Calls Try.prog 11 #[m.v, .bool true, .int .u8 k] w fun e w' => e = .returned (.bool true) ∧ Ext w w' := by
  have e1 : (p != -1) = true := by rw [bne_iff_ne]; omega
  have e2 : (p == -1) = false := by rw [beq_eq_false_iff_ne]; omega
  have e3 : (-1 != p) = true := by rw [bne_iff_ne]; omega
  go_enter Try.func11, Try.ntmps11
  go_wp2_with (first | (go_at_call 30; (with_reducible refine (words_any m _ h_m).mono ?_); rw [H1.out, H2.out, H3.out]; rintro e w' ⟨rfl, hb⟩; obtain ⟨hc, hf, hl, hz, -⟩ := kept hb; try simp at hz) | (go_at_call 36; (with_reducible refine (ruleSends_any ⟨_, _, _, _, _⟩ _).mono ?_); rintro e w' ⟨rfl, hb⟩; obtain ⟨hc, hf, hl, hz, -⟩ := kept hb; try simp at hz) | (go_at_call 38; (with_reducible refine (rwakes_any _).mono ?_); rintro e w' ⟨rfl, hb⟩; obtain ⟨hc, hf, hl, hz, -⟩ := kept hb; try simp at hz) | (go_at_call 32; (with_reducible refine (rule_any m _ _ _ _ _ _ _ h_m (by omega)).mono ?_); (first | rw [HR.out] | rw [known_deliver] | rw [none_dropped0] | rw [none_dropped _ _ _ _ _ (.inr k6)]); rintro e w' ⟨rfl, hb⟩; obtain ⟨hc, hf, hl, hz, -⟩ := kept hb; try simp at hz))
  all_goals go_ret
  all_goals refine ⟨ret_bool ?_, ?_⟩
  all_goals first | (guard_target =~ Below _ _ _; (repeat (first | with_reducible exact Ext.rf _ | with_reducible assumption | with_reducible refine Ext.al ?_ _ | with_reducible refine Ext.dr ?_ | with_reducible refine Ext.dn ?_ _ | ((with_reducible refine Ext.st _ ?_ ?_); focus (first | omega | (simp; omega) | simp)) | with_reducible refine Ext.tr ?_ (by assumption) | with_reducible refine Ext.tr ?_ (up_ext (by assumption)) | with_reducible refine Ext.of (by assumption) ?_))) | rfl | grind

theorem ruleWords_walk (m : Md) (s : Bool) (k : Int) (w : World) (h0 : 0 ≤ m.k) (hk : 0 ≤ k) :
    Calls Try.prog 11 #[m.v, .bool s, .int .u8 k] w fun e w' => e = .returned (.bool true) ∧ Ext w w' := by
  have hc : k = 0 ∨ (1 ≤ k ∧ k < 6) ∨ 6 ≤ k := by omega
  rcases words_cases m h0 with ⟨h1, h2, h3, hR⟩ | ⟨p, g, p0, h1, h2, h3, hR⟩ | ⟨p, g, p0, h1, h2, h3, hR⟩
  · obtain ⟨d, x, hR, hd⟩ := hR s
    have d3 : (d == 3) = false := by rw [beq_eq_false_iff_ne]; omega
    rcases hc with rfl | ⟨k1, k6⟩ | k6 <;> cases s
    · exact words_a_no0_false m h0 d x d3 h1 h2 h3 hR w
    · exact words_a_no0_true m h0 d x d3 h1 h2 h3 hR w
    · exact words_a_in_false m h0 k k1 k6 d x d3 h1 h2 h3 hR w
    · exact words_a_in_true m h0 k k1 k6 d x d3 h1 h2 h3 hR w
    · exact words_a_no6_false m h0 k k6 d x d3 h1 h2 h3 hR w
    · exact words_a_no6_true m h0 k k6 d x d3 h1 h2 h3 hR w
  · obtain ⟨kk, hR⟩ := hR s
    rcases hc with rfl | ⟨k1, k6⟩ | k6 <;> cases s
    · exact words_b_no0_false m h0 p g p0 kk h1 h2 h3 hR w
    · exact words_b_no0_true m h0 p g p0 kk h1 h2 h3 hR w
    · exact words_b_in_false m h0 k k1 k6 p g p0 kk h1 h2 h3 hR w
    · exact words_b_in_true m h0 k k1 k6 p g p0 kk h1 h2 h3 hR w
    · exact words_b_no6_false m h0 k k6 p g p0 kk h1 h2 h3 hR w
    · exact words_b_no6_true m h0 k k6 p g p0 kk h1 h2 h3 hR w
  · obtain ⟨kk, hR⟩ := hR s
    rcases hc with rfl | ⟨k1, k6⟩ | k6 <;> cases s
    · exact words_c_no0_false m h0 p g p0 kk h1 h2 h3 hR w
    · exact words_c_no0_true m h0 p g p0 kk h1 h2 h3 hR w
    · exact words_c_in_false m h0 k k1 k6 p g p0 kk h1 h2 h3 hR w
    · exact words_c_in_true m h0 k k1 k6 p g p0 kk h1 h2 h3 hR w
    · exact words_c_no6_false m h0 k k6 p g p0 kk h1 h2 h3 hR w
    · exact words_c_no6_true m h0 k k6 p g p0 kk h1 h2 h3 hR w

set_option maxRecDepth 100000 in
theorem ruleWords_lifted (os : Os) (started : os.Started) (H : Type) (enc : TypeId × Value → H) :
    ReturnsInHanded {} Try.checked os 11 .any (Rows.ruleWordsSpec.pre6 enc Try.prog Try.f11 Rows.ruleWordsRow.domain false) (Rows.ruleWordsSpec.post enc Try.prog Try.f11 false true false false) := by
  refine law_lift 4 own started (by kernel_rfl) Try.func11 (ChangeSpec.witness6 (enc := enc) (C := Try.checked) false ⟨#[], #[.agg #[.int .u8 0, .int .i64 0, .int .i64 0, .bool false], .bool false, .int .u8 0], []⟩ 8 (by kernel_rfl) (by kernel_rfl) (by kernel_rfl) (by kernel_rfl)) laidOut rfl (by kernel_rfl) Try.underlying4 ?_ (by kernel_rfl) ?_
  · intro ds h
    match ds, h with
    | [d0, d1, d2], _ => rfl
  · intro W base args ds p hval hA hlt
    have hval' : ∀ (j : Nat) t v, Try.f11.params[j]? = some t → args[j]? = some v → Value.okWide Try.prog W .any base t v := hval
    have hA' : DataW.TrodAll enc Try.prog W 0 (fun _ => true) true Try.f11.params.toList args.toList ds p := hA
    rw [Try.params11] at hA' hval'
    obtain ⟨v0, vs0, d0, ds0, p0, q0, hargs, rfl, rfl, h0, r0⟩ := trodAll_cons hA'
    obtain ⟨v1, vs1, d1, ds1, p1, q1, rfl, rfl, rfl, h1, r1⟩ := trodAll_cons r0
    obtain ⟨v2, vs2, d2, ds2, p2, q2, rfl, rfl, rfl, h2, r2⟩ := trodAll_cons r1
    obtain ⟨rfl, rfl, rfl⟩ := trodAll_nil r2
    obtain rfl : args = #[v0, v1, v2] := by cases args; simp_all
    obtain ⟨m, rfl, hm0, hm1⟩ := open_mode (hval' 0 _ v0 rfl rfl) h0
    obtain ⟨s, rfl, _⟩ := open_bool Try.underlying4 (hval' 1 _ v1 rfl rfl) h1
    obtain ⟨k, rfl, _, _, w_k⟩ := open_int Try.underlying5 (hval' 2 _ v2 rfl rfl) h2
    exact ruleWords_walk m s k W hm0 (byte_of w_k).1

theorem ruleWords_holds : Rows.RuleWordsSaid :=
  OpenClaim.holds_of_wide 11 Try.f11 rfl rfl rfl rfl rfl rfl rfl ⟨rfl, rfl, rfl, rfl, rfl⟩ rfl rfl rfl rfl rfl (by kernel_rfl) Try.func11 (by kernel_rfl)
    (of_decide_eq_true (by kernel_rfl)) (by unfold Func.isWrapper; first | (rw [if_pos (by decide +kernel)]; kernel_rfl) | (rw [if_neg (by decide +kernel)]; exact ⟨rfl, rfl⟩))
    (fun os started H enc _ => ruleWords_lifted os started H enc)
#print axioms ruleWords_holds

end Go.Proofs.Ytnceijlphinnhaa
