/- RuleOnce returns true: for any three modes and anything asked. -/
import Derived.Test.YtnceijlphinnhaaR15
set_option linter.unusedSimpArgs false
set_option linter.unusedVariables false
namespace Go.Proofs.Ytnceijlphinnhaa
open Go.ChangeShapes Go.WideShapes Go.ChangeAt Go.RowKit

theorem once_cases (l m n : Md) (f g : Int) (s nn r : Bool) :
    (∃ d x, ruleA l 1 f g s nn r = ⟨d, x, 0, 0, 0⟩ ∧ 0 ≤ d ∧ d < 3) ∨
    (nn = false ∧ s = false ∧ ∃ t gg, ruleA l 1 f g false false r = ⟨3, 0, 2, t, gg⟩ ∧ ruleA m 2 0 gg false false r = ⟨0, 16, 0, 0, 0⟩) ∨
    (nn = false ∧ s = true ∧ ∃ kk t gg d x, ruleA l 1 f g true false r = ⟨3, 0, kk, t, gg⟩ ∧ (kk = 3 ∨ kk = 5) ∧ ruleA m kk 0 gg true false r = ⟨d, x, 0, 0, 0⟩ ∧ 0 ≤ d ∧ d < 3) ∨
    (nn = false ∧ s = true ∧ ∃ t gg d x, ruleA l 1 f g true false r = ⟨3, 0, 3, t, gg⟩ ∧ ruleA m 3 0 gg true false r = ⟨3, 0, 4, 0, gg⟩ ∧ ruleA n 4 0 gg true false r = ⟨d, x, 0, 0, 0⟩ ∧ 0 ≤ d ∧ d < 3) := by
  have acc : ∀ (b : Bool), ∃ d x, acceptA b = ⟨d, x, 0, 0, 0⟩ ∧ 0 ≤ d ∧ d < 3 := by intro b; cases b <;> exact ⟨_, _, rfl, by decide, by decide⟩
  have min : ∀ (M : Md) (gg : Int), ∃ d x, mineA M gg r = ⟨d, x, 0, 0, 0⟩ ∧ 0 ≤ d ∧ d < 3 := by
    intro M gg; unfold mineA; split
    · exact acc r
    · exact ⟨_, _, rfl, by decide, by decide⟩
  have no : ∀ x, ∃ d y, dropA x = ⟨d, y, 0, 0, 0⟩ ∧ 0 ≤ d ∧ d < 3 := fun x => ⟨0, x, rfl, by decide, by decide⟩
  have hand : ∀ (M : Md) (kk gg : Int), kk = 4 ∨ kk = 5 → ∃ d x, ruleT M kk 0 gg true r = ⟨d, x, 0, 0, 0⟩ ∧ 0 ≤ d ∧ d < 3 := by
    intro M kk gg hk
    unfold ruleT
    rw [if_neg (by simp), if_neg (by omega), if_neg (by omega), if_neg (by omega)]
    repeat' split
    · exact acc r
    · exact min M gg
    · exact no 17
  have rT : ∀ (M : Md) (k gg : Int) (s : Bool), 1 ≤ k → k < 6 → ruleA M k 0 gg s false r = ruleT (knownM M) k 0 gg s r := by
    intro M k gg s h1 h6; unfold ruleA; rw [if_neg (by omega), if_neg (by simp)]
  cases nn
  case true => exact .inl ⟨1, 0, by unfold ruleA; simp, by decide, by decide⟩
  have e1 : ruleA l 1 f g s false r = ruleT (knownM l) 1 f g s r := by unfold ruleA; rw [if_neg (by omega), if_neg (by simp)]
  rw [e1]
  cases s
  · unfold ruleT
    rw [if_pos rfl]
    split
    · refine .inr (.inl ⟨rfl, rfl, _, _, by rw [e1]; unfold ruleT; rw [if_pos rfl]; rw [if_pos (by assumption)], ?_⟩)
      rw [rT _ _ _ _ (by omega) (by omega)]
      unfold ruleT
      simp [dropA]
    · exact .inl (no 16)
  · have e2 : ruleA l 1 f g true false r = ruleT (knownM l) 1 f g true r := e1
    have two : ∀ kk t gg, ruleT (knownM l) 1 f g true r = ⟨3, 0, kk, t, gg⟩ → kk = 3 ∨ kk = 5 →
        (∃ kk t gg d x, ruleT (knownM l) 1 f g true r = ⟨3, 0, kk, t, gg⟩ ∧ (kk = 3 ∨ kk = 5) ∧ ruleA m kk 0 gg true false r = ⟨d, x, 0, 0, 0⟩ ∧ 0 ≤ d ∧ d < 3) ∨
        (∃ t gg d x, ruleT (knownM l) 1 f g true r = ⟨3, 0, 3, t, gg⟩ ∧ ruleA m 3 0 gg true false r = ⟨3, 0, 4, 0, gg⟩ ∧ ruleA n 4 0 gg true false r = ⟨d, x, 0, 0, 0⟩ ∧ 0 ≤ d ∧ d < 3) := by
      intro kk t gg he hk
      rcases hk with rfl | rfl
      · by_cases hb : ((knownM m).k = 0 ∨ (knownM m).k = 3) ∧ bounceOk (knownM m) 0 gg = true
        · refine .inr ⟨t, gg, ?_⟩
          obtain ⟨d, x, h, h1, h2⟩ := hand (knownM n) 4 gg (.inl rfl)
          refine ⟨d, x, he, ?_, by rw [rT _ _ _ _ (by omega) (by omega)]; exact h, h1, h2⟩
          rw [rT _ _ _ _ (by omega) (by omega)]
          unfold ruleT bounceA
          rw [if_neg (by simp), if_neg (by omega), if_neg (by omega), if_pos rfl, if_pos hb.1, if_pos hb.2]
        · refine .inl ⟨3, t, gg, ?_⟩
          have : ruleA m 3 0 gg true false r = dropA 17 := by
            rw [rT _ _ _ _ (by omega) (by omega)]
            unfold ruleT bounceA
            rw [if_neg (by simp), if_neg (by omega), if_neg (by omega), if_pos rfl]
            by_cases h3 : (knownM m).k = 0 ∨ (knownM m).k = 3
            · rw [if_pos h3, if_neg (fun h => hb ⟨h3, h⟩)]
            · rw [if_neg h3]
          exact ⟨0, 17, he, .inl rfl, this, by decide, by decide⟩
      · refine .inl ⟨5, t, gg, ?_⟩
        obtain ⟨d, x, h, h1, h2⟩ := hand (knownM m) 5 gg (.inr rfl)
        exact ⟨d, x, he, .inr rfl, by rw [rT _ _ _ _ (by omega) (by omega)]; exact h, h1, h2⟩
    have three : (∃ d x, ruleT (knownM l) 1 f g true r = ⟨d, x, 0, 0, 0⟩ ∧ 0 ≤ d ∧ d < 3) ∨ (∃ kk t gg, ruleT (knownM l) 1 f g true r = ⟨3, 0, kk, t, gg⟩ ∧ (kk = 3 ∨ kk = 5)) := by
      unfold ruleT
      rw [if_neg (by simp), if_pos rfl]
      repeat' split
      · exact .inl (no 15)
      · exact .inl (acc r)
      · exact .inr ⟨_, _, _, rfl, .inl rfl⟩
      · exact .inr ⟨_, _, _, rfl, .inr rfl⟩
      · exact .inl (no 17)
    rw [e2]
    rcases three with h | ⟨kk, t, gg, he, hk⟩
    · exact .inl h
    · rcases two kk t gg he hk with h | h
      · exact .inr (.inr (.inl ⟨rfl, rfl, h⟩))
      · exact .inr (.inr (.inr ⟨rfl, rfl, h⟩))

set_option maxRecDepth 100000 in
set_option maxHeartbeats 4000000 in
theorem once_1 (l m n : Md) (h_l : 0 ≤ l.k) (h_m : 0 ≤ m.k) (h_n : 0 ≤ n.k) (k0 f g : Int) (s nn r : Bool) (d x : Int) (d0 : 0 ≤ d) (d2 : d < 3) (H1 : Hid (ruleA l 1 f g s nn r = ⟨d, x, 0, 0, 0⟩)) (w : World) :
    Calls Try.prog 8 #[l.v, m.v, n.v, av k0 f g s nn r] w fun e w' => e = .returned (.bool true) ∧ Ext w w' := by
  have d3 : (d == 3) = false := by rw [beq_eq_false_iff_ne]; omega
  go_enter Try.func8, Try.ntmps8
  go_wp2_with (first | (go_at_call 32; (with_reducible refine (rule_any l _ _ _ _ _ _ _ h_l (by omega)).mono ?_); rw [H1.out]; rintro e w' ⟨rfl, hb⟩; obtain ⟨hc, hf, hl, hz, -⟩ := kept hb; try simp at hz) | (go_at_call 36; (with_reducible refine (ruleSends_any ⟨_, _, _, _, _⟩ _).mono ?_); rintro e w' ⟨rfl, hb⟩; obtain ⟨hc, hf, hl, hz, -⟩ := kept hb; try simp at hz) | (go_at_call 38; (with_reducible refine (rwakes_any _).mono ?_); rintro e w' ⟨rfl, hb⟩; obtain ⟨hc, hf, hl, hz, -⟩ := kept hb; try simp at hz))
  all_goals go_ret
  all_goals refine ⟨ret_bool ?_, ?_⟩
  all_goals first | (guard_target =~ Below _ _ _; (repeat (first | with_reducible exact Ext.rf _ | with_reducible assumption | with_reducible refine Ext.al ?_ _ | with_reducible refine Ext.dr ?_ | with_reducible refine Ext.dn ?_ _ | ((with_reducible refine Ext.st _ ?_ ?_); focus (first | omega | (simp; omega) | simp)) | with_reducible refine Ext.tr ?_ (by assumption) | with_reducible refine Ext.tr ?_ (up_ext (by assumption)) | with_reducible refine Ext.of (by assumption) ?_))) | rfl | (simp; omega) | grind

set_option maxRecDepth 100000 in
set_option maxHeartbeats 4000000 in
theorem once_2 (l m n : Md) (h_l : 0 ≤ l.k) (h_m : 0 ≤ m.k) (h_n : 0 ≤ n.k) (k0 f g : Int) (r : Bool) (t gg : Int) (H1 : Hid (ruleA l 1 f g false false r = ⟨3, 0, 2, t, gg⟩)) (H2 : Hid (ruleA m 2 0 gg false false r = ⟨0, 16, 0, 0, 0⟩)) (w : World) :
    Calls Try.prog 8 #[l.v, m.v, n.v, av k0 f g false false r] w fun e w' => e = .returned (.bool true) ∧ Ext w w' := by
  go_enter Try.func8, Try.ntmps8
  go_wp2_with (first | (go_at_call 32; (with_reducible refine (rule_any l _ _ _ _ _ _ _ h_l (by omega)).mono ?_); rw [H1.out]; rintro e w' ⟨rfl, hb⟩; obtain ⟨hc, hf, hl, hz, -⟩ := kept hb; try simp at hz) | (go_at_call 32; (with_reducible refine (rule_any m _ _ _ _ _ _ _ h_m (by omega)).mono ?_); rw [H2.out]; rintro e w' ⟨rfl, hb⟩; obtain ⟨hc, hf, hl, hz, -⟩ := kept hb; try simp at hz) | (go_at_call 36; (with_reducible refine (ruleSends_any ⟨_, _, _, _, _⟩ _).mono ?_); rintro e w' ⟨rfl, hb⟩; obtain ⟨hc, hf, hl, hz, -⟩ := kept hb; try simp at hz) | (go_at_call 38; (with_reducible refine (rwakes_any _).mono ?_); rintro e w' ⟨rfl, hb⟩; obtain ⟨hc, hf, hl, hz, -⟩ := kept hb; try simp at hz))
  go_region
  all_goals go_wp2_with (first | (go_at_call 32; (with_reducible refine (rule_any l _ _ _ _ _ _ _ h_l (by omega)).mono ?_); rw [H1.out]; rintro e w' ⟨rfl, hb⟩; obtain ⟨hc, hf, hl, hz, -⟩ := kept hb; try simp at hz) | (go_at_call 32; (with_reducible refine (rule_any m _ _ _ _ _ _ _ h_m (by omega)).mono ?_); rw [H2.out]; rintro e w' ⟨rfl, hb⟩; obtain ⟨hc, hf, hl, hz, -⟩ := kept hb; try simp at hz) | (go_at_call 36; (with_reducible refine (ruleSends_any ⟨_, _, _, _, _⟩ _).mono ?_); rintro e w' ⟨rfl, hb⟩; obtain ⟨hc, hf, hl, hz, -⟩ := kept hb; try simp at hz) | (go_at_call 38; (with_reducible refine (rwakes_any _).mono ?_); rintro e w' ⟨rfl, hb⟩; obtain ⟨hc, hf, hl, hz, -⟩ := kept hb; try simp at hz))
  all_goals go_ret
  all_goals refine ⟨ret_bool ?_, ?_⟩
  all_goals first | (guard_target =~ Below _ _ _; (repeat (first | with_reducible exact Ext.rf _ | with_reducible assumption | with_reducible refine Ext.al ?_ _ | with_reducible refine Ext.dr ?_ | with_reducible refine Ext.dn ?_ _ | ((with_reducible refine Ext.st _ ?_ ?_); focus (first | omega | (simp; omega) | simp)) | with_reducible refine Ext.tr ?_ (by assumption) | with_reducible refine Ext.tr ?_ (up_ext (by assumption)) | with_reducible refine Ext.of (by assumption) ?_))) | rfl | grind

set_option maxRecDepth 100000 in
set_option maxHeartbeats 4000000 in
theorem once_3_3 (l m n : Md) (h_l : 0 ≤ l.k) (h_m : 0 ≤ m.k) (h_n : 0 ≤ n.k) (k0 f g : Int) (r : Bool) (t gg d x : Int) (d0 : 0 ≤ d) (d2 : d < 3) (H1 : Hid (ruleA l 1 f g true false r = ⟨3, 0, 3, t, gg⟩)) (H2 : Hid (ruleA m 3 0 gg true false r = ⟨d, x, 0, 0, 0⟩)) (w : World) :
    Calls Try.prog 8 #[l.v, m.v, n.v, av k0 f g true false r] w fun e w' => e = .returned (.bool true) ∧ Ext w w' := by
  have d3 : (d == 3) = false := by rw [beq_eq_false_iff_ne]; omega
  go_enter Try.func8, Try.ntmps8
  go_wp2_with (first | (go_at_call 32; (with_reducible refine (rule_any l _ _ _ _ _ _ _ h_l (by omega)).mono ?_); rw [H1.out]; rintro e w' ⟨rfl, hb⟩; obtain ⟨hc, hf, hl, hz, -⟩ := kept hb; try simp at hz) | (go_at_call 32; (with_reducible refine (rule_any m _ _ _ _ _ _ _ h_m (by omega)).mono ?_); rw [H2.out]; rintro e w' ⟨rfl, hb⟩; obtain ⟨hc, hf, hl, hz, -⟩ := kept hb; try simp at hz) | (go_at_call 36; (with_reducible refine (ruleSends_any ⟨_, _, _, _, _⟩ _).mono ?_); rintro e w' ⟨rfl, hb⟩; obtain ⟨hc, hf, hl, hz, -⟩ := kept hb; try simp at hz) | (go_at_call 38; (with_reducible refine (rwakes_any _).mono ?_); rintro e w' ⟨rfl, hb⟩; obtain ⟨hc, hf, hl, hz, -⟩ := kept hb; try simp at hz))
  go_region
  all_goals go_wp2_with (first | (go_at_call 32; (with_reducible refine (rule_any l _ _ _ _ _ _ _ h_l (by omega)).mono ?_); rw [H1.out]; rintro e w' ⟨rfl, hb⟩; obtain ⟨hc, hf, hl, hz, -⟩ := kept hb; try simp at hz) | (go_at_call 32; (with_reducible refine (rule_any m _ _ _ _ _ _ _ h_m (by omega)).mono ?_); rw [H2.out]; rintro e w' ⟨rfl, hb⟩; obtain ⟨hc, hf, hl, hz, -⟩ := kept hb; try simp at hz) | (go_at_call 36; (with_reducible refine (ruleSends_any ⟨_, _, _, _, _⟩ _).mono ?_); rintro e w' ⟨rfl, hb⟩; obtain ⟨hc, hf, hl, hz, -⟩ := kept hb; try simp at hz) | (go_at_call 38; (with_reducible refine (rwakes_any _).mono ?_); rintro e w' ⟨rfl, hb⟩; obtain ⟨hc, hf, hl, hz, -⟩ := kept hb; try simp at hz))
  all_goals go_ret
  all_goals refine ⟨ret_bool ?_, ?_⟩
  all_goals first | (guard_target =~ Below _ _ _; (repeat (first | with_reducible exact Ext.rf _ | with_reducible assumption | with_reducible refine Ext.al ?_ _ | with_reducible refine Ext.dr ?_ | with_reducible refine Ext.dn ?_ _ | ((with_reducible refine Ext.st _ ?_ ?_); focus (first | omega | (simp; omega) | simp)) | with_reducible refine Ext.tr ?_ (by assumption) | with_reducible refine Ext.tr ?_ (up_ext (by assumption)) | with_reducible refine Ext.of (by assumption) ?_))) | rfl | grind

set_option maxRecDepth 100000 in
set_option maxHeartbeats 4000000 in
theorem once_3_5 (l m n : Md) (h_l : 0 ≤ l.k) (h_m : 0 ≤ m.k) (h_n : 0 ≤ n.k) (k0 f g : Int) (r : Bool) (t gg d x : Int) (d0 : 0 ≤ d) (d2 : d < 3) (H1 : Hid (ruleA l 1 f g true false r = ⟨3, 0, 5, t, gg⟩)) (H2 : Hid (ruleA m 5 0 gg true false r = ⟨d, x, 0, 0, 0⟩)) (w : World) :
    Calls Try.prog 8 #[l.v, m.v, n.v, av k0 f g true false r] w fun e w' => e = .returned (.bool true) ∧ Ext w w' := by
  have d3 : (d == 3) = false := by rw [beq_eq_false_iff_ne]; omega
  go_enter Try.func8, Try.ntmps8
  go_wp2_with (first | (go_at_call 32; (with_reducible refine (rule_any l _ _ _ _ _ _ _ h_l (by omega)).mono ?_); rw [H1.out]; rintro e w' ⟨rfl, hb⟩; obtain ⟨hc, hf, hl, hz, -⟩ := kept hb; try simp at hz) | (go_at_call 32; (with_reducible refine (rule_any m _ _ _ _ _ _ _ h_m (by omega)).mono ?_); rw [H2.out]; rintro e w' ⟨rfl, hb⟩; obtain ⟨hc, hf, hl, hz, -⟩ := kept hb; try simp at hz) | (go_at_call 36; (with_reducible refine (ruleSends_any ⟨_, _, _, _, _⟩ _).mono ?_); rintro e w' ⟨rfl, hb⟩; obtain ⟨hc, hf, hl, hz, -⟩ := kept hb; try simp at hz) | (go_at_call 38; (with_reducible refine (rwakes_any _).mono ?_); rintro e w' ⟨rfl, hb⟩; obtain ⟨hc, hf, hl, hz, -⟩ := kept hb; try simp at hz))
  go_region
  all_goals go_wp2_with (first | (go_at_call 32; (with_reducible refine (rule_any l _ _ _ _ _ _ _ h_l (by omega)).mono ?_); rw [H1.out]; rintro e w' ⟨rfl, hb⟩; obtain ⟨hc, hf, hl, hz, -⟩ := kept hb; try simp at hz) | (go_at_call 32; (with_reducible refine (rule_any m _ _ _ _ _ _ _ h_m (by omega)).mono ?_); rw [H2.out]; rintro e w' ⟨rfl, hb⟩; obtain ⟨hc, hf, hl, hz, -⟩ := kept hb; try simp at hz) | (go_at_call 36; (with_reducible refine (ruleSends_any ⟨_, _, _, _, _⟩ _).mono ?_); rintro e w' ⟨rfl, hb⟩; obtain ⟨hc, hf, hl, hz, -⟩ := kept hb; try simp at hz) | (go_at_call 38; (with_reducible refine (rwakes_any _).mono ?_); rintro e w' ⟨rfl, hb⟩; obtain ⟨hc, hf, hl, hz, -⟩ := kept hb; try simp at hz))
  all_goals go_ret
  all_goals refine ⟨ret_bool ?_, ?_⟩
  all_goals first | (guard_target =~ Below _ _ _; (repeat (first | with_reducible exact Ext.rf _ | with_reducible assumption | with_reducible refine Ext.al ?_ _ | with_reducible refine Ext.dr ?_ | with_reducible refine Ext.dn ?_ _ | ((with_reducible refine Ext.st _ ?_ ?_); focus (first | omega | (simp; omega) | simp)) | with_reducible refine Ext.tr ?_ (by assumption) | with_reducible refine Ext.tr ?_ (up_ext (by assumption)) | with_reducible refine Ext.of (by assumption) ?_))) | rfl | grind

set_option maxRecDepth 100000 in
set_option maxHeartbeats 4000000 in
theorem once_4 (l m n : Md) (h_l : 0 ≤ l.k) (h_m : 0 ≤ m.k) (h_n : 0 ≤ n.k) (k0 f g : Int) (r : Bool) (t gg d x : Int) (d0 : 0 ≤ d) (d2 : d < 3) (H1 : Hid (ruleA l 1 f g true false r = ⟨3, 0, 3, t, gg⟩)) (H2 : Hid (ruleA m 3 0 gg true false r = ⟨3, 0, 4, 0, gg⟩)) (H3 : Hid (ruleA n 4 0 gg true false r = ⟨d, x, 0, 0, 0⟩)) (w : World) :
    Calls Try.prog 8 #[l.v, m.v, n.v, av k0 f g true false r] w fun e w' => e = .returned (.bool true) ∧ Ext w w' := by
  have d3 : (d == 3) = false := by rw [beq_eq_false_iff_ne]; omega
  go_enter Try.func8, Try.ntmps8
  go_wp2_with (first | (go_at_call 32; (with_reducible refine (rule_any l _ _ _ _ _ _ _ h_l (by omega)).mono ?_); rw [H1.out]; rintro e w' ⟨rfl, hb⟩; obtain ⟨hc, hf, hl, hz, -⟩ := kept hb; try simp at hz) | (go_at_call 32; (with_reducible refine (rule_any m _ _ _ _ _ _ _ h_m (by omega)).mono ?_); rw [H2.out]; rintro e w' ⟨rfl, hb⟩; obtain ⟨hc, hf, hl, hz, -⟩ := kept hb; try simp at hz) | (go_at_call 32; (with_reducible refine (rule_any n _ _ _ _ _ _ _ h_n (by omega)).mono ?_); rw [H3.out]; rintro e w' ⟨rfl, hb⟩; obtain ⟨hc, hf, hl, hz, -⟩ := kept hb; try simp at hz) | (go_at_call 36; (with_reducible refine (ruleSends_any ⟨_, _, _, _, _⟩ _).mono ?_); rintro e w' ⟨rfl, hb⟩; obtain ⟨hc, hf, hl, hz, -⟩ := kept hb; try simp at hz) | (go_at_call 38; (with_reducible refine (rwakes_any _).mono ?_); rintro e w' ⟨rfl, hb⟩; obtain ⟨hc, hf, hl, hz, -⟩ := kept hb; try simp at hz))
  go_region
  all_goals go_wp2_with (first | (go_at_call 32; (with_reducible refine (rule_any l _ _ _ _ _ _ _ h_l (by omega)).mono ?_); rw [H1.out]; rintro e w' ⟨rfl, hb⟩; obtain ⟨hc, hf, hl, hz, -⟩ := kept hb; try simp at hz) | (go_at_call 32; (with_reducible refine (rule_any m _ _ _ _ _ _ _ h_m (by omega)).mono ?_); rw [H2.out]; rintro e w' ⟨rfl, hb⟩; obtain ⟨hc, hf, hl, hz, -⟩ := kept hb; try simp at hz) | (go_at_call 32; (with_reducible refine (rule_any n _ _ _ _ _ _ _ h_n (by omega)).mono ?_); rw [H3.out]; rintro e w' ⟨rfl, hb⟩; obtain ⟨hc, hf, hl, hz, -⟩ := kept hb; try simp at hz) | (go_at_call 36; (with_reducible refine (ruleSends_any ⟨_, _, _, _, _⟩ _).mono ?_); rintro e w' ⟨rfl, hb⟩; obtain ⟨hc, hf, hl, hz, -⟩ := kept hb; try simp at hz) | (go_at_call 38; (with_reducible refine (rwakes_any _).mono ?_); rintro e w' ⟨rfl, hb⟩; obtain ⟨hc, hf, hl, hz, -⟩ := kept hb; try simp at hz))
  go_region
  all_goals go_wp2_with (first | (go_at_call 32; (with_reducible refine (rule_any l _ _ _ _ _ _ _ h_l (by omega)).mono ?_); rw [H1.out]; rintro e w' ⟨rfl, hb⟩; obtain ⟨hc, hf, hl, hz, -⟩ := kept hb; try simp at hz) | (go_at_call 32; (with_reducible refine (rule_any m _ _ _ _ _ _ _ h_m (by omega)).mono ?_); rw [H2.out]; rintro e w' ⟨rfl, hb⟩; obtain ⟨hc, hf, hl, hz, -⟩ := kept hb; try simp at hz) | (go_at_call 32; (with_reducible refine (rule_any n _ _ _ _ _ _ _ h_n (by omega)).mono ?_); rw [H3.out]; rintro e w' ⟨rfl, hb⟩; obtain ⟨hc, hf, hl, hz, -⟩ := kept hb; try simp at hz) | (go_at_call 36; (with_reducible refine (ruleSends_any ⟨_, _, _, _, _⟩ _).mono ?_); rintro e w' ⟨rfl, hb⟩; obtain ⟨hc, hf, hl, hz, -⟩ := kept hb; try simp at hz) | (go_at_call 38; (with_reducible refine (rwakes_any _).mono ?_); rintro e w' ⟨rfl, hb⟩; obtain ⟨hc, hf, hl, hz, -⟩ := kept hb; try simp at hz))
  all_goals go_ret
  all_goals refine ⟨ret_bool ?_, ?_⟩
  all_goals first | (guard_target =~ Below _ _ _; (repeat (first | with_reducible exact Ext.rf _ | with_reducible assumption | with_reducible refine Ext.al ?_ _ | with_reducible refine Ext.dr ?_ | with_reducible refine Ext.dn ?_ _ | ((with_reducible refine Ext.st _ ?_ ?_); focus (first | omega | (simp; omega) | simp)) | with_reducible refine Ext.tr ?_ (by assumption) | with_reducible refine Ext.tr ?_ (up_ext (by assumption)) | with_reducible refine Ext.of (by assumption) ?_))) | rfl | grind

theorem ruleOnce_walk (l m n : Md) (k f g : Int) (s nn r : Bool) (w : World) (h_l : 0 ≤ l.k) (h_m : 0 ≤ m.k) (h_n : 0 ≤ n.k) :
    Calls Try.prog 8 #[l.v, m.v, n.v, av k f g s nn r] w fun e w' => e = .returned (.bool true) ∧ Ext w w' := by
  rcases once_cases l m n f g s nn r with ⟨d, x, h1, d0, d2⟩ | ⟨rfl, rfl, t, gg, h1, h2⟩ | ⟨rfl, rfl, kk, t, gg, d, x, h1, hk, h2, d0, d2⟩ | ⟨rfl, rfl, t, gg, d, x, h1, h2, h3, d0, d2⟩
  · exact once_1 l m n h_l h_m h_n k f g s nn r d x d0 d2 h1 w
  · exact once_2 l m n h_l h_m h_n k f g r t gg h1 h2 w
  · rcases hk with rfl | rfl
    · exact once_3_3 l m n h_l h_m h_n k f g r t gg d x d0 d2 h1 h2 w
    · exact once_3_5 l m n h_l h_m h_n k f g r t gg d x d0 d2 h1 h2 w
  · exact once_4 l m n h_l h_m h_n k f g r t gg d x d0 d2 h1 h2 h3 w

set_option maxRecDepth 100000 in
theorem ruleOnce_lifted (os : Os) (started : os.Started) (H : Type) (enc : TypeId × Value → H) :
    ReturnsInHanded {} Try.checked os 8 .any (Rows.ruleOnceSpec.pre6 enc Try.prog Try.f8 Rows.ruleOnceRow.domain false) (Rows.ruleOnceSpec.post enc Try.prog Try.f8 false true false false) := by
  refine law_lift 4 own started (by kernel_rfl) Try.func8 (ChangeSpec.witness6 (enc := enc) (C := Try.checked) false ⟨#[], #[.agg #[.int .u8 0, .int .i64 0, .int .i64 0, .bool false], .agg #[.int .u8 0, .int .i64 0, .int .i64 0, .bool false], .agg #[.int .u8 0, .int .i64 0, .int .i64 0, .bool false], .agg #[.int .u8 0, .int .i64 0, .int .i64 0, .bool false, .bool false, .bool false]], []⟩ 8 (by kernel_rfl) (by kernel_rfl) (by kernel_rfl) (by kernel_rfl)) laidOut rfl (by kernel_rfl) Try.underlying4 ?_ (by kernel_rfl) ?_
  · intro ds h
    match ds, h with
    | [d0, d1, d2, d3], _ => rfl
  · intro W base args ds p hval hA hlt
    have hval' : ∀ (j : Nat) t v, Try.f8.params[j]? = some t → args[j]? = some v → Value.okWide Try.prog W .any base t v := hval
    have hA' : DataW.TrodAll enc Try.prog W 0 (fun _ => true) true Try.f8.params.toList args.toList ds p := hA
    rw [Try.params8] at hA' hval'
    obtain ⟨v0, vs0, d0, ds0, p0, q0, hargs, rfl, rfl, h0, r0⟩ := trodAll_cons hA'
    obtain ⟨v1, vs1, d1, ds1, p1, q1, rfl, rfl, rfl, h1, r1⟩ := trodAll_cons r0
    obtain ⟨v2, vs2, d2, ds2, p2, q2, rfl, rfl, rfl, h2, r2⟩ := trodAll_cons r1
    obtain ⟨v3, vs3, d3, ds3, p3, q3, rfl, rfl, rfl, h3, r3⟩ := trodAll_cons r2
    obtain ⟨rfl, rfl, rfl⟩ := trodAll_nil r3
    obtain rfl : args = #[v0, v1, v2, v3] := by cases args; simp_all
    obtain ⟨l, rfl, hl0, hl1⟩ := open_mode (hval' 0 _ v0 rfl rfl) h0
    obtain ⟨m, rfl, hm0, hm1⟩ := open_mode (hval' 1 _ v1 rfl rfl) h1
    obtain ⟨n, rfl, hn0, hn1⟩ := open_mode (hval' 2 _ v2 rfl rfl) h2
    obtain ⟨k, f, g, s, nn, r, rfl, hk0, _⟩ := open_asked (hval' 3 _ v3 rfl rfl) h3
    exact ruleOnce_walk l m n k f g s nn r W hl0 hm0 hn0

theorem ruleOnce_holds : Rows.RuleOnceSaid :=
  OpenClaim.holds_of_wide 8 Try.f8 rfl rfl rfl rfl rfl rfl rfl ⟨rfl, rfl, rfl, rfl, rfl⟩ rfl rfl rfl rfl rfl (by kernel_rfl) Try.func8 (by kernel_rfl)
    (of_decide_eq_true (by kernel_rfl)) (by unfold Func.isWrapper; first | (rw [if_pos (by decide +kernel)]; kernel_rfl) | (rw [if_neg (by decide +kernel)]; exact ⟨rfl, rfl⟩))
    (fun os started H enc _ => ruleOnce_lifted os started H enc)
#print axioms ruleOnce_holds

end Go.Proofs.Ytnceijlphinnhaa
