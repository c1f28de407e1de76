/- RuleStill returns true: for any mode, any agent, any generation that are data. -/
import Derived.Test.YtnceijlphinnhaaR15
set_option linter.unusedSimpArgs false
set_option linter.unusedVariables false
namespace Go.Proofs.Ytnceijlphinnhaa
open Go.ChangeShapes Go.WideShapes Go.ChangeAt Go.RowKit

theorem still_cases (m : Md) (f g : Int) (hr : m.right = true) (h0 : 0 ≤ m.k) :
    (acceptsM m = true ∧ ruleA m 3 f g true false true = ⟨0, 17, 0, 0, 0⟩) ∨
    (acceptsM m = false ∧ (m.g ≤ g ∧ 0 ≤ f ∧ f < 6) ∧ ruleA m 3 f g true false true = ⟨3, 0, 4, f, g⟩) ∨
    (acceptsM m = false ∧ ¬ (m.g ≤ g ∧ 0 ≤ f ∧ f < 6) ∧ ruleA m 3 f g true false true = ⟨0, 17, 0, 0, 0⟩) := by
  have hk := known_k m h0
  have hM : knownM m = m := by unfold knownM; rw [if_pos hr]
  rw [hM] at hk
  unfold acceptsM ruleA ruleT bounceA bounceOk dropA
  rw [hM]
  by_cases hb : m.g ≤ g ∧ 0 ≤ f ∧ f < 6
  · rcases hk with hk | hk | hk | hk <;> simp [hk, hb]
  · rcases hk with hk | hk | hk | hk <;> simp [hk] <;> grind

set_option maxRecDepth 100000 in
set_option maxHeartbeats 4000000 in
theorem still_no (m : Md) (f g : Int) (h_m : 0 ≤ m.k) (HM : Hid (m.right = false)) (w : World) :
    Calls Try.prog 10 #[m.v, .int .i64 f, .int .i64 g] w fun e w' => e = .returned (.bool true) ∧ Ext w w' := by
  go_enter Try.func10, Try.ntmps10
  go_wp2_with (first | (go_at_call 25; (with_reducible refine (rright_md m _ h_m).mono ?_); rw [HM.out]; rintro e w' ⟨rfl, hb⟩; obtain ⟨hc, hf, hl, hz, -⟩ := kept hb; try simp at hz) | (go_at_call 38; (with_reducible refine (rwakes_any _).mono ?_); rintro e w' ⟨rfl, hb⟩; obtain ⟨hc, hf, hl, hz, -⟩ := kept hb; try simp at hz))
  all_goals go_ret
  all_goals refine ⟨ret_bool ?_, ?_⟩
  all_goals first | (guard_target =~ Below _ _ _; (repeat (first | with_reducible exact Ext.rf _ | with_reducible assumption | with_reducible refine Ext.al ?_ _ | with_reducible refine Ext.dr ?_ | with_reducible refine Ext.dn ?_ _ | ((with_reducible refine Ext.st _ ?_ ?_); focus (first | omega | (simp; omega) | simp)) | with_reducible refine Ext.tr ?_ (by assumption) | with_reducible refine Ext.tr ?_ (up_ext (by assumption)) | with_reducible refine Ext.of (by assumption) ?_))) | rfl | grind

set_option maxRecDepth 100000 in
set_option maxHeartbeats 4000000 in
theorem still_acc (m : Md) (f g : Int) (h_m : 0 ≤ m.k) (HM : Hid (m.right = true)) (HA : Hid (acceptsM m = true)) (HR : Hid (ruleA m 3 f g true false true = ⟨0, 17, 0, 0, 0⟩)) (w : World) :
    Calls Try.prog 10 #[m.v, .int .i64 f, .int .i64 g] w fun e w' => e = .returned (.bool true) ∧ Ext w w' := by
  go_enter Try.func10, Try.ntmps10
  go_wp2_with (first | (go_at_call 25; (with_reducible refine (rright_md m _ h_m).mono ?_); rw [HM.out]; rintro e w' ⟨rfl, hb⟩; obtain ⟨hc, hf, hl, hz, -⟩ := kept hb; try simp at hz) | (go_at_call 38; (with_reducible refine (rwakes_any _).mono ?_); rintro e w' ⟨rfl, hb⟩; obtain ⟨hc, hf, hl, hz, -⟩ := kept hb; try simp at hz) | (go_at_call 34; (with_reducible refine (ruleAccepts_any m _ h_m).mono ?_); rw [HA.out]; rintro e w' ⟨rfl, hb⟩; obtain ⟨hc, hf, hl, hz, -⟩ := kept hb; try simp at hz) | (go_at_call 32; (with_reducible refine (rule_any m _ _ _ _ _ _ _ h_m (by omega)).mono ?_); rw [HR.out]; rintro e w' ⟨rfl, hb⟩; obtain ⟨hc, hf, hl, hz, -⟩ := kept hb; try simp at hz))
  all_goals go_ret
  all_goals refine ⟨ret_bool ?_, ?_⟩
  all_goals first | (guard_target =~ Below _ _ _; (repeat (first | with_reducible exact Ext.rf _ | with_reducible assumption | with_reducible refine Ext.al ?_ _ | with_reducible refine Ext.dr ?_ | with_reducible refine Ext.dn ?_ _ | ((with_reducible refine Ext.st _ ?_ ?_); focus (first | omega | (simp; omega) | simp)) | with_reducible refine Ext.tr ?_ (by assumption) | with_reducible refine Ext.tr ?_ (up_ext (by assumption)) | with_reducible refine Ext.of (by assumption) ?_))) | rfl | grind

set_option maxRecDepth 100000 in
set_option maxHeartbeats 4000000 in
theorem still_yes (m : Md) (f g : Int) (h_m : 0 ≤ m.k) (HM : Hid (m.right = true)) (HA : Hid (acceptsM m = false)) (b1 : m.g ≤ g) (b2 : 0 ≤ f) (b3 : f < 6) (HR : Hid (ruleA m 3 f g true false true = ⟨3, 0, 4, f, g⟩)) (w : World) :
    Calls Try.prog 10 #[m.v, .int .i64 f, .int .i64 g] w fun e w' => e = .returned (.bool true) ∧ Ext w w' := by
  go_enter Try.func10, Try.ntmps10
  go_wp2_with (first | (go_at_call 25; (with_reducible refine (rright_md m _ h_m).mono ?_); rw [HM.out]; rintro e w' ⟨rfl, hb⟩; obtain ⟨hc, hf, hl, hz, -⟩ := kept hb; try simp at hz) | (go_at_call 38; (with_reducible refine (rwakes_any _).mono ?_); rintro e w' ⟨rfl, hb⟩; obtain ⟨hc, hf, hl, hz, -⟩ := kept hb; try simp at hz) | (go_at_call 34; (with_reducible refine (ruleAccepts_any m _ h_m).mono ?_); rw [HA.out]; rintro e w' ⟨rfl, hb⟩; obtain ⟨hc, hf, hl, hz, -⟩ := kept hb; try simp at hz) | (go_at_call 32; (with_reducible refine (rule_any m _ _ _ _ _ _ _ h_m (by omega)).mono ?_); rw [HR.out]; rintro e w' ⟨rfl, hb⟩; obtain ⟨hc, hf, hl, hz, -⟩ := kept hb; try simp at hz))
  all_goals go_ret
  all_goals refine ⟨ret_bool ?_, ?_⟩
  all_goals first | (guard_target =~ Below _ _ _; (repeat (first | with_reducible exact Ext.rf _ | with_reducible assumption | with_reducible refine Ext.al ?_ _ | with_reducible refine Ext.dr ?_ | with_reducible refine Ext.dn ?_ _ | ((with_reducible refine Ext.st _ ?_ ?_); focus (first | omega | (simp; omega) | simp)) | with_reducible refine Ext.tr ?_ (by assumption) | with_reducible refine Ext.tr ?_ (up_ext (by assumption)) | with_reducible refine Ext.of (by assumption) ?_))) | rfl | grind

set_option maxRecDepth 100000 in
set_option maxHeartbeats 4000000 in
theorem still_late0 (m : Md) (f g : Int) (h_m : 0 ≤ m.k) (HM : Hid (m.right = true)) (HA : Hid (acceptsM m = false)) (b1 : g < m.g) (HR : Hid (ruleA m 3 f g true false true = ⟨0, 17, 0, 0, 0⟩)) (w : World) :
    Calls Try.prog 10 #[m.v, .int .i64 f, .int .i64 g] w fun e w' => e = .returned (.bool true) ∧ Ext w w' := by
  go_enter Try.func10, Try.ntmps10
  go_wp2_with (first | (go_at_call 25; (with_reducible refine (rright_md m _ h_m).mono ?_); rw [HM.out]; rintro e w' ⟨rfl, hb⟩; obtain ⟨hc, hf, hl, hz, -⟩ := kept hb; try simp at hz) | (go_at_call 38; (with_reducible refine (rwakes_any _).mono ?_); rintro e w' ⟨rfl, hb⟩; obtain ⟨hc, hf, hl, hz, -⟩ := kept hb; try simp at hz) | (go_at_call 34; (with_reducible refine (ruleAccepts_any m _ h_m).mono ?_); rw [HA.out]; rintro e w' ⟨rfl, hb⟩; obtain ⟨hc, hf, hl, hz, -⟩ := kept hb; try simp at hz) | (go_at_call 32; (with_reducible refine (rule_any m _ _ _ _ _ _ _ h_m (by omega)).mono ?_); rw [HR.out]; rintro e w' ⟨rfl, hb⟩; obtain ⟨hc, hf, hl, hz, -⟩ := kept hb; try simp at hz))
  all_goals go_ret
  all_goals refine ⟨ret_bool ?_, ?_⟩
  all_goals first | (guard_target =~ Below _ _ _; (repeat (first | with_reducible exact Ext.rf _ | with_reducible assumption | with_reducible refine Ext.al ?_ _ | with_reducible refine Ext.dr ?_ | with_reducible refine Ext.dn ?_ _ | ((with_reducible refine Ext.st _ ?_ ?_); focus (first | omega | (simp; omega) | simp)) | with_reducible refine Ext.tr ?_ (by assumption) | with_reducible refine Ext.tr ?_ (up_ext (by assumption)) | with_reducible refine Ext.of (by assumption) ?_))) | rfl | (exfalso; omega) | grind

set_option maxRecDepth 100000 in
set_option maxHeartbeats 4000000 in
theorem still_late1 (m : Md) (f g : Int) (h_m : 0 ≤ m.k) (HM : Hid (m.right = true)) (HA : Hid (acceptsM m = false)) (b1 : f < 0) (HR : Hid (ruleA m 3 f g true false true = ⟨0, 17, 0, 0, 0⟩)) (w : World) :
    Calls Try.prog 10 #[m.v, .int .i64 f, .int .i64 g] w fun e w' => e = .returned (.bool true) ∧ Ext w w' := by
  go_enter Try.func10, Try.ntmps10
  go_wp2_with (first | (go_at_call 25; (with_reducible refine (rright_md m _ h_m).mono ?_); rw [HM.out]; rintro e w' ⟨rfl, hb⟩; obtain ⟨hc, hf, hl, hz, -⟩ := kept hb; try simp at hz) | (go_at_call 38; (with_reducible refine (rwakes_any _).mono ?_); rintro e w' ⟨rfl, hb⟩; obtain ⟨hc, hf, hl, hz, -⟩ := kept hb; try simp at hz) | (go_at_call 34; (with_reducible refine (ruleAccepts_any m _ h_m).mono ?_); rw [HA.out]; rintro e w' ⟨rfl, hb⟩; obtain ⟨hc, hf, hl, hz, -⟩ := kept hb; try simp at hz) | (go_at_call 32; (with_reducible refine (rule_any m _ _ _ _ _ _ _ h_m (by omega)).mono ?_); rw [HR.out]; rintro e w' ⟨rfl, hb⟩; obtain ⟨hc, hf, hl, hz, -⟩ := kept hb; try simp at hz))
  all_goals go_ret
  all_goals refine ⟨ret_bool ?_, ?_⟩
  all_goals first | (guard_target =~ Below _ _ _; (repeat (first | with_reducible exact Ext.rf _ | with_reducible assumption | with_reducible refine Ext.al ?_ _ | with_reducible refine Ext.dr ?_ | with_reducible refine Ext.dn ?_ _ | ((with_reducible refine Ext.st _ ?_ ?_); focus (first | omega | (simp; omega) | simp)) | with_reducible refine Ext.tr ?_ (by assumption) | with_reducible refine Ext.tr ?_ (up_ext (by assumption)) | with_reducible refine Ext.of (by assumption) ?_))) | rfl | (exfalso; omega) | grind

set_option maxRecDepth 100000 in
set_option maxHeartbeats 4000000 in
theorem still_late2 (m : Md) (f g : Int) (h_m : 0 ≤ m.k) (HM : Hid (m.right = true)) (HA : Hid (acceptsM m = false)) (b1 : 6 ≤ f) (HR : Hid (ruleA m 3 f g true false true = ⟨0, 17, 0, 0, 0⟩)) (w : World) :
    Calls Try.prog 10 #[m.v, .int .i64 f, .int .i64 g] w fun e w' => e = .returned (.bool true) ∧ Ext w w' := by
  go_enter Try.func10, Try.ntmps10
  go_wp2_with (first | (go_at_call 25; (with_reducible refine (rright_md m _ h_m).mono ?_); rw [HM.out]; rintro e w' ⟨rfl, hb⟩; obtain ⟨hc, hf, hl, hz, -⟩ := kept hb; try simp at hz) | (go_at_call 38; (with_reducible refine (rwakes_any _).mono ?_); rintro e w' ⟨rfl, hb⟩; obtain ⟨hc, hf, hl, hz, -⟩ := kept hb; try simp at hz) | (go_at_call 34; (with_reducible refine (ruleAccepts_any m _ h_m).mono ?_); rw [HA.out]; rintro e w' ⟨rfl, hb⟩; obtain ⟨hc, hf, hl, hz, -⟩ := kept hb; try simp at hz) | (go_at_call 32; (with_reducible refine (rule_any m _ _ _ _ _ _ _ h_m (by omega)).mono ?_); rw [HR.out]; rintro e w' ⟨rfl, hb⟩; obtain ⟨hc, hf, hl, hz, -⟩ := kept hb; try simp at hz))
  all_goals go_ret
  all_goals refine ⟨ret_bool ?_, ?_⟩
  all_goals first | (guard_target =~ Below _ _ _; (repeat (first | with_reducible exact Ext.rf _ | with_reducible assumption | with_reducible refine Ext.al ?_ _ | with_reducible refine Ext.dr ?_ | with_reducible refine Ext.dn ?_ _ | ((with_reducible refine Ext.st _ ?_ ?_); focus (first | omega | (simp; omega) | simp)) | with_reducible refine Ext.tr ?_ (by assumption) | with_reducible refine Ext.tr ?_ (up_ext (by assumption)) | with_reducible refine Ext.of (by assumption) ?_))) | rfl | (exfalso; omega) | grind

theorem ruleStill_walk (m : Md) (f g : Int) (w : World) (h0 : 0 ≤ m.k) :
    Calls Try.prog 10 #[m.v, .int .i64 f, .int .i64 g] w fun e w' => e = .returned (.bool true) ∧ Ext w w' := by
  cases hr : m.right
  · exact still_no m f g h0 hr w
  · rcases still_cases m f g hr h0 with ⟨hA, hR⟩ | ⟨hA, ⟨b1, b2, b3⟩, hR⟩ | ⟨hA, hB, hR⟩
    · exact still_acc m f g h0 hr hA hR w
    · exact still_yes m f g h0 hr hA b1 b2 b3 hR w
    · rcases (by omega : g < m.g ∨ f < 0 ∨ 6 ≤ f) with b | b | b
      · exact still_late0 m f g h0 hr hA b hR w
      · exact still_late1 m f g h0 hr hA b hR w
      · exact still_late2 m f g h0 hr hA b hR w

set_option maxRecDepth 100000 in
theorem ruleStill_lifted (os : Os) (started : os.Started) (H : Type) (enc : TypeId × Value → H) :
    ReturnsInHanded {} Try.checked os 10 .any (Rows.ruleStillSpec.pre6 enc Try.prog Try.f10 Rows.ruleStillRow.domain false) (Rows.ruleStillSpec.post enc Try.prog Try.f10 false true false false) := by
  refine law_lift 4 own started (by kernel_rfl) Try.func10 (ChangeSpec.witness6 (enc := enc) (C := Try.checked) false ⟨#[], #[.agg #[.int .u8 0, .int .i64 0, .int .i64 0, .bool false], .int .i64 0, .int .i64 0], []⟩ 8 (by kernel_rfl) (by kernel_rfl) (by kernel_rfl) (by kernel_rfl)) laidOut rfl (by kernel_rfl) Try.underlying4 ?_ (by kernel_rfl) ?_
  · intro ds h
    match ds, h with
    | [d0, d1, d2], _ => rfl
  · intro W base args ds p hval hA hlt
    have hval' : ∀ (j : Nat) t v, Try.f10.params[j]? = some t → args[j]? = some v → Value.okWide Try.prog W .any base t v := hval
    have hA' : DataW.TrodAll enc Try.prog W 0 (fun _ => true) true Try.f10.params.toList args.toList ds p := hA
    rw [Try.params10] at hA' hval'
    obtain ⟨v0, vs0, d0, ds0, p0, q0, hargs, rfl, rfl, h0, r0⟩ := trodAll_cons hA'
    obtain ⟨v1, vs1, d1, ds1, p1, q1, rfl, rfl, rfl, h1, r1⟩ := trodAll_cons r0
    obtain ⟨v2, vs2, d2, ds2, p2, q2, rfl, rfl, rfl, h2, r2⟩ := trodAll_cons r1
    obtain ⟨rfl, rfl, rfl⟩ := trodAll_nil r2
    obtain rfl : args = #[v0, v1, v2] := by cases args; simp_all
    obtain ⟨m, rfl, hm0, hm1⟩ := open_mode (hval' 0 _ v0 rfl rfl) h0
    obtain ⟨f, rfl, _, _, w_f⟩ := open_int Try.underlying3 (hval' 1 _ v1 rfl rfl) h1
    obtain ⟨g, rfl, _, _, w_g⟩ := open_int Try.underlying3 (hval' 2 _ v2 rfl rfl) h2
    exact ruleStill_walk m f g W hm0

theorem ruleStill_holds : Rows.RuleStillSaid :=
  OpenClaim.holds_of_wide 10 Try.f10 rfl rfl rfl rfl rfl rfl rfl ⟨rfl, rfl, rfl, rfl, rfl⟩ rfl rfl rfl rfl rfl (by kernel_rfl) Try.func10 (by kernel_rfl)
    (of_decide_eq_true (by kernel_rfl)) (by unfold Func.isWrapper; first | (rw [if_pos (by decide +kernel)]; kernel_rfl) | (rw [if_neg (by decide +kernel)]; exact ⟨rfl, rfl⟩))
    (fun os started H enc _ => ruleStill_lifted os started H enc)
#print axioms ruleStill_holds

end Go.Proofs.Ytnceijlphinnhaa
