/- RuleAccepts returns true: for any mode and anything asked that are data. -/
import Derived.Test.YtnceijlphinnhaaR14
set_option linter.unusedSimpArgs false
set_option linter.unusedVariables false
namespace Go.Proofs.Ytnceijlphinnhaa
open Go.ChangeShapes Go.WideShapes Go.ChangeAt Go.RowKit

theorem knownM_or (m : Md) : knownM m = m ∨ knownM m = ⟨0, 0, 0, false⟩ := by
  unfold knownM; split
  · exact .inl rfl
  · exact .inr rfl
/-- What is done is one of four things. -/
theorem ruleA_four (m : Md) (k f g : Int) (s n r : Bool) (hk : 0 ≤ k) :
    (∃ x, ruleA m k f g s n r = ⟨0, x, 0, 0, 0⟩ ∧ 1 ≤ x ∧ x < 19 ∧ (n = true → k = 0 ∨ 6 ≤ k)) ∨
    (ruleA m k f g s n r = ⟨1, 0, 0, 0, 0⟩ ∧ n = true ∧ 1 ≤ k ∧ k < 6) ∨
    (ruleA m k f g s n r = ⟨2, 0, 0, 0, 0⟩ ∧ acceptsM m = true ∧ r = true ∧ s = true ∧ n = false ∧ 1 ≤ k ∧ k < 6 ∧ (m.k = 2 → g = m.g ∧ (k = 4 ∨ k = 5))) ∨
    (∃ kk t gg, ruleA m k f g s n r = ⟨3, 0, kk, t, gg⟩ ∧ n = false ∧ 1 ≤ k ∧ k < 6) := by
  have hM := knownM_or m
  unfold ruleA acceptsM
  generalize knownM m = M at *
  by_cases hk0 : k = 0 ∨ 6 ≤ k
  · rw [if_pos hk0]; exact .inl ⟨13, rfl, by omega, by omega, fun _ => hk0⟩
  rw [if_neg hk0]
  cases n
  case true => exact .inr (.inl ⟨rfl, rfl, by omega, by omega⟩)
  rw [if_neg (by simp)]
  have a1 : 1 ≤ k := by omega
  have a2 : k < 6 := by omega
  unfold ruleT bounceA mineA acceptA acceptC acceptW dropA
  repeat' split
  all_goals first
    | exact .inl ⟨_, rfl, by omega, by omega, fun h => by cases h⟩
    | exact .inr (.inr (.inr ⟨_, _, _, rfl, rfl, a1, a2⟩))
    | (refine .inr (.inr (.inl ⟨rfl, ?_, ?_, ?_, rfl, a1, a2, ?_⟩)) <;> grind)

set_option maxRecDepth 100000 in
set_option maxHeartbeats 4000000 in
theorem ruleAccepts_d0 (m : Md) (f g : Int) (k : Int) (hk : 0 ≤ k) (s r : Bool) (x : Int) (HR : Hid (ruleA m k f g s false r = ⟨0, x, 0, 0, 0⟩)) (x1 : 1 ≤ x) (x2 : x < 19) (w : World) (h0 : 0 ≤ m.k) :
    Calls Try.prog 9 #[m.v, av k f g s false r] w fun e w' => e = .returned (.bool true) ∧ Ext w w' := by
  have xn : (x != 0) = true := by rw [bne_iff_ne]; omega
  have xe : (x == 0) = false := by rw [beq_eq_false_iff_ne]; omega
  go_enter Try.func9, Try.ntmps9
  go_wp2_with (first | (go_at_call 32; (with_reducible refine (rule_any m _ _ _ _ _ _ _ h0 hk).mono ?_); rw [HR.out]; rintro e w' ⟨rfl, hb⟩; obtain ⟨hc, hf, hl, hz, -⟩ := kept hb; try simp at hz) | (go_at_call 34; (with_reducible refine (ruleAccepts_any m _ h0).mono ?_); rintro e w' ⟨rfl, hb⟩; obtain ⟨hc, hf, hl, hz, -⟩ := kept hb; try simp at hz) | (go_at_call 38; (with_reducible refine (rwakes_any _).mono ?_); rintro e w' ⟨rfl, hb⟩; obtain ⟨hc, hf, hl, hz, -⟩ := kept hb; try simp at hz))
  all_goals go_ret
  all_goals refine ⟨ret_bool ?_, ?_⟩
  all_goals first | (guard_target =~ Below _ _ _; (repeat (first | with_reducible exact Ext.rf _ | with_reducible assumption | with_reducible refine Ext.al ?_ _ | with_reducible refine Ext.dr ?_ | with_reducible refine Ext.dn ?_ _ | ((with_reducible refine Ext.st _ ?_ ?_); focus (first | omega | (simp; omega) | simp)) | with_reducible refine Ext.tr ?_ (by assumption) | with_reducible refine Ext.tr ?_ (up_ext (by assumption)) | with_reducible refine Ext.of (by assumption) ?_))) | rfl | grind

set_option maxRecDepth 100000 in
set_option maxHeartbeats 4000000 in
theorem ruleAccepts_d1 (m : Md) (f g : Int) (s r : Bool) (x : Int) (HR : Hid (ruleA m 0 f g s true r = ⟨0, x, 0, 0, 0⟩)) (x1 : 1 ≤ x) (x2 : x < 19) (w : World) (h0 : 0 ≤ m.k) :
    Calls Try.prog 9 #[m.v, av 0 f g s true r] w fun e w' => e = .returned (.bool true) ∧ Ext w w' := by
  have hk : (0 : Int) ≤ 0 := by omega
  have xn : (x != 0) = true := by rw [bne_iff_ne]; omega
  have xe : (x == 0) = false := by rw [beq_eq_false_iff_ne]; omega
  go_enter Try.func9, Try.ntmps9
  go_wp2_with (first | (go_at_call 32; (with_reducible refine (rule_any m _ _ _ _ _ _ _ h0 hk).mono ?_); rw [HR.out]; rintro e w' ⟨rfl, hb⟩; obtain ⟨hc, hf, hl, hz, -⟩ := kept hb; try simp at hz) | (go_at_call 34; (with_reducible refine (ruleAccepts_any m _ h0).mono ?_); rintro e w' ⟨rfl, hb⟩; obtain ⟨hc, hf, hl, hz, -⟩ := kept hb; try simp at hz) | (go_at_call 38; (with_reducible refine (rwakes_any _).mono ?_); rintro e w' ⟨rfl, hb⟩; obtain ⟨hc, hf, hl, hz, -⟩ := kept hb; try simp at hz))
  all_goals go_ret
  all_goals refine ⟨ret_bool ?_, ?_⟩
  all_goals first | (guard_target =~ Below _ _ _; (repeat (first | with_reducible exact Ext.rf _ | with_reducible assumption | with_reducible refine Ext.al ?_ _ | with_reducible refine Ext.dr ?_ | with_reducible refine Ext.dn ?_ _ | ((with_reducible refine Ext.st _ ?_ ?_); focus (first | omega | (simp; omega) | simp)) | with_reducible refine Ext.tr ?_ (by assumption) | with_reducible refine Ext.tr ?_ (up_ext (by assumption)) | with_reducible refine Ext.of (by assumption) ?_))) | rfl | grind

set_option maxRecDepth 100000 in
set_option maxHeartbeats 4000000 in
theorem ruleAccepts_d2 (m : Md) (f g : Int) (k : Int) (k6 : 6 ≤ k) (s r : Bool) (x : Int) (HR : Hid (ruleA m k f g s true r = ⟨0, x, 0, 0, 0⟩)) (x1 : 1 ≤ x) (x2 : x < 19) (w : World) (h0 : 0 ≤ m.k) :
    Calls Try.prog 9 #[m.v, av k f g s true r] w fun e w' => e = .returned (.bool true) ∧ Ext w w' := by
  have hk : (0 : Int) ≤ k := by omega
  have xn : (x != 0) = true := by rw [bne_iff_ne]; omega
  have xe : (x == 0) = false := by rw [beq_eq_false_iff_ne]; omega
  go_enter Try.func9, Try.ntmps9
  go_wp2_with (first | (go_at_call 32; (with_reducible refine (rule_any m _ _ _ _ _ _ _ h0 hk).mono ?_); rw [HR.out]; rintro e w' ⟨rfl, hb⟩; obtain ⟨hc, hf, hl, hz, -⟩ := kept hb; try simp at hz) | (go_at_call 34; (with_reducible refine (ruleAccepts_any m _ h0).mono ?_); rintro e w' ⟨rfl, hb⟩; obtain ⟨hc, hf, hl, hz, -⟩ := kept hb; try simp at hz) | (go_at_call 38; (with_reducible refine (rwakes_any _).mono ?_); rintro e w' ⟨rfl, hb⟩; obtain ⟨hc, hf, hl, hz, -⟩ := kept hb; try simp at hz))
  all_goals go_ret
  all_goals refine ⟨ret_bool ?_, ?_⟩
  all_goals first | (guard_target =~ Below _ _ _; (repeat (first | with_reducible exact Ext.rf _ | with_reducible assumption | with_reducible refine Ext.al ?_ _ | with_reducible refine Ext.dr ?_ | with_reducible refine Ext.dn ?_ _ | ((with_reducible refine Ext.st _ ?_ ?_); focus (first | omega | (simp; omega) | simp)) | with_reducible refine Ext.tr ?_ (by assumption) | with_reducible refine Ext.tr ?_ (up_ext (by assumption)) | with_reducible refine Ext.of (by assumption) ?_))) | rfl | grind

set_option maxRecDepth 100000 in
set_option maxHeartbeats 4000000 in
theorem ruleAccepts_dl (m : Md) (f g : Int) (k : Int) (k1 : 1 ≤ k) (k6 : k < 6) (s r : Bool) (HR : Hid (ruleA m k f g s true r = ⟨1, 0, 0, 0, 0⟩)) (w : World) (h0 : 0 ≤ m.k) :
    Calls Try.prog 9 #[m.v, av k f g s true r] w fun e w' => e = .returned (.bool true) ∧ Ext w w' := by
  have hk : (0 : Int) ≤ k := by omega
  go_enter Try.func9, Try.ntmps9
  go_wp2_with (first | (go_at_call 32; (with_reducible refine (rule_any m _ _ _ _ _ _ _ h0 hk).mono ?_); rw [HR.out]; rintro e w' ⟨rfl, hb⟩; obtain ⟨hc, hf, hl, hz, -⟩ := kept hb; try simp at hz) | (go_at_call 34; (with_reducible refine (ruleAccepts_any m _ h0).mono ?_); rintro e w' ⟨rfl, hb⟩; obtain ⟨hc, hf, hl, hz, -⟩ := kept hb; try simp at hz) | (go_at_call 38; (with_reducible refine (rwakes_any _).mono ?_); rintro e w' ⟨rfl, hb⟩; obtain ⟨hc, hf, hl, hz, -⟩ := kept hb; try simp at hz))
  all_goals go_ret
  all_goals refine ⟨ret_bool ?_, ?_⟩
  all_goals first | (guard_target =~ Below _ _ _; (repeat (first | with_reducible exact Ext.rf _ | with_reducible assumption | with_reducible refine Ext.al ?_ _ | with_reducible refine Ext.dr ?_ | with_reducible refine Ext.dn ?_ _ | ((with_reducible refine Ext.st _ ?_ ?_); focus (first | omega | (simp; omega) | simp)) | with_reducible refine Ext.tr ?_ (by assumption) | with_reducible refine Ext.tr ?_ (up_ext (by assumption)) | with_reducible refine Ext.of (by assumption) ?_))) | rfl | grind

set_option maxRecDepth 100000 in
set_option maxHeartbeats 4000000 in
theorem ruleAccepts_ac (m : Md) (f g : Int) (k : Int) (k1 : 1 ≤ k) (k6 : k < 6) (HR : Hid (ruleA m k f g true false true = ⟨2, 0, 0, 0, 0⟩)) (HA : Hid (acceptsM m = true)) (H2 : Hid (m.k = 2 → g = m.g ∧ (k = 4 ∨ k = 5))) (w : World) (h0 : 0 ≤ m.k) :
    Calls Try.prog 9 #[m.v, av k f g true false true] w fun e w' => e = .returned (.bool true) ∧ Ext w w' := by
  have hk : (0 : Int) ≤ k := by omega
  go_enter Try.func9, Try.ntmps9
  go_wp2_with (first | (go_at_call 32; (with_reducible refine (rule_any m _ _ _ _ _ _ _ h0 hk).mono ?_); rw [HR.out]; rintro e w' ⟨rfl, hb⟩; obtain ⟨hc, hf, hl, hz, -⟩ := kept hb; try simp at hz) | (go_at_call 34; (with_reducible refine (ruleAccepts_any m _ h0).mono ?_); rw [HA.out]; rintro e w' ⟨rfl, hb⟩; obtain ⟨hc, hf, hl, hz, -⟩ := kept hb; try simp at hz) | (go_at_call 38; (with_reducible refine (rwakes_any _).mono ?_); rintro e w' ⟨rfl, hb⟩; obtain ⟨hc, hf, hl, hz, -⟩ := kept hb; try simp at hz))
  all_goals go_ret
  all_goals refine ⟨ret_bool ?_, ?_⟩
  all_goals first | (guard_target =~ Below _ _ _; (repeat (first | with_reducible exact Ext.rf _ | with_reducible assumption | with_reducible refine Ext.al ?_ _ | with_reducible refine Ext.dr ?_ | with_reducible refine Ext.dn ?_ _ | ((with_reducible refine Ext.st _ ?_ ?_); focus (first | omega | (simp; omega) | simp)) | with_reducible refine Ext.tr ?_ (by assumption) | with_reducible refine Ext.tr ?_ (up_ext (by assumption)) | with_reducible refine Ext.of (by assumption) ?_))) | rfl | (have h2 := H2.out; grind)

set_option maxRecDepth 100000 in
set_option maxHeartbeats 4000000 in
theorem ruleAccepts_se (m : Md) (f g : Int) (k : Int) (k1 : 1 ≤ k) (k6 : k < 6) (s r : Bool) (kk t gg : Int) (HR : Hid (ruleA m k f g s false r = ⟨3, 0, kk, t, gg⟩)) (w : World) (h0 : 0 ≤ m.k) :
    Calls Try.prog 9 #[m.v, av k f g s false r] w fun e w' => e = .returned (.bool true) ∧ Ext w w' := by
  have hk : (0 : Int) ≤ k := by omega
  go_enter Try.func9, Try.ntmps9
  go_wp2_with (first | (go_at_call 32; (with_reducible refine (rule_any m _ _ _ _ _ _ _ h0 hk).mono ?_); rw [HR.out]; rintro e w' ⟨rfl, hb⟩; obtain ⟨hc, hf, hl, hz, -⟩ := kept hb; try simp at hz) | (go_at_call 34; (with_reducible refine (ruleAccepts_any m _ h0).mono ?_); rintro e w' ⟨rfl, hb⟩; obtain ⟨hc, hf, hl, hz, -⟩ := kept hb; try simp at hz) | (go_at_call 38; (with_reducible refine (rwakes_any _).mono ?_); rintro e w' ⟨rfl, hb⟩; obtain ⟨hc, hf, hl, hz, -⟩ := kept hb; try simp at hz))
  all_goals go_ret
  all_goals refine ⟨ret_bool ?_, ?_⟩
  all_goals first | (guard_target =~ Below _ _ _; (repeat (first | with_reducible exact Ext.rf _ | with_reducible assumption | with_reducible refine Ext.al ?_ _ | with_reducible refine Ext.dr ?_ | with_reducible refine Ext.dn ?_ _ | ((with_reducible refine Ext.st _ ?_ ?_); focus (first | omega | (simp; omega) | simp)) | with_reducible refine Ext.tr ?_ (by assumption) | with_reducible refine Ext.tr ?_ (up_ext (by assumption)) | with_reducible refine Ext.of (by assumption) ?_))) | rfl | grind

theorem ruleAccepts_walk (m : Md) (k f g : Int) (s n r : Bool) (w : World) (h0 : 0 ≤ m.k) (hk : 0 ≤ k) :
    Calls Try.prog 9 #[m.v, av k f g s n r] w fun e w' => e = .returned (.bool true) ∧ Ext w w' := by
  rcases ruleA_four m k f g s n r hk with ⟨x, hR, x1, x2, hn⟩ | ⟨hR, rfl, k1, k6⟩ | ⟨hR, hA, rfl, rfl, rfl, k1, k6, h2⟩ | ⟨kk, t, gg, hR, rfl, k1, k6⟩
  · cases n
    · exact ruleAccepts_d0 m f g k hk s r x hR x1 x2 w h0
    · rcases hn rfl with rfl | k6
      · exact ruleAccepts_d1 m f g s r x hR x1 x2 w h0
      · exact ruleAccepts_d2 m f g k k6 s r x hR x1 x2 w h0
  · exact ruleAccepts_dl m f g k k1 k6 s r hR w h0
  · exact ruleAccepts_ac m f g k k1 k6 hR hA h2 w h0
  · exact ruleAccepts_se m f g k k1 k6 s r kk t gg hR w h0

set_option maxRecDepth 100000 in
theorem ruleAccepts_lifted (os : Os) (started : os.Started) (H : Type) (enc : TypeId × Value → H) :
    ReturnsInHanded {} Try.checked os 9 .any (Rows.ruleAcceptsSpec.pre6 enc Try.prog Try.f9 Rows.ruleAcceptsRow.domain false) (Rows.ruleAcceptsSpec.post enc Try.prog Try.f9 false true false false) := by
  refine law_lift 4 own started (by kernel_rfl) Try.func9 (ChangeSpec.witness6 (enc := enc) (C := Try.checked) false ⟨#[], #[.agg #[.int .u8 0, .int .i64 0, .int .i64 0, .bool false], .agg #[.int .u8 0, .int .i64 0, .int .i64 0, .bool false, .bool false, .bool false]], []⟩ 8 (by kernel_rfl) (by kernel_rfl) (by kernel_rfl) (by kernel_rfl)) laidOut rfl (by kernel_rfl) Try.underlying4 ?_ (by kernel_rfl) ?_
  · intro ds h
    match ds, h with
    | [d0, d1], _ => rfl
  · intro W base args ds p hval hA hlt
    have hval' : ∀ (j : Nat) t v, Try.f9.params[j]? = some t → args[j]? = some v → Value.okWide Try.prog W .any base t v := hval
    have hA' : DataW.TrodAll enc Try.prog W 0 (fun _ => true) true Try.f9.params.toList args.toList ds p := hA
    rw [Try.params9] at hA' hval'
    obtain ⟨v0, vs0, d0, ds0, p0, q0, hargs, rfl, rfl, h0, r0⟩ := trodAll_cons hA'
    obtain ⟨v1, vs1, d1, ds1, p1, q1, rfl, rfl, rfl, h1, r1⟩ := trodAll_cons r0
    obtain ⟨rfl, rfl, rfl⟩ := trodAll_nil r1
    obtain rfl : args = #[v0, v1] := by cases args; simp_all
    obtain ⟨m, rfl, hm0, hm1⟩ := open_mode (hval' 0 _ v0 rfl rfl) h0
    obtain ⟨k, f, g, s, n, r, rfl, hk0, _⟩ := open_asked (hval' 1 _ v1 rfl rfl) h1
    exact ruleAccepts_walk m k f g s n r W hm0 hk0

theorem ruleAccepts_holds : Rows.RuleAcceptsSaid :=
  OpenClaim.holds_of_wide 9 Try.f9 rfl rfl rfl rfl rfl rfl rfl ⟨rfl, rfl, rfl, rfl, rfl⟩ rfl rfl rfl rfl rfl (by kernel_rfl) Try.func9 (by kernel_rfl)
    (of_decide_eq_true (by kernel_rfl)) (by unfold Func.isWrapper; first | (rw [if_pos (by decide +kernel)]; kernel_rfl) | (rw [if_neg (by decide +kernel)]; exact ⟨rfl, rfl⟩))
    (fun os started H enc _ => ruleAccepts_lifted os started H enc)
#print axioms ruleAccepts_holds

end Go.Proofs.Ytnceijlphinnhaa
