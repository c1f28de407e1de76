/- The examples of the chapter on rules hold. -/
import Derived.Test.YtnceijlphinnhaaR12
set_option linter.unusedSimpArgs false
namespace Go.Proofs.Ytnceijlphinnhaa
open Go.RowKit

@[go_sem ↓ high] theorem eq_ac (d x k t g d' x' k' t' g' : Int) (w : World) :
    (binOp .eql 44 (cv d x k t g) (cv d' x' k' t' g')).run Try.prog w = .ok (.bool (d == d' && x == x' && k == k' && t == t' && g == g')) w := by
  go_simp
  by_cases h1 : d = d' <;> by_cases h2 : x = x' <;> by_cases h3 : k = k' <;> by_cases h4 : t = t' <;> by_cases h5 : g = g' <;> simp [*]
set_option maxRecDepth 100000 in
set_option maxHeartbeats 4000000 in
theorem rwakes_any (w : World) :
    Calls Try.prog 38 #[] w fun e w' => e = .returned (.bool true) ∧ Ext w w' := by
  have q0 : ruleA ⟨3, 4, 7, false⟩ 1 (-1) 0 true false true = ⟨3, 0, 5, 4, 7⟩ := by decide
  have q1 : ruleA ⟨2, 2, 7, false⟩ 4 2 5 true false true = ⟨0, 17, 0, 0, 0⟩ := by decide
  have q2 : ruleA ⟨2, 2, 7, false⟩ 4 2 7 true false true = ⟨2, 0, 0, 0, 0⟩ := by decide
  have q3 : ruleA ⟨3, 4, 7, false⟩ 1 0 0 false true false = ⟨1, 0, 0, 0, 0⟩ := by decide
  have q4 : ruleA ⟨3, 4, 7, false⟩ 3 3 8 true false false = ⟨3, 0, 4, 3, 8⟩ := by decide
  have q5 : ruleA ⟨1, -1, 3, false⟩ 4 2 5 true false true = ⟨2, 0, 0, 0, 0⟩ := by decide
  have q6 : ruleA ⟨1, -1, 3, false⟩ 1 0 0 true false false = ⟨0, 18, 0, 0, 0⟩ := by decide
  have q7 : acceptsM ⟨2, 2, 7, false⟩ = true := by decide
  have q8 : acceptsM ⟨1, -1, 3, false⟩ = true := by decide
  have q9 : acceptsM ⟨3, 4, 7, false⟩ = false := by decide
  have q10 : toOf ⟨3, 4, 7, false⟩ false 2 = 4 := by decide
  have q11 : toOf ⟨3, 4, 7, false⟩ true 3 = -1 := by decide
  have q12 : toOf ⟨3, 4, 7, false⟩ true 5 = 4 := by decide
  go_enter Try.func38, Try.ntmps38
  go_wp2_with (first | (go_at_call 32; (with_reducible refine (rule_any ⟨_, _, _, _⟩ _ _ _ _ _ _ _ (by decide) (by decide)).mono ?_); rintro e w' ⟨rfl, hb⟩; obtain ⟨hc, hf, hl, hz, -⟩ := kept hb; try simp at hz) | (go_at_call 34; (with_reducible refine (ruleAccepts_any ⟨_, _, _, _⟩ _ (by decide)).mono ?_); rintro e w' ⟨rfl, hb⟩; obtain ⟨hc, hf, hl, hz, -⟩ := kept hb; try simp at hz) | (go_at_call 36; (with_reducible refine (ruleSends_any ⟨_, _, _, _, _⟩ _).mono ?_); rintro e w' ⟨rfl, hb⟩; obtain ⟨hc, hf, hl, hz, -⟩ := kept hb; try simp at hz) | (go_at_call 30; (with_reducible refine (words_any ⟨_, _, _, _⟩ _ (by decide)).mono ?_); rintro e w' ⟨rfl, hb⟩; obtain ⟨hc, hf, hl, hz, -⟩ := kept hb; try simp at hz))
  go_ret
  exact ⟨rfl, by repeat (first | with_reducible exact Ext.rf _ | with_reducible assumption | with_reducible refine Ext.al ?_ _ | with_reducible refine Ext.dr ?_ | with_reducible refine Ext.dn ?_ _ | ((with_reducible refine Ext.st _ ?_ ?_); focus (first | omega | (simp; omega) | simp)) | with_reducible refine Ext.tr ?_ (by assumption) | with_reducible refine Ext.tr ?_ (up_ext (by assumption)) | with_reducible refine Ext.of (by assumption) ?_)⟩

end Go.Proofs.Ytnceijlphinnhaa
