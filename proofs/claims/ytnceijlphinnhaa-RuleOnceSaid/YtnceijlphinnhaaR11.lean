/- What Accepts and Sends of the package rule return, and those of its reference. -/
import Derived.Test.YtnceijlphinnhaaR10
set_option linter.unusedSimpArgs false
namespace Go.Proofs.Ytnceijlphinnhaa
open Go.RowKit

@[go_sem] theorem field_k (k p g : Int) (r : Bool) (w : World) : (Instr.field 23 (mv k p g r) 0).run Try.prog w = .ok (.int .u8 k) w := by kernel_rfl

def acceptsM (m : Md) : Bool := (knownM m).k == 1 || (knownM m).k == 2

set_option maxHeartbeats 1000000 in
theorem ruleAccepts_any (m : Md) (w : World) (h0 : 0 ≤ m.k) :
    Calls Try.prog 34 #[m.v] w fun e w' => e = .returned (.bool (acceptsM m)) ∧ Ext w w' := by
  go_enter Try.func34, Try.ntmps34
  go_wp2_with ((go_at_call 48; (with_reducible refine (known_any m _ h0).mono ?_); rintro e w' ⟨rfl, hb⟩; obtain ⟨hc, hf, hl, hz, -⟩ := kept hb; try simp at hz))
  all_goals go_ret
  all_goals (refine ⟨ret_bool ?_, ?_⟩)
  all_goals first | (guard_target =~ Below _ _ _; (repeat (first | with_reducible exact Ext.rf _ | with_reducible assumption | with_reducible refine Ext.al ?_ _ | with_reducible refine Ext.dr ?_ | with_reducible refine Ext.dn ?_ _ | ((with_reducible refine Ext.st _ ?_ ?_); focus (first | omega | (simp; omega) | simp)) | with_reducible refine Ext.tr ?_ (by assumption) | with_reducible refine Ext.tr ?_ (up_ext (by assumption)) | with_reducible refine Ext.of (by assumption) ?_))) | rfl | grind [acceptsM]

set_option maxHeartbeats 1000000 in
theorem rruleAccepts_any (m : Md) (w : World) (h0 : 0 ≤ m.k) :
    Calls Try.prog 35 #[m.v] w fun e w' => e = .returned (.bool (acceptsM m)) ∧ Ext w w' := by
  go_enter Try.func35, Try.ntmps35
  go_wp2_with ((go_at_call 47; (with_reducible refine (rknown_any m _ h0).mono ?_); rintro e w' ⟨rfl, hb⟩; obtain ⟨hc, hf, hl, hz, -⟩ := kept hb; try simp at hz))
  all_goals go_ret
  all_goals (refine ⟨ret_bool ?_, ?_⟩)
  all_goals first | (guard_target =~ Below _ _ _; (repeat (first | with_reducible exact Ext.rf _ | with_reducible assumption | with_reducible refine Ext.al ?_ _ | with_reducible refine Ext.dr ?_ | with_reducible refine Ext.dn ?_ _ | ((with_reducible refine Ext.st _ ?_ ?_); focus (first | omega | (simp; omega) | simp)) | with_reducible refine Ext.tr ?_ (by assumption) | with_reducible refine Ext.tr ?_ (up_ext (by assumption)) | with_reducible refine Ext.of (by assumption) ?_))) | rfl | grind [acceptsM]

set_option maxHeartbeats 1000000 in
theorem ruleSends_any (c : Ac) (w : World) :
    Calls Try.prog 36 #[c.v] w fun e w' => e = .returned (.bool (c.d == 3)) ∧ Ext w w' := by
  go_enter Try.func36, Try.ntmps36
  go_wp2_with (fail)
  go_ret
  exact ⟨rfl, by repeat (first | with_reducible exact Ext.rf _ | with_reducible assumption | with_reducible refine Ext.al ?_ _ | with_reducible refine Ext.dr ?_ | with_reducible refine Ext.dn ?_ _ | ((with_reducible refine Ext.st _ ?_ ?_); focus (first | omega | (simp; omega) | simp)) | with_reducible refine Ext.tr ?_ (by assumption) | with_reducible refine Ext.tr ?_ (up_ext (by assumption)) | with_reducible refine Ext.of (by assumption) ?_)⟩

set_option maxHeartbeats 1000000 in
theorem rruleSends_any (c : Ac) (w : World) :
    Calls Try.prog 37 #[c.v] w fun e w' => e = .returned (.bool (c.d == 3)) ∧ Ext w w' := by
  go_enter Try.func37, Try.ntmps37
  go_wp2_with (fail)
  go_ret
  exact ⟨rfl, by repeat (first | with_reducible exact Ext.rf _ | with_reducible assumption | with_reducible refine Ext.al ?_ _ | with_reducible refine Ext.dr ?_ | with_reducible refine Ext.dn ?_ _ | ((with_reducible refine Ext.st _ ?_ ?_); focus (first | omega | (simp; omega) | simp)) | with_reducible refine Ext.tr ?_ (by assumption) | with_reducible refine Ext.tr ?_ (up_ext (by assumption)) | with_reducible refine Ext.of (by assumption) ?_)⟩

end Go.Proofs.Ytnceijlphinnhaa
