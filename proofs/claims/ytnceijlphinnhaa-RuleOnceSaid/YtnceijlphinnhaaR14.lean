/- RuleTells returns true: for any mode, anything asked, any action that are data. -/
import Derived.Test.YtnceijlphinnhaaR13
import Derived.Test.YtnceijlphinnhaaO2
import Derived.Test.YtnceijlphinnhaaRows
set_option linter.unusedSimpArgs false
namespace Go.Proofs.Ytnceijlphinnhaa
open Go.ChangeShapes Go.WideShapes Go.ChangeAt Go.RowKit

set_option maxRecDepth 100000 in
set_option maxHeartbeats 4000000 in
theorem ruleTells_walk (m : Md) (k f g : Int) (s n r : Bool) (c : Ac) (w : World) (h0 : 0 ≤ m.k) (hk : 0 ≤ k) :
    Calls Try.prog 7 #[m.v, av k f g s n r, c.v] w fun e w' => e = .returned (.bool true) ∧ Ext w w' := by
  go_enter Try.func7, Try.ntmps7
  go_wp2_with (first | (go_at_call 30; (with_reducible refine (words_any m _ h0).mono ?_); rintro e w' ⟨rfl, hb⟩; obtain ⟨hc, hf, hl, hz, -⟩ := kept hb; try simp at hz) | (go_at_call 31; (with_reducible refine (rwords_any m _ h0).mono ?_); rintro e w' ⟨rfl, hb⟩; obtain ⟨hc, hf, hl, hz, -⟩ := kept hb; try simp at hz))
  refine wp_named ?_
  intro W hc hf hl hz hW
  go_region_held3 (Up W) (with_reducible refine up ?_; (repeat (first | with_reducible exact Ext.rf _ | with_reducible exact up_ext (by assumption) | with_reducible refine Ext.al ?_ _ | with_reducible refine Ext.dr ?_ | with_reducible refine Ext.dn ?_ _ | ((with_reducible refine Ext.st _ ?_ ?_); focus (first | omega | (simp; omega) | simp)) | with_reducible refine Ext.tr ?_ (by assumption)))) (first | (go_at_call 32; (with_reducible refine (rule_any m _ _ _ _ _ _ _ h0 hk).mono ?_); rintro e w' ⟨rfl, hb⟩) | (go_at_call 33; (with_reducible refine (rrule_any m _ _ _ _ _ _ _ h0 hk).mono ?_); rintro e w' ⟨rfl, hb⟩) | (go_at_call 34; (with_reducible refine (ruleAccepts_any m _ h0).mono ?_); rintro e w' ⟨rfl, hb⟩) | (go_at_call 35; (with_reducible refine (rruleAccepts_any m _ h0).mono ?_); rintro e w' ⟨rfl, hb⟩) | (go_at_call 36; (with_reducible refine (ruleSends_any c _).mono ?_); rintro e w' ⟨rfl, hb⟩) | (go_at_call 37; (with_reducible refine (rruleSends_any c _).mono ?_); rintro e w' ⟨rfl, hb⟩) | (go_at_call 38; (with_reducible refine (rwakes_any _).mono ?_); rintro e w' ⟨rfl, hb⟩))
  all_goals
    rename_i w' hU
    have hE : Ext w w' := Ext.tr (Ext.of (w := w) hW (by repeat (first | with_reducible exact Ext.rf _ | with_reducible assumption | with_reducible refine Ext.al ?_ _ | with_reducible refine Ext.dr ?_ | with_reducible refine Ext.dn ?_ _ | ((with_reducible refine Ext.st _ ?_ ?_); focus (first | omega | (simp; omega) | simp)) | with_reducible refine Ext.tr ?_ (by assumption) | with_reducible refine Ext.tr ?_ (up_ext (by assumption)) | with_reducible refine Ext.of (by assumption) ?_))) hU.2.2.2.2
    go_wp2
    go_ret
    exact ⟨rfl, hE⟩

set_option maxRecDepth 100000 in
theorem ruleTells_lifted (os : Os) (started : os.Started) (H : Type) (enc : TypeId × Value → H) :
    ReturnsInHanded {} Try.checked os 7 .any (Rows.ruleTellsSpec.pre6 enc Try.prog Try.f7 Rows.ruleTellsRow.domain false) (Rows.ruleTellsSpec.post enc Try.prog Try.f7 false true false false) := by
  refine law_lift 4 own started (by kernel_rfl) Try.func7 (ChangeSpec.witness6 (enc := enc) (C := Try.checked) false ⟨#[], #[.agg #[.int .u8 0, .int .i64 0, .int .i64 0, .bool false], .agg #[.int .u8 0, .int .i64 0, .int .i64 0, .bool false, .bool false, .bool false], .agg #[.int .u8 0, .int .u8 0, .int .u8 0, .int .i64 0, .int .i64 0]], []⟩ 8 (by kernel_rfl) (by kernel_rfl) (by kernel_rfl) (by kernel_rfl)) laidOut rfl (by kernel_rfl) Try.underlying4 ?_ (by kernel_rfl) ?_
  · intro ds h
    match ds, h with
    | [d0, d1, d2], _ => rfl
  · intro W base args ds p hval hA hlt
    have hval' : ∀ (j : Nat) t v, Try.f7.params[j]? = some t → args[j]? = some v → Value.okWide Try.prog W .any base t v := hval
    have hA' : DataW.TrodAll enc Try.prog W 0 (fun _ => true) true Try.f7.params.toList args.toList ds p := hA
    rw [Try.params7] at hA' hval'
    obtain ⟨v0, vs0, d0, ds0, p0, q0, hargs, rfl, rfl, h0, r0⟩ := trodAll_cons hA'
    obtain ⟨v1, vs1, d1, ds1, p1, q1, rfl, rfl, rfl, h1, r1⟩ := trodAll_cons r0
    obtain ⟨v2, vs2, d2, ds2, p2, q2, rfl, rfl, rfl, h2, r2⟩ := trodAll_cons r1
    obtain ⟨rfl, rfl, rfl⟩ := trodAll_nil r2
    obtain rfl : args = #[v0, v1, v2] := by cases args; simp_all
    obtain ⟨m, rfl, hm0, hm1⟩ := open_mode (hval' 0 _ v0 rfl rfl) h0
    obtain ⟨k, f, g, s, n, r, rfl, hk0, _⟩ := open_asked (hval' 1 _ v1 rfl rfl) h1
    obtain ⟨c, rfl⟩ := open_action (hval' 2 _ v2 rfl rfl) h2
    exact ruleTells_walk m k f g s n r c W hm0 hk0

theorem ruleTells_holds : Rows.RuleTellsSaid :=
  OpenClaim.holds_of_wide 7 Try.f7 rfl rfl rfl rfl rfl rfl rfl ⟨rfl, rfl, rfl, rfl, rfl⟩ rfl rfl rfl rfl rfl (by kernel_rfl) Try.func7 (by kernel_rfl)
    (of_decide_eq_true (by kernel_rfl)) (by unfold Func.isWrapper; first | (rw [if_pos (by decide +kernel)]; kernel_rfl) | (rw [if_neg (by decide +kernel)]; exact ⟨rfl, rfl⟩))
    (fun os started H enc _ => ruleTells_lifted os started H enc)
#print axioms ruleTells_holds

end Go.Proofs.Ytnceijlphinnhaa
