/- ModeTells returns true: for any mode that is data, and any two numbers. -/
import Derived.Test.YtnceijlphinnhaaL1
import Derived.Test.YtnceijlphinnhaaO
import Derived.Test.YtnceijlphinnhaaRows
namespace Go.Proofs.Ytnceijlphinnhaa
open Go.ChangeShapes Go.WideShapes Go.ChangeAt Go.RowKit

set_option maxRecDepth 100000 in
set_option maxHeartbeats 4000000 in
theorem modeTells_walk (m : Md) (gen other : Int) (w : World) (h0 : 0 ≤ m.k) :
    Calls Try.prog 3 #[m.v, .int .i64 gen, .int .i64 other] w fun e w' => e = .returned (.bool true) ∧ Ext w w' := by
  go_enter Try.func3, Try.ntmps3
  go_wp2_with (first | (go_at_call 12; (with_reducible refine (grant_any m _ _ _ h0).mono ?_); rintro e w' ⟨rfl, hb⟩; obtain ⟨hc, hf, hl, hz, -⟩ := kept hb; try simp at hz) | (go_at_call 13; (with_reducible refine (rgrant_any m _ _ _ h0).mono ?_); rintro e w' ⟨rfl, hb⟩; obtain ⟨hc, hf, hl, hz, -⟩ := kept hb; try simp at hz) | (go_at_call 14; (with_reducible refine (drain_any m _ _ _ h0).mono ?_); rintro e w' ⟨rfl, hb⟩; obtain ⟨hc, hf, hl, hz, -⟩ := kept hb; try simp at hz) | (go_at_call 15; (with_reducible refine (rdrain_any m _ _ _ h0).mono ?_); rintro e w' ⟨rfl, hb⟩; obtain ⟨hc, hf, hl, hz, -⟩ := kept hb; try simp at hz) | (go_at_call 16; (with_reducible refine (retire_any m _ _ h0).mono ?_); rintro e w' ⟨rfl, hb⟩; obtain ⟨hc, hf, hl, hz, -⟩ := kept hb; try simp at hz) | (go_at_call 17; (with_reducible refine (rretire_any m _ _ h0).mono ?_); rintro e w' ⟨rfl, hb⟩; obtain ⟨hc, hf, hl, hz, -⟩ := kept hb; try simp at hz) | (go_at_call 18; (with_reducible refine (new_any _).mono ?_); rintro e w' ⟨rfl, hb⟩; obtain ⟨hc, hf, hl, hz, -⟩ := kept hb; try simp at hz) | (go_at_call 19; (with_reducible refine (rnew_any _).mono ?_); rintro e w' ⟨rfl, hb⟩; obtain ⟨hc, hf, hl, hz, -⟩ := kept hb; try simp at hz) | (go_at_call 20; (with_reducible refine (chain_any m _ h0).mono ?_); rintro e w' ⟨rfl, hb⟩; obtain ⟨hc, hf, hl, hz, -⟩ := kept hb; try simp at hz) | (go_at_call 21; (with_reducible refine (rchain_any m _ h0).mono ?_); rintro e w' ⟨rfl, hb⟩; obtain ⟨hc, hf, hl, hz, -⟩ := kept hb; try simp at hz) | (go_at_call 22; (with_reducible refine (probe_any m _ h0).mono ?_); rintro e w' ⟨rfl, hb⟩; obtain ⟨hc, hf, hl, hz, -⟩ := kept hb; try simp at hz) | (go_at_call 23; (with_reducible refine (rprobe_any m _ h0).mono ?_); rintro e w' ⟨rfl, hb⟩; obtain ⟨hc, hf, hl, hz, -⟩ := kept hb; try simp at hz))
  refine wp_named ?_
  intro W hc hf hl hz hW
  go_region_held3 (Up W) (first | exact Up.start _ | exact Up.next (by assumption) (by assumption)) (first | (go_at_call 24; (with_reducible refine (right_md m _ h0).mono ?_); rintro e w' ⟨rfl, hb⟩) | (go_at_call 25; (with_reducible refine (rright_md m _ h0).mono ?_); rintro e w' ⟨rfl, hb⟩) | (go_at_call 26; (with_reducible refine (accepts_any m _ _ h0).mono ?_); rintro e w' ⟨rfl, hb⟩) | (go_at_call 27; (with_reducible refine (raccepts_any m _ _ h0).mono ?_); rintro e w' ⟨rfl, hb⟩) | (go_at_call 28; (with_reducible refine (wakes_any _).mono ?_); rintro e w' ⟨rfl, hb⟩))
  all_goals
    rename_i w' hU
    have hE : Ext w w' := Ext.tr (Ext.of (w := w) hW (by repeat (first | with_reducible exact Ext.rf _ | with_reducible assumption | with_reducible refine Ext.al ?_ _ | with_reducible refine Ext.dr ?_ | ((with_reducible refine Ext.st _ ?_ ?_); focus (first | omega | (simp; omega) | simp)) | with_reducible refine Ext.tr ?_ (by assumption)))) hU.2.2.2.2
    go_wp2
    go_ret
    exact ⟨rfl, hE⟩

set_option maxRecDepth 100000 in
theorem modeTells_lifted (os : Os) (started : os.Started) (H : Type) (enc : TypeId × Value → H) :
    ReturnsInHanded {} Try.checked os 3 .any (Rows.modeTellsSpec.pre6 enc Try.prog Try.f3 Rows.modeTellsRow.domain false) (Rows.modeTellsSpec.post enc Try.prog Try.f3 false true false false) := by
  refine law_lift 4 own started (by kernel_rfl) Try.func3 (ChangeSpec.witness6 (enc := enc) (C := Try.checked) false ⟨#[], #[.agg #[.int .u8 0, .int .i64 0, .int .i64 0, .bool false], .int .i64 0, .int .i64 0], []⟩ 8 (by kernel_rfl) (by kernel_rfl) (by kernel_rfl) (by kernel_rfl)) laidOut rfl (by kernel_rfl) Try.underlying4 ?_ (by kernel_rfl) ?_
  · intro ds h
    match ds, h with
    | [d0, d1, d2], _ => rfl
  · intro W base args ds p hval hA hlt
    have hval' : ∀ (j : Nat) t v, Try.f3.params[j]? = some t → args[j]? = some v → Value.okWide Try.prog W .any base t v := hval
    have hA' : DataW.TrodAll enc Try.prog W 0 (fun _ => true) true Try.f3.params.toList args.toList ds p := hA
    rw [Try.params3] at hA' hval'
    obtain ⟨v0, vs0, d0, ds0, p0, q0, hargs, rfl, rfl, h0, r0⟩ := trodAll_cons hA'
    obtain ⟨v1, vs1, d1, ds1, p1, q1, rfl, rfl, rfl, h1, r1⟩ := trodAll_cons r0
    obtain ⟨v2, vs2, d2, ds2, p2, q2, rfl, rfl, rfl, h2, r2⟩ := trodAll_cons r1
    obtain ⟨rfl, rfl, rfl⟩ := trodAll_nil r2
    obtain rfl : args = #[v0, v1, v2] := by cases args; simp_all
    obtain ⟨m, rfl, hm0, hm1⟩ := open_mode (hval' 0 _ v0 rfl rfl) h0
    obtain ⟨gen, rfl, _, _, w_gen⟩ := open_int Try.underlying3 (hval' 1 _ v1 rfl rfl) h1
    obtain ⟨oth, rfl, _, _, w_oth⟩ := open_int Try.underlying3 (hval' 2 _ v2 rfl rfl) h2
    exact modeTells_walk m gen oth W hm0

theorem modeTells_holds : Rows.ModeTellsSaid :=
  OpenClaim.holds_of_wide 3 Try.f3 rfl rfl rfl rfl rfl rfl rfl ⟨rfl, rfl, rfl, rfl, rfl⟩ rfl rfl rfl rfl rfl (by kernel_rfl) Try.func3 (by kernel_rfl)
    (of_decide_eq_true (by kernel_rfl)) (by unfold Func.isWrapper; first | (rw [if_pos (by decide +kernel)]; kernel_rfl) | (rw [if_neg (by decide +kernel)]; exact ⟨rfl, rfl⟩))
    (fun os started H enc _ => modeTells_lifted os started H enc)
#print axioms modeTells_holds

end Go.Proofs.Ytnceijlphinnhaa
