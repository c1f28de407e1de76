/- ModeGrants returns true: for any mode that is data, and any three numbers. -/
import Derived.Test.YtnceijlphinnhaaL1
import Derived.Test.YtnceijlphinnhaaO
import Derived.Test.YtnceijlphinnhaaRows
namespace Go.Proofs.Ytnceijlphinnhaa
open Go.ChangeShapes Go.WideShapes Go.ChangeAt Go.RowKit

theorem grantB_iff (m : Md) (gen prev : Int) : grantB m gen prev = true ↔ (m.right = true ∧ m.g < gen ∧ 1 ≤ gen ∧ gen < 2147483648 ∧ -1 ≤ prev ∧ prev < 6) := by
  unfold grantB newerB grantM Md.right
  cases h : rightB m.k m.p m.g m.r
  · simp
  · by_cases hp : prev = -1
    · grind [rightB]
    · grind [rightB]

theorem grant_yes (m : Md) (gen prev : Int) (h : grantB m gen prev = true) : grant m gen prev = grantM gen prev := by unfold grant newer; unfold grantB at h; rw [h]; rfl
theorem grant_no (m : Md) (gen prev : Int) (h : grantB m gen prev = false) : grant m gen prev = m := by unfold grant newer; unfold grantB at h; rw [h]; rfl

theorem grant_k (m : Md) (gen prev : Int) (h0 : 0 ≤ m.k) : 0 ≤ (grant m gen prev).k := by
  cases h : grantB m gen prev
  · rw [grant_no m gen prev h]; exact h0
  · rw [grant_yes m gen prev h]; exact grant1_k gen prev

set_option maxRecDepth 100000 in
set_option maxHeartbeats 4000000 in
theorem modeGrants_no (m : Md) (gen prev oth : Int) (w : World) (h0 : 0 ≤ m.k) (hB : grantB m gen prev = false) :
    Calls Try.prog 6 #[m.v, .int .i64 gen, .int .i64 prev, .int .i64 oth] w fun e w' => e = .returned (.bool true) ∧ Ext w w' := by
  have hk := grant_k m gen prev h0
  have e := grant_no m gen prev hB
  have hx := Lib.hid (grantB_iff m gen prev)
  go_enter Try.func6, Try.ntmps6
  go_wp2_with (first | (go_at_call 12; (with_reducible refine (grant_any m _ _ _ h0).mono ?_); rintro e w' ⟨rfl, hb⟩; obtain ⟨hc, hf, hl, hz, -⟩ := kept hb; try simp at hz) | (go_at_call 25; (with_reducible refine (rright_md m _ h0).mono ?_); rintro e w' ⟨rfl, hb⟩; obtain ⟨hc, hf, hl, hz, -⟩ := kept hb; try simp at hz) | (go_at_call 28; (with_reducible refine (wakes_any _).mono ?_); rintro e w' ⟨rfl, hb⟩; obtain ⟨hc, hf, hl, hz, -⟩ := kept hb; try simp at hz) | (go_at_call 20; (with_reducible refine (chain_any (grant m gen prev) _ hk).mono ?_); rintro e w' ⟨rfl, hb⟩; obtain ⟨hc, hf, hl, hz, -⟩ := kept hb; try simp at hz) | (go_at_call 22; (with_reducible refine (probe_any (grant m gen prev) _ hk).mono ?_); rintro e w' ⟨rfl, hb⟩; obtain ⟨hc, hf, hl, hz, -⟩ := kept hb; try simp at hz) | (go_at_call 26; (with_reducible refine (accepts_any (grant m gen prev) _ _ hk).mono ?_); rintro e w' ⟨rfl, hb⟩; obtain ⟨hc, hf, hl, hz, -⟩ := kept hb; try simp at hz))
  all_goals first
    | (go_ret; exact ⟨rfl, by repeat (first | with_reducible exact Ext.rf _ | with_reducible assumption | with_reducible refine Ext.al ?_ _ | with_reducible refine Ext.dr ?_ | ((with_reducible refine Ext.st _ ?_ ?_); focus (first | omega | (simp; omega) | simp)) | with_reducible refine Ext.tr ?_ (by assumption))⟩)
    | (exfalso; have hy := hx.out; simp only [hB] at hy; grind)

set_option maxRecDepth 100000 in
set_option maxHeartbeats 4000000 in
theorem modeGrants_yes (m : Md) (gen prev oth : Int) (w : World) (h0 : 0 ≤ m.k) (hB : grantB m gen prev = true) :
    Calls Try.prog 6 #[m.v, .int .i64 gen, .int .i64 prev, .int .i64 oth] w fun e w' => e = .returned (.bool true) ∧ Ext w w' := by
  have hk := grant_k m gen prev h0
  have hg := Lib.hid (grant_yes m gen prev hB)
  obtain ⟨q1, q2, q3, q4, q5, q6⟩ := (grantB_iff m gen prev).1 hB
  have hx := Lib.hid (show (grantM gen prev).right = true by unfold grantB newerB at hB; grind)
  have hb := hB
  by_cases hp : prev = -1
  · have a1 : chainB (grant m gen prev) = false := by rw [hg.out]; simp [chainB, grantM, hp]
    have a2 : chainI (grant m gen prev) = -1 := by unfold chainI; rw [a1]; rfl
    have a3 : probeB (grant m gen prev) = false := by rw [hg.out]; simp [probeB, grantM, hp]
    have a4 : probeI (grant m gen prev) = -1 := by unfold probeI; rw [a3]; rfl
    have a5 : acceptsB (grant m gen prev) oth = true := by rw [hg.out]; have := hx.out; simp [acceptsB, this]; simp [grantM, hp]
    have hp' : (prev == -1) = true := by simpa using hp
    clear hp
    go_enter Try.func6, Try.ntmps6
    go_wp2_with (first | (go_at_call 12; (with_reducible refine (grant_any m _ _ _ h0).mono ?_); rintro e w' ⟨rfl, hb⟩; obtain ⟨hc, hf, hl, hz, -⟩ := kept hb; try simp at hz) | (go_at_call 25; (with_reducible refine (rright_md m _ h0).mono ?_); rintro e w' ⟨rfl, hb⟩; obtain ⟨hc, hf, hl, hz, -⟩ := kept hb; try simp at hz) | (go_at_call 28; (with_reducible refine (wakes_any _).mono ?_); rintro e w' ⟨rfl, hb⟩; obtain ⟨hc, hf, hl, hz, -⟩ := kept hb; try simp at hz) | (go_at_call 20; (with_reducible refine (chain_any (grant m gen prev) _ hk).mono ?_); rintro e w' ⟨rfl, hb⟩; obtain ⟨hc, hf, hl, hz, -⟩ := kept hb; try simp at hz) | (go_at_call 22; (with_reducible refine (probe_any (grant m gen prev) _ hk).mono ?_); rintro e w' ⟨rfl, hb⟩; obtain ⟨hc, hf, hl, hz, -⟩ := kept hb; try simp at hz) | (go_at_call 26; (with_reducible refine (accepts_any (grant m gen prev) _ _ hk).mono ?_); rintro e w' ⟨rfl, hb⟩; obtain ⟨hc, hf, hl, hz, -⟩ := kept hb; try simp at hz))
    all_goals (go_ret; exact ⟨rfl, by repeat (first | with_reducible exact Ext.rf _ | with_reducible assumption | with_reducible refine Ext.al ?_ _ | with_reducible refine Ext.dr ?_ | ((with_reducible refine Ext.st _ ?_ ?_); focus (first | omega | (simp; omega) | simp)) | with_reducible refine Ext.tr ?_ (by assumption))⟩)
  · have hp' : (prev == -1) = false := by simpa using hp
    have a1 : chainB (grant m gen prev) = true := by rw [hg.out]; have := hx.out; simp [chainB, this]; simp [grantM, hp]
    have a2 : chainI (grant m gen prev) = prev := by unfold chainI; rw [a1, hg.out]; rfl
    have a3 : probeB (grant m gen prev) = true := by rw [hg.out]; have := hx.out; simp [probeB, this]; simp [grantM, hp]
    have a4 : probeI (grant m gen prev) = prev := by unfold probeI; rw [a3, hg.out]; rfl
    have a5 : acceptsB (grant m gen prev) oth = (oth == gen) := by rw [hg.out]; have := hx.out; simp [acceptsB, this]; simp [grantM, hp]; grind
    clear hp
    go_enter Try.func6, Try.ntmps6
    go_wp2_with (first | (go_at_call 12; (with_reducible refine (grant_any m _ _ _ h0).mono ?_); rintro e w' ⟨rfl, hb⟩; obtain ⟨hc, hf, hl, hz, -⟩ := kept hb; try simp at hz) | (go_at_call 25; (with_reducible refine (rright_md m _ h0).mono ?_); rintro e w' ⟨rfl, hb⟩; obtain ⟨hc, hf, hl, hz, -⟩ := kept hb; try simp at hz) | (go_at_call 28; (with_reducible refine (wakes_any _).mono ?_); rintro e w' ⟨rfl, hb⟩; obtain ⟨hc, hf, hl, hz, -⟩ := kept hb; try simp at hz) | (go_at_call 20; (with_reducible refine (chain_any (grant m gen prev) _ hk).mono ?_); rintro e w' ⟨rfl, hb⟩; obtain ⟨hc, hf, hl, hz, -⟩ := kept hb; try simp at hz) | (go_at_call 22; (with_reducible refine (probe_any (grant m gen prev) _ hk).mono ?_); rintro e w' ⟨rfl, hb⟩; obtain ⟨hc, hf, hl, hz, -⟩ := kept hb; try simp at hz) | (go_at_call 26; (with_reducible refine (accepts_any (grant m gen prev) _ _ hk).mono ?_); rintro e w' ⟨rfl, hb⟩; obtain ⟨hc, hf, hl, hz, -⟩ := kept hb; try simp at hz))
    all_goals (go_ret; exact ⟨rfl, by repeat (first | with_reducible exact Ext.rf _ | with_reducible assumption | with_reducible refine Ext.al ?_ _ | with_reducible refine Ext.dr ?_ | ((with_reducible refine Ext.st _ ?_ ?_); focus (first | omega | (simp; omega) | simp)) | with_reducible refine Ext.tr ?_ (by assumption))⟩)

theorem modeGrants_walk (m : Md) (gen prev oth : Int) (w : World) (h0 : 0 ≤ m.k) :
    Calls Try.prog 6 #[m.v, .int .i64 gen, .int .i64 prev, .int .i64 oth] w fun e w' => e = .returned (.bool true) ∧ Ext w w' := by
  cases hB : grantB m gen prev
  · exact modeGrants_no m gen prev oth w h0 hB
  · exact modeGrants_yes m gen prev oth w h0 hB

set_option maxRecDepth 100000 in
theorem modeGrants_lifted (os : Os) (started : os.Started) (H : Type) (enc : TypeId × Value → H) :
    ReturnsInHanded {} Try.checked os 6 .any (Rows.modeGrantsSpec.pre6 enc Try.prog Try.f6 Rows.modeGrantsRow.domain false) (Rows.modeGrantsSpec.post enc Try.prog Try.f6 false true false false) := by
  refine law_lift 4 own started (by kernel_rfl) Try.func6 (ChangeSpec.witness6 (enc := enc) (C := Try.checked) false ⟨#[], #[.agg #[.int .u8 0, .int .i64 0, .int .i64 0, .bool false], .int .i64 0, .int .i64 0, .int .i64 0], []⟩ 8 (by kernel_rfl) (by kernel_rfl) (by kernel_rfl) (by kernel_rfl)) laidOut rfl (by kernel_rfl) Try.underlying4 ?_ (by kernel_rfl) ?_
  · intro ds h
    match ds, h with
    | [d0, d1, d2, d3], _ => rfl
  · intro W base args ds p hval hA hlt
    have hval' : ∀ (j : Nat) t v, Try.f6.params[j]? = some t → args[j]? = some v → Value.okWide Try.prog W .any base t v := hval
    have hA' : DataW.TrodAll enc Try.prog W 0 (fun _ => true) true Try.f6.params.toList args.toList ds p := hA
    rw [Try.params6] at hA' hval'
    obtain ⟨v0, vs0, d0, ds0, p0, q0, hargs, rfl, rfl, h0, r0⟩ := trodAll_cons hA'
    obtain ⟨v1, vs1, d1, ds1, p1, q1, rfl, rfl, rfl, h1, r1⟩ := trodAll_cons r0
    obtain ⟨v2, vs2, d2, ds2, p2, q2, rfl, rfl, rfl, h2, r2⟩ := trodAll_cons r1
    obtain ⟨v3, vs3, d3, ds3, p3, q3, rfl, rfl, rfl, h3, r3⟩ := trodAll_cons r2
    obtain ⟨rfl, rfl, rfl⟩ := trodAll_nil r3
    obtain rfl : args = #[v0, v1, v2, v3] := by cases args; simp_all
    obtain ⟨m, rfl, hm0, hm1⟩ := open_mode (hval' 0 _ v0 rfl rfl) h0
    obtain ⟨gen, rfl, _, _, w_gen⟩ := open_int Try.underlying3 (hval' 1 _ v1 rfl rfl) h1
    obtain ⟨prv, rfl, _, _, w_prv⟩ := open_int Try.underlying3 (hval' 2 _ v2 rfl rfl) h2
    obtain ⟨oth, rfl, _, _, w_oth⟩ := open_int Try.underlying3 (hval' 3 _ v3 rfl rfl) h3
    exact modeGrants_walk m gen prv oth W hm0

theorem modeGrants_holds : Rows.ModeGrantsSaid :=
  OpenClaim.holds_of_wide 6 Try.f6 rfl rfl rfl rfl rfl rfl rfl ⟨rfl, rfl, rfl, rfl, rfl⟩ rfl rfl rfl rfl rfl (by kernel_rfl) Try.func6 (by kernel_rfl)
    (of_decide_eq_true (by kernel_rfl)) (by unfold Func.isWrapper; first | (rw [if_pos (by decide +kernel)]; kernel_rfl) | (rw [if_neg (by decide +kernel)]; exact ⟨rfl, rfl⟩))
    (fun os started H enc _ => modeGrants_lifted os started H enc)
#print axioms modeGrants_holds

end Go.Proofs.Ytnceijlphinnhaa
