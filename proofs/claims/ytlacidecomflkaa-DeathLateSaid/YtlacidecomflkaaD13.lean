/- DeathKeeps returns true: for any move and numbers that are data. -/
import Derived.Test.YtlacidecomflkaaD12
import Derived.Test.YtlacidecomflkaaDL1
import Derived.Test.YtlacidecomflkaaRows
import Derived.Test.YtlacidecomflkaaO4
import Derived.Lib.SmallJoins
set_option linter.unusedSimpArgs false
set_option linter.unusedVariables false
namespace Go.Proofs.Ytlacidecomflkaa
open Go.ChangeShapes Go.WideShapes Go.ChangeAt Go.RowKit Go.Joins

attribute [local go_sem] beq_self_eq_true
set_option maxRecDepth 20000 in
set_option maxHeartbeats 4000000 in
theorem keeps_no (m : Mo) (dead pick : Int) (w : World) (h0 : 0 ≤ m.ph) (hB : Hid (deathB m dead pick = false)) (c1 c2 c3 : Bool) (e1 : (m.cur == dead) = c1) (e2 : (m.nxt == dead) = c2) (e3 : (pick == dead) = c3) :
    Calls Try.prog 8 #[mo m.ph m.cur m.nxt m.gen m.tick m.ver, .int .i64 dead, .int .i64 pick] w fun e w' => e = .returned (.bool true) ∧ Ext w w' := by
  have HX := Lib.hid (show (Value.tuple #[(deathM m dead pick).v, .bool (deathB m dead pick)]) = .tuple #[mo m.ph m.cur m.nxt m.gen m.tick m.ver, .bool false] by rw [deathM_no hB.out, hB.out])
  go_enter Try.func8, Try.ntmps8
  go_wp2_with (first | (go_at_call 35; (with_reducible refine (death_any m dead pick _ h0).mono ?_); rw [HX.out]; rintro e w' ⟨rfl, hb⟩; obtain ⟨hc, hf, hl, hz, -⟩ := kept hb; (try simp at hz)) | (go_at_call 36; (with_reducible refine (rright22_any m _ h0).mono ?_); rintro e w' ⟨rfl, hb⟩; obtain ⟨hc, hf, hl, hz, -⟩ := kept hb; (try simp at hz)) | (go_at_call 37; (with_reducible refine (dwakes_any _).mono ?_); rintro e w' ⟨rfl, hb⟩; obtain ⟨hc, hf, hl, hz, -⟩ := kept hb; (try simp at hz)))
  all_goals go_ret
  all_goals refine ⟨?_, ?_⟩
  all_goals first | (guard_target =~ Below _ _ _; (repeat (first | with_reducible exact Ext.rf _ | with_reducible assumption | with_reducible refine Ext.al ?_ _ | with_reducible refine Ext.dr ?_ | with_reducible refine Ext.dn ?_ _ | ((with_reducible refine Ext.st _ ?_ ?_); focus (first | omega | (simp; omega) | simp)) | with_reducible refine Ext.tr ?_ (by assumption) | with_reducible refine Ext.tr ?_ (up_ext (by assumption)) | with_reducible refine Ext.of (by assumption) ?_))) | rfl | (exfalso; have hb := hB.out; unfold deathB ofM at hb; simp_all; done) | (exfalso; have hb := hB.out; unfold deathB ofM at hb; grind)
set_option maxRecDepth 20000 in
set_option maxHeartbeats 4000000 in
theorem keeps_yes (m : Mo) (dead pick : Int) (w : World) (h0 : 0 ≤ m.ph) (x : Mo) (hx0 : 0 ≤ x.ph) (HX : Hid ((Value.tuple #[(deathM m dead pick).v, .bool (deathB m dead pick)]) = .tuple #[mo x.ph x.cur x.nxt x.gen x.tick x.ver, .bool true]))
    (HR : Hid (m.right = true)) (HRX : Hid (x.right = true)) (p1 : (pick == dead) = false) (p2 : decide (-1 ≤ pick) = true) (p3 : decide (pick < 6) = true) (d1 : decide (0 ≤ dead) = true) (d2 : decide (dead < 6) = true)
    (hof : Hid (m.cur = dead ∨ m.nxt = dead)) (x1 : (x.cur == dead) = false) (x2 : (x.nxt == dead) = false) (x3 : (x.tick == m.tick) = true)
    (c0 c1 c2 c3 c4 c5 c6 c7 c8 c9 c10 c11 : Bool) (e0 : (m.cur == dead) = c0) (e1 : (m.nxt == dead) = c1) (e2 : (x.ph == 0) = c2) (e3 : (m.ph == 1) = c3) (e4 : (m.ph == 6) = c4) (e5 : (m.cur == -1) = c5) (e6 : (m.nxt == -1) = c6) (e7 : (x.cur == m.cur) = c7) (e8 : (x.cur == m.nxt) = c8) (e9 : (x.nxt == m.cur) = c9) (e10 : (x.nxt == m.nxt) = c10) (e11 : (x.gen == m.gen) = c11)
    (K1 : Hid (x.ph = 0 → (m.ph = 1 ∨ m.ph = 6 ∨ 2147483628 < m.gen) ∧ x.gen = m.gen))
    (K2 : Hid (x.ph ≠ 0 → m.gen < x.gen ∧ ((if m.cur = dead then m.nxt else m.cur) = -1 ∨ x.cur = (if m.cur = dead then m.nxt else m.cur) ∨ x.nxt = (if m.cur = dead then m.nxt else m.cur)))) :
    Calls Try.prog 8 #[mo m.ph m.cur m.nxt m.gen m.tick m.ver, .int .i64 dead, .int .i64 pick] w fun e w' => e = .returned (.bool true) ∧ Ext w w' := by
  go_enter Try.func8, Try.ntmps8
  go_wp2_with (first | (go_at_call 35; (with_reducible refine (death_any m dead pick _ h0).mono ?_); rw [HX.out]; rintro e w' ⟨rfl, hb⟩; obtain ⟨hc, hf, hl, hz, -⟩ := kept hb; (try simp at hz)) | (go_at_call 36; (with_reducible refine (rright22_any m _ h0).mono ?_); rw [HR.out]; rintro e w' ⟨rfl, hb⟩; obtain ⟨hc, hf, hl, hz, -⟩ := kept hb; (try simp at hz)) | (go_at_call 36; (with_reducible refine (rright22_any x _ hx0).mono ?_); rw [HRX.out]; rintro e w' ⟨rfl, hb⟩; obtain ⟨hc, hf, hl, hz, -⟩ := kept hb; (try simp at hz)) | (go_at_call 37; (with_reducible refine (dwakes_any _).mono ?_); rintro e w' ⟨rfl, hb⟩; obtain ⟨hc, hf, hl, hz, -⟩ := kept hb; (try simp at hz)))
  all_goals go_ret
  all_goals refine ⟨?_, ?_⟩
  all_goals first | (guard_target =~ Below _ _ _; (repeat (first | with_reducible exact Ext.rf _ | with_reducible assumption | with_reducible refine Ext.al ?_ _ | with_reducible refine Ext.dr ?_ | with_reducible refine Ext.dn ?_ _ | ((with_reducible refine Ext.st _ ?_ ?_); focus (first | omega | (simp; omega) | simp)) | with_reducible refine Ext.tr ?_ (by assumption) | with_reducible refine Ext.tr ?_ (up_ext (by assumption)) | with_reducible refine Ext.of (by assumption) ?_))) | rfl | (exfalso; have k0 := hof.out; have k1 := K1.out; have k2 := K2.out; simp_all; done) | (exfalso; have k0 := hof.out; have k1 := K1.out; have k2 := K2.out; simp_all; omega) | (exfalso; have k0 := hof.out; have k1 := K1.out; have k2 := K2.out; grind)

theorem keeps_walk (m : Mo) (dead pick : Int) (w : World) (h0 : 0 ≤ m.ph) :
    Calls Try.prog 8 #[mo m.ph m.cur m.nxt m.gen m.tick m.ver, .int .i64 dead, .int .i64 pick] w fun e w' => e = .returned (.bool true) ∧ Ext w w' := by
  cases hB : deathB m dead pick
  · exact keeps_no m dead pick w h0 (Lib.hid hB) _ _ _ rfl rfl rfl
  · obtain ⟨hr, ⟨d0, d6, hof⟩, hp, p0, p6⟩ := deathB_is.1 hB
    obtain ⟨k1, k2, k3, k4, k5, k6⟩ := keeps_law h0 hB
    exact keeps_yes m dead pick w h0 (deathM m dead pick) (deathM_ph _ _ _ h0) (Lib.hid (by rw [hB])) (Lib.hid hr) (Lib.hid k1) (by rw [beq_eq_false_iff_ne]; exact hp) (decide_eq_true p0) (decide_eq_true p6) (decide_eq_true d0) (decide_eq_true d6)
      (Lib.hid (by rcases hof with h | h; exact .inl h.symm; exact .inr h.symm)) (by rw [beq_eq_false_iff_ne]; exact k2) (by rw [beq_eq_false_iff_ne]; exact k3) (by rw [beq_iff_eq]; exact k4) _ _ _ _ _ _ _ _ _ _ _ _ rfl rfl rfl rfl rfl rfl rfl rfl rfl rfl rfl rfl (Lib.hid k5) (Lib.hid k6)

set_option maxRecDepth 100000 in
theorem deathKeeps_lifted (os : Os) (started : os.Started) (H : Type) (enc : TypeId × Value → H) :
    ReturnsInHanded {} Try.checked os 8 .any (Rows.deathKeepsSpec.pre6 enc Try.prog Try.f8 Rows.deathKeepsRow.domain false) (Rows.deathKeepsSpec.post enc Try.prog Try.f8 false true false false) := by
  refine law_lift 4 ownKn started (by kernel_rfl) Try.func8 (ChangeSpec.witness6 (enc := enc) (C := Try.checked) false ⟨#[], #[.agg #[.int .u8 0, .int .i64 0, .int .i64 0, .int .i64 0, .int .i64 0, .int .i64 0], .int .i64 0, .int .i64 0], []⟩ 8 (by kernel_rfl) (by kernel_rfl) (by kernel_rfl) (by kernel_rfl)) laidOut rfl (by kernel_rfl) Try.underlying4 ?_ (by kernel_rfl) ?_
  · intro ds h
    match ds, h with
    | [d0, d1, d2], _ => rfl
  · intro W base args ds p hval hA hlt
    have hval' : ∀ (j : Nat) t v, Try.f8.params[j]? = some t → args[j]? = some v → Value.okWide Try.prog W .any base t v := hval
    have hA' : DataW.TrodAll enc Try.prog W 0 (fun _ => true) true Try.f8.params.toList args.toList ds p := hA
    rw [Try.params8] at hA' hval'
    obtain ⟨v0, vs0, d0, ds0, p0, q0, hargs, rfl, rfl, h0, r0⟩ := trodAll_cons hA'
    obtain ⟨v1, vs1, d1, ds1, p1, q1, rfl, rfl, rfl, h1, r1⟩ := trodAll_cons r0
    obtain ⟨v2, vs2, d2, ds2, p2, q2, rfl, rfl, rfl, h2, r2⟩ := trodAll_cons r1
    obtain ⟨rfl, rfl, rfl⟩ := trodAll_nil r2
    obtain rfl : args = #[v0, v1, v2] := by cases args; simp_all
    obtain ⟨m, rfl, hph_⟩ := open_move (hval' 0 _ v0 rfl rfl) h0
    obtain ⟨dead, rfl, _, _, w_dead⟩ := open_int Try.underlying3 (hval' 1 _ v1 rfl rfl) h1
    obtain ⟨pick, rfl, _, _, w_pick⟩ := open_int Try.underlying3 (hval' 2 _ v2 rfl rfl) h2
    exact keeps_walk m dead pick W hph_

theorem deathKeeps_holds : Rows.DeathKeepsSaid :=
  OpenClaim.holds_of_wide 8 Try.f8 rfl rfl rfl rfl rfl rfl rfl ⟨rfl, rfl, rfl, rfl, rfl⟩ rfl rfl rfl rfl rfl (by kernel_rfl) Try.func8 (by kernel_rfl)
    (of_decide_eq_true (by kernel_rfl)) (by unfold Func.isWrapper; first | (rw [if_pos (by decide +kernel)]; kernel_rfl) | (rw [if_neg (by decide +kernel)]; exact ⟨rfl, rfl⟩))
    (fun os started H enc _ => deathKeeps_lifted os started H enc)
#print axioms deathKeeps_holds

end Go.Proofs.Ytlacidecomflkaa
