/- DeathLate returns true: for any move and numbers that are data. -/
import Derived.Test.YtlacidecomflkaaD14
import Derived.Test.YtlacidecomflkaaD13
set_option linter.unusedSimpArgs false
set_option linter.unusedVariables false
namespace Go.Proofs.Ytlacidecomflkaa
open Go.ChangeShapes Go.WideShapes Go.ChangeAt Go.RowKit

attribute [local go_sem] beq_self_eq_true
theorem openM_is {m : Mo} {b : Int} (h : openB m b = true) : m.right = true ∧ (0 ≤ b ∧ b < 16) ∧ (m.ph = 2 ∧ openM m b = ⟨1, 0, m.cur, b, m.gen, m.nxt⟩ ∨ m.ph = 3 ∧ openM m b = ⟨2, 0, m.nxt, b, m.gen, m.cur⟩ ∨ m.ph = 5 ∧ openM m b = ⟨3, 0, m.cur, b, m.gen, 0⟩ ∨ m.ph = 6 ∧ openM m b = ⟨2, 0, m.nxt, b, m.gen, -1⟩) := by
  have hb := h
  unfold openB at hb
  simp only [Bool.and_eq_true, decide_eq_true_eq, Bool.or_eq_true, beq_iff_eq] at hb
  obtain ⟨⟨hr, hbb⟩, hp⟩ := hb
  refine ⟨hr, hbb, ?_⟩
  unfold openM
  rw [if_neg (by rw [h]; decide)]
  rcases hp with ((hp | hp) | hp) | hp
  · exact .inl ⟨hp, by rw [if_pos hp]⟩
  · exact .inr (.inl ⟨hp, by rw [if_neg (by omega), if_pos hp]⟩)
  · exact .inr (.inr (.inl ⟨hp, by rw [if_neg (by omega), if_neg (by omega), if_pos hp]⟩))
  · exact .inr (.inr (.inr ⟨hp, by rw [if_neg (by omega), if_neg (by omega), if_neg (by omega)]⟩))
theorem movesC_of {ag bu ge : Int} (h1 : 0 ≤ ag ∧ ag ≤ 5) (h2 : 0 ≤ bu ∧ bu < 16) (h3 : 0 ≤ ge ∧ ge ≤ 2147483647) : movesC ag bu ge = true := by unfold movesC; simp; omega
theorem cackO (m : Mo) (b : Int) (w : World) (h : openB m b = true) :
    Calls Try.prog 39 #[(openM m b).v] w fun e w' => e = .returned (.tuple #[ct 4 (openM m b).k (openM m b).ag (openM m b).bu (openM m b).ge 0, .bool true]) ∧ Ext w w' := by
  obtain ⟨hr, hb, hp⟩ := openM_is h
  have hc := right_cases hr
  rcases hp with ⟨hp, e⟩ | ⟨hp, e⟩ | ⟨hp, e⟩ | ⟨hp, e⟩ <;> rw [e]
  · exact cack1 m.cur b m.gen m.nxt w (movesC_of (by omega) hb (by omega)) (decide_eq_true (by omega)) (decide_eq_true (by omega)) (by rw [beq_eq_false_iff_ne]; omega)
  · exact cack2 m.nxt b m.gen m.cur w (movesC_of (by omega) hb (by omega)) (decide_eq_true (by omega)) (decide_eq_true (by omega)) (by rw [beq_eq_false_iff_ne]; omega)
  · exact cack3 m.cur b m.gen 0 w (movesC_of (by omega) hb (by omega)) rfl
  · exact cack2 m.nxt b m.gen (-1) w (movesC_of (by omega) hb (by omega)) (by decide) (by decide) (by rw [beq_eq_false_iff_ne]; omega)
theorem open_ge {m : Mo} {b : Int} (h : openB m b = true) : (openM m b).ge = m.gen ∧ m.ph ≠ 0 := by
  obtain ⟨hr, hb, hp⟩ := openM_is h
  rcases hp with ⟨hp, e⟩ | ⟨hp, e⟩ | ⟨hp, e⟩ | ⟨hp, e⟩ <;> rw [e] <;> exact ⟨rfl, by omega⟩
set_option maxHeartbeats 2000000 in
theorem csame_no (k ag bu ge k' ag' bu' ge' : Int) (w : World) (h : (ge == ge') = false) (c1 c2 c3 : Bool) (e1 : (k == k') = c1) (e2 : (ag == ag') = c2) (e3 : (bu == bu') = c3) :
    Calls Try.prog 96 #[ct 4 k ag bu ge 0, ct 4 k' ag' bu' ge' 0] w fun e w' => e = .returned (.bool false) ∧ Ext w w' := by
  go_enter Try.func96, Try.ntmps96
  go_wp2
  all_goals go_ret
  all_goals refine ⟨?_, ?_⟩
  all_goals first | rfl | (guard_target =~ Below _ _ _; (repeat (first | with_reducible exact Ext.rf _ | with_reducible assumption | with_reducible refine Ext.al ?_ _ | with_reducible refine Ext.dr ?_ | with_reducible refine Ext.dn ?_ _ | ((with_reducible refine Ext.st _ ?_ ?_); focus (first | omega | (simp; omega) | simp)) | with_reducible refine Ext.tr ?_ (by assumption) | with_reducible refine Ext.tr ?_ (up_ext (by assumption)) | with_reducible refine Ext.of (by assumption) ?_)))

set_option maxHeartbeats 2000000 in
theorem canswers_no (k ag bu ge : Int) (c : Ct) (w : World) (h : (c.ge == ge) = false) (ha : ∀ W, Calls Try.prog 39 #[ct c.k c.of c.ag c.bu c.ge c.pe] W fun e w' => e = .returned (.tuple #[ct 4 c.k c.ag c.bu c.ge 0, .bool true]) ∧ Ext W w') :
    Calls Try.prog 70 #[ct 4 k ag bu ge 0, ct c.k c.of c.ag c.bu c.ge c.pe] w fun e w' => e = .returned (.bool false) ∧ Ext w w' := by
  have HA := Lib.hid ha
  clear ha
  go_enter Try.func70, Try.ntmps70
  go_wp2_with (first | (go_at_call 39; (with_reducible refine (HA.out _).mono ?_); rintro e w' ⟨rfl, hb⟩; obtain ⟨hc, hf, hl, hz, -⟩ := kept hb; (try simp at hz)) | (go_at_call 96; (with_reducible refine (csame_no _ _ _ _ _ _ _ _ _ h _ _ _ rfl rfl rfl).mono ?_); rintro e w' ⟨rfl, hb⟩; obtain ⟨hc, hf, hl, hz, -⟩ := kept hb; (try simp at hz)))
  all_goals go_ret
  all_goals refine ⟨?_, ?_⟩
  all_goals first | rfl | (guard_target =~ Below _ _ _; (repeat (first | with_reducible exact Ext.rf _ | with_reducible assumption | with_reducible refine Ext.al ?_ _ | with_reducible refine Ext.dr ?_ | with_reducible refine Ext.dn ?_ _ | ((with_reducible refine Ext.st _ ?_ ?_); focus (first | omega | (simp; omega) | simp)) | with_reducible refine Ext.tr ?_ (by assumption) | with_reducible refine Ext.tr ?_ (up_ext (by assumption)) | with_reducible refine Ext.of (by assumption) ?_)))
set_option maxHeartbeats 2000000 in
theorem rack_no (o : Mo) (b k ag bu ge now : Int) (w : World) (h0 : 0 ≤ o.ph) (h : openB o b = true → ge ≠ o.gen) :
    Calls Try.prog 40 #[mo o.ph o.cur o.nxt o.gen o.tick o.ver, .int .i64 b, ct 4 k ag bu ge 0, .int .i64 now] w fun e w' => e = .returned (.tuple #[o.v, .bool false]) ∧ Ext w w' := by
  cases hb : openB o b
  · obtain ⟨c, hc⟩ : ∃ c, openM o b = c := ⟨_, rfl⟩
    have HO := Lib.hid (show (Value.tuple #[(openM o b).v, .bool (openB o b)]) = .tuple #[ct c.k c.of c.ag c.bu c.ge c.pe, .bool false] by rw [hb, hc])
    clear hb hc h
    go_enter Try.func40, Try.ntmps40
    go_wp2_with (go_at_call 38; (with_reducible refine (open_any o b _ h0 _ _ _ _ rfl rfl rfl rfl).mono ?_); rw [HO.out]; rintro e w' ⟨rfl, hb⟩; obtain ⟨hc, hf, hl, hz, -⟩ := kept hb; (try simp at hz))
    refine bodyPost_ret (v := .tuple #[o.v, .bool false]) (by simp [results, Try.results40, go_sem, *]) rfl ⟨rfl, ?_⟩
    (repeat (first | with_reducible exact Ext.rf _ | with_reducible assumption | with_reducible refine Ext.al ?_ _ | with_reducible refine Ext.dr ?_ | with_reducible refine Ext.dn ?_ _ | ((with_reducible refine Ext.st _ ?_ ?_); focus (first | omega | (simp; omega) | simp)) | with_reducible refine Ext.tr ?_ (by assumption) | with_reducible refine Ext.tr ?_ (up_ext (by assumption)) | with_reducible refine Ext.of (by assumption) ?_))
  · have hg := (open_ge hb).1
    have hn := h hb
    have ha := fun W => cackO o b W hb
    obtain ⟨c, hc⟩ : ∃ c, openM o b = c := ⟨_, rfl⟩
    have HO := Lib.hid (show (Value.tuple #[(openM o b).v, .bool (openB o b)]) = .tuple #[ct c.k c.of c.ag c.bu c.ge c.pe, .bool true] by rw [hb, hc])
    rw [hc] at hg ha
    have hq : (c.ge == ge) = false := by rw [beq_eq_false_iff_ne]; omega
    have HA := Lib.hid ha
    clear hb hc h hg hn ha
    go_enter Try.func40, Try.ntmps40
    go_wp2_with (first | (go_at_call 38; (with_reducible refine (open_any o b _ h0 _ _ _ _ rfl rfl rfl rfl).mono ?_); rw [HO.out]; rintro e w' ⟨rfl, hb⟩; obtain ⟨hc, hf, hl, hz, -⟩ := kept hb; (try simp at hz)) | (go_at_call 70; (with_reducible refine (canswers_no _ _ _ _ c _ hq HA.out).mono ?_); rintro e w' ⟨rfl, hb⟩; obtain ⟨hc, hf, hl, hz, -⟩ := kept hb; (try simp at hz)))
    refine bodyPost_ret (v := .tuple #[o.v, .bool false]) (by simp [results, Try.results40, go_sem, *]) rfl ⟨rfl, ?_⟩
    (repeat (first | with_reducible exact Ext.rf _ | with_reducible assumption | with_reducible refine Ext.al ?_ _ | with_reducible refine Ext.dr ?_ | with_reducible refine Ext.dn ?_ _ | ((with_reducible refine Ext.st _ ?_ ?_); focus (first | omega | (simp; omega) | simp)) | with_reducible refine Ext.tr ?_ (by assumption) | with_reducible refine Ext.tr ?_ (up_ext (by assumption)) | with_reducible refine Ext.of (by assumption) ?_))
set_option maxRecDepth 20000 in
set_option maxHeartbeats 4000000 in
theorem late_a (m : Mo) (dead pick bucket now : Int) (w : World) (h0 : 0 ≤ m.ph) (c : Ct) (HO : Hid ((Value.tuple #[(openM m bucket).v, .bool (openB m bucket)]) = .tuple #[ct c.k c.of c.ag c.bu c.ge c.pe, .bool false])) (x : Mo) (D : Bool) (HX : Hid ((Value.tuple #[(deathM m dead pick).v, .bool (deathB m dead pick)]) = .tuple #[mo x.ph x.cur x.nxt x.gen x.tick x.ver, .bool D])) :
    Calls Try.prog 9 #[mo m.ph m.cur m.nxt m.gen m.tick m.ver, .int .i64 dead, .int .i64 pick, .int .i64 bucket, .int .i64 now] w fun e w' => e = .returned (.bool true) ∧ Ext w w' := by
  go_enter Try.func9, Try.ntmps9
  go_wp2_with (first | (go_at_call 38; (with_reducible refine (open_any m bucket _ h0 _ _ _ _ rfl rfl rfl rfl).mono ?_); rw [HO.out]; rintro e w' ⟨rfl, hb⟩; obtain ⟨hc, hf, hl, hz, -⟩ := kept hb; (try simp at hz)) | (go_at_call 35; (with_reducible refine (death_any m dead pick _ h0).mono ?_); rw [HX.out]; rintro e w' ⟨rfl, hb⟩; obtain ⟨hc, hf, hl, hz, -⟩ := kept hb; (try simp at hz)) | (go_at_call 37; (with_reducible refine (dwakes_any _).mono ?_); rintro e w' ⟨rfl, hb⟩; obtain ⟨hc, hf, hl, hz, -⟩ := kept hb; (try simp at hz)))
  all_goals go_ret
  all_goals refine ⟨?_, ?_⟩
  all_goals first | rfl | (guard_target =~ Below _ _ _; (repeat (first | with_reducible exact Ext.rf _ | with_reducible assumption | with_reducible refine Ext.al ?_ _ | with_reducible refine Ext.dr ?_ | with_reducible refine Ext.dn ?_ _ | ((with_reducible refine Ext.st _ ?_ ?_); focus (first | omega | (simp; omega) | simp)) | with_reducible refine Ext.tr ?_ (by assumption) | with_reducible refine Ext.tr ?_ (up_ext (by assumption)) | with_reducible refine Ext.of (by assumption) ?_)))
set_option maxRecDepth 20000 in
set_option maxHeartbeats 4000000 in
theorem late_b (m : Mo) (dead pick bucket now : Int) (w : World) (h0 : 0 ≤ m.ph) (c : Ct) (HO : Hid ((Value.tuple #[(openM m bucket).v, .bool (openB m bucket)]) = .tuple #[ct c.k c.of c.ag c.bu c.ge c.pe, .bool true])) (x : Mo) (HX : Hid ((Value.tuple #[(deathM m dead pick).v, .bool (deathB m dead pick)]) = .tuple #[mo x.ph x.cur x.nxt x.gen x.tick x.ver, .bool false])) :
    Calls Try.prog 9 #[mo m.ph m.cur m.nxt m.gen m.tick m.ver, .int .i64 dead, .int .i64 pick, .int .i64 bucket, .int .i64 now] w fun e w' => e = .returned (.bool true) ∧ Ext w w' := by
  go_enter Try.func9, Try.ntmps9
  go_wp2_with (first | (go_at_call 38; (with_reducible refine (open_any m bucket _ h0 _ _ _ _ rfl rfl rfl rfl).mono ?_); rw [HO.out]; rintro e w' ⟨rfl, hb⟩; obtain ⟨hc, hf, hl, hz, -⟩ := kept hb; (try simp at hz)) | (go_at_call 35; (with_reducible refine (death_any m dead pick _ h0).mono ?_); rw [HX.out]; rintro e w' ⟨rfl, hb⟩; obtain ⟨hc, hf, hl, hz, -⟩ := kept hb; (try simp at hz)) | (go_at_call 37; (with_reducible refine (dwakes_any _).mono ?_); rintro e w' ⟨rfl, hb⟩; obtain ⟨hc, hf, hl, hz, -⟩ := kept hb; (try simp at hz)))
  all_goals go_ret
  all_goals refine ⟨?_, ?_⟩
  all_goals first | rfl | (guard_target =~ Below _ _ _; (repeat (first | with_reducible exact Ext.rf _ | with_reducible assumption | with_reducible refine Ext.al ?_ _ | with_reducible refine Ext.dr ?_ | with_reducible refine Ext.dn ?_ _ | ((with_reducible refine Ext.st _ ?_ ?_); focus (first | omega | (simp; omega) | simp)) | with_reducible refine Ext.tr ?_ (by assumption) | with_reducible refine Ext.tr ?_ (up_ext (by assumption)) | with_reducible refine Ext.of (by assumption) ?_)))
set_option maxRecDepth 20000 in
set_option maxHeartbeats 4000000 in
theorem late_c (m : Mo) (dead pick bucket now : Int) (w : World) (h0 : 0 ≤ m.ph) (c : Ct) (HO : Hid ((Value.tuple #[(openM m bucket).v, .bool (openB m bucket)]) = .tuple #[ct c.k c.of c.ag c.bu c.ge c.pe, .bool true])) (x : Mo) (hx0 : 0 ≤ x.ph) (HX : Hid ((Value.tuple #[(deathM m dead pick).v, .bool (deathB m dead pick)]) = .tuple #[mo x.ph x.cur x.nxt x.gen x.tick x.ver, .bool true]))
    (HA : Hid (∀ W, Calls Try.prog 39 #[ct c.k c.of c.ag c.bu c.ge c.pe] W fun e w' => e = .returned (.tuple #[ct 4 c.k c.ag c.bu c.ge 0, .bool true]) ∧ Ext W w')) (HN : Hid (openB x bucket = true → c.ge ≠ x.gen)) :
    Calls Try.prog 9 #[mo m.ph m.cur m.nxt m.gen m.tick m.ver, .int .i64 dead, .int .i64 pick, .int .i64 bucket, .int .i64 now] w fun e w' => e = .returned (.bool true) ∧ Ext w w' := by
  go_enter Try.func9, Try.ntmps9
  go_wp2_with (first | (go_at_call 38; (with_reducible refine (open_any m bucket _ h0 _ _ _ _ rfl rfl rfl rfl).mono ?_); rw [HO.out]; rintro e w' ⟨rfl, hb⟩; obtain ⟨hc, hf, hl, hz, -⟩ := kept hb; (try simp at hz)) | (go_at_call 35; (with_reducible refine (death_any m dead pick _ h0).mono ?_); rw [HX.out]; rintro e w' ⟨rfl, hb⟩; obtain ⟨hc, hf, hl, hz, -⟩ := kept hb; (try simp at hz)) | (go_at_call 39; (with_reducible refine (HA.out _).mono ?_); rintro e w' ⟨rfl, hb⟩; obtain ⟨hc, hf, hl, hz, -⟩ := kept hb; (try simp at hz)) | (go_at_call 40; (with_reducible refine (rack_no x bucket _ _ _ _ now _ hx0 HN.out).mono ?_); rintro e w' ⟨rfl, hb⟩; obtain ⟨hc, hf, hl, hz, -⟩ := kept hb; (try simp at hz)) | (go_at_call 37; (with_reducible refine (dwakes_any _).mono ?_); rintro e w' ⟨rfl, hb⟩; obtain ⟨hc, hf, hl, hz, -⟩ := kept hb; (try simp at hz)))
  all_goals go_ret
  all_goals refine ⟨?_, ?_⟩
  all_goals first | rfl | (guard_target =~ Below _ _ _; (repeat (first | with_reducible exact Ext.rf _ | with_reducible assumption | with_reducible refine Ext.al ?_ _ | with_reducible refine Ext.dr ?_ | with_reducible refine Ext.dn ?_ _ | ((with_reducible refine Ext.st _ ?_ ?_); focus (first | omega | (simp; omega) | simp)) | with_reducible refine Ext.tr ?_ (by assumption) | with_reducible refine Ext.tr ?_ (up_ext (by assumption)) | with_reducible refine Ext.of (by assumption) ?_)))
theorem late_walk (m : Mo) (dead pick bucket now : Int) (w : World) (h0 : 0 ≤ m.ph) :
    Calls Try.prog 9 #[mo m.ph m.cur m.nxt m.gen m.tick m.ver, .int .i64 dead, .int .i64 pick, .int .i64 bucket, .int .i64 now] w fun e w' => e = .returned (.bool true) ∧ Ext w w' := by
  cases hb : openB m bucket
  · exact late_a m dead pick bucket now w h0 (openM m bucket) (Lib.hid (by rw [hb])) (deathM m dead pick) (deathB m dead pick) (Lib.hid rfl)
  · cases hd : deathB m dead pick
    · exact late_b m dead pick bucket now w h0 (openM m bucket) (Lib.hid (by rw [hb])) (deathM m dead pick) (Lib.hid (by rw [hd]))
    · refine late_c m dead pick bucket now w h0 (openM m bucket) (Lib.hid (by rw [hb])) (deathM m dead pick) (deathM_ph _ _ _ h0) (Lib.hid (by rw [hd])) (Lib.hid fun W => cackO m bucket W hb) (Lib.hid fun ho => ?_)
      have h1 := (open_ge ho).2
      have h2 := (open_ge hb).1
      have h3 := ((keeps_law h0 hd).2.2.2.2.2 h1).1
      omega

set_option maxRecDepth 100000 in
theorem deathLate_lifted (os : Os) (started : os.Started) (H : Type) (enc : TypeId × Value → H) :
    ReturnsInHanded {} Try.checked os 9 .any (Rows.deathLateSpec.pre6 enc Try.prog Try.f9 Rows.deathLateRow.domain false) (Rows.deathLateSpec.post enc Try.prog Try.f9 false true false false) := by
  refine law_lift 4 ownKn started (by kernel_rfl) Try.func9 (ChangeSpec.witness6 (enc := enc) (C := Try.checked) false ⟨#[], #[.agg #[.int .u8 0, .int .i64 0, .int .i64 0, .int .i64 0, .int .i64 0, .int .i64 0], .int .i64 0, .int .i64 0, .int .i64 0, .int .i64 0], []⟩ 8 (by kernel_rfl) (by kernel_rfl) (by kernel_rfl) (by kernel_rfl)) laidOut rfl (by kernel_rfl) Try.underlying4 ?_ (by kernel_rfl) ?_
  · intro ds h
    match ds, h with
    | [d0, d1, d2, d3, d4], _ => rfl
  · intro W base args ds p hval hA hlt
    have hval' : ∀ (j : Nat) t v, Try.f9.params[j]? = some t → args[j]? = some v → Value.okWide Try.prog W .any base t v := hval
    have hA' : DataW.TrodAll enc Try.prog W 0 (fun _ => true) true Try.f9.params.toList args.toList ds p := hA
    rw [Try.params9] at hA' hval'
    obtain ⟨v0, vs0, d0, ds0, p0, q0, hargs, rfl, rfl, h0, r0⟩ := trodAll_cons hA'
    obtain ⟨v1, vs1, d1, ds1, p1, q1, rfl, rfl, rfl, h1, r1⟩ := trodAll_cons r0
    obtain ⟨v2, vs2, d2, ds2, p2, q2, rfl, rfl, rfl, h2, r2⟩ := trodAll_cons r1
    obtain ⟨v3, vs3, d3, ds3, p3, q3, rfl, rfl, rfl, h3, r3⟩ := trodAll_cons r2
    obtain ⟨v4, vs4, d4, ds4, p4, q4, rfl, rfl, rfl, h4, r4⟩ := trodAll_cons r3
    obtain ⟨rfl, rfl, rfl⟩ := trodAll_nil r4
    obtain rfl : args = #[v0, v1, v2, v3, v4] := by cases args; simp_all
    obtain ⟨m, rfl, hph_⟩ := open_move (hval' 0 _ v0 rfl rfl) h0
    obtain ⟨dead, rfl, _, _, w_dead⟩ := open_int Try.underlying3 (hval' 1 _ v1 rfl rfl) h1
    obtain ⟨pick, rfl, _, _, w_pick⟩ := open_int Try.underlying3 (hval' 2 _ v2 rfl rfl) h2
    obtain ⟨bucket, rfl, _, _, w_bucket⟩ := open_int Try.underlying3 (hval' 3 _ v3 rfl rfl) h3
    obtain ⟨now, rfl, _, _, w_now⟩ := open_int Try.underlying3 (hval' 4 _ v4 rfl rfl) h4
    exact late_walk m dead pick bucket now W hph_

theorem deathLate_holds : Rows.DeathLateSaid :=
  OpenClaim.holds_of_wide 9 Try.f9 rfl rfl rfl rfl rfl rfl rfl ⟨rfl, rfl, rfl, rfl, rfl⟩ rfl rfl rfl rfl rfl (by kernel_rfl) Try.func9 (by kernel_rfl)
    (of_decide_eq_true (by kernel_rfl)) (by unfold Func.isWrapper; first | (rw [if_pos (by decide +kernel)]; kernel_rfl) | (rw [if_neg (by decide +kernel)]; exact ⟨rfl, rfl⟩))
    (fun os started H enc _ => deathLate_lifted os started H enc)
#print axioms deathLate_holds

end Go.Proofs.Ytlacidecomflkaa
