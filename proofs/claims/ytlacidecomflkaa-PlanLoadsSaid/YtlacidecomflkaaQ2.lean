/- PlanRemoves returns true: for any owners, members and one that are data. -/
import Derived.Test.YtlacidecomflkaaPL4
import Derived.Test.YtlacidecomflkaaP22
import Derived.Test.YtlacidecomflkaaQ1
set_option linter.unusedSimpArgs false
set_option linter.unusedVariables false
namespace Go.Proofs.Ytlacidecomflkaa
open Go.ChangeShapes Go.WideShapes Go.ChangeAt Go.RowKit

theorem sl_of_own {w : World} {base : Nat} {v : Value} {ms : List Int} (h : w.ownsRow base 3 1 v ms.length (ms.map (Value.int .i64))) : ∃ p c, v = .slice p ms.length c ∧ ms.length ≤ c ∧ Sl w p ms := by
  rcases sl_own_row h with ⟨h4, rfl⟩ | ⟨g, cap, rfl, h4, h5, _, h7, _, h6⟩
  · exact ⟨none, 0, by rw [h4]; rfl, by rw [h4]; exact Nat.le_refl _, by rw [h4]; exact Sl.nil _ _⟩
  · exact ⟨_, cap, rfl, h7, fun k hk => ⟨g, 0, rfl, h5, by rw [Nat.zero_add, h6 k hk]; simp [hk]⟩⟩
theorem rwithout_cap (p : Option Addr) (ms : List Int) (c : Nat) (who : Int) (w : World) (hs : Sl w p ms) (hlen : ms.length ≤ 1000) :
    Calls Try.prog 34 #[.slice p ms.length c, .int .i64 who] w fun e w' => ∃ p' c', e = .returned (.slice p' (without ms who).length c') ∧ (without ms who).length ≤ c' ∧ Sl w' p' (without ms who) ∧ Ext w w' :=
  (rwithout_any p ms c who w hs hlen).mono fun e w' ⟨v, h1, h2, h3⟩ => by
    obtain ⟨p', c', rfl, h4, h5⟩ := sl_of_own h2
    exact ⟨p', c', h1, h4, h5, h3⟩
theorem PlanSl.er {xs : List Sh} {er r : Int} {w : World} {e : Ending} {w' : World} (h : PlanSl xs er w e w') (he : er = r) : PlanSl xs r w e w' := he ▸ h

set_option maxRecDepth 20000 in
set_option maxHeartbeats 4000000 in
theorem planRemoves_A (o : Nat → Int) (p : Option Addr) (ms : List Int) (c : Nat) (who : Int) (w : World) (HG : Hid (decide (40 < (ms.length : Int)) = true)) :
    Calls Try.prog 5 #[.agg (ov o), .slice p ms.length c, .int .i64 who] w fun e w' => e = .returned (.bool true) ∧ Ext w w' := by
  have hE0 : Ext w (w.alloc (.cells (ov o) 22)) := Ext.al (Ext.rf _) _
  go_enter Try.func5, Try.ntmps5
  go_wp2_with (first | (go_at_call 13; (with_reducible refine (wakes_any _).mono ?_); rintro e w' ⟨rfl, hb⟩) | (go_at_call 12; (with_reducible refine (great_any _ _ _ _).mono ?_); rw [HG.out]; rintro e w' ⟨rfl, rfl⟩))
  all_goals (go_ret; exact ⟨rfl, hE0.tr hb⟩)

set_option maxRecDepth 20000 in
set_option maxHeartbeats 4000000 in
theorem planRemoves_B (o : Nat → Int) (p : Option Addr) (ms : List Int) (c : Nat) (who : Int) (w : World) (HG : Hid (decide (40 < (ms.length : Int)) = false)) (hlen : ms.length ≤ 1000) (hs : Sl w p ms) (hcap : ms.length ≤ c) (HE : Hid (evenP o ms = false)) :
    Calls Try.prog 5 #[.agg (ov o), .slice p ms.length c, .int .i64 who] w fun e w' => e = .returned (.bool true) ∧ Ext w w' := by
  have hE0 : Ext w (w.alloc (.cells (ov o) 22)) := Ext.al (Ext.rf _) _
  go_enter Try.func5, Try.ntmps5
  go_wp2_with (first | (go_at_call 13; (with_reducible refine (wakes_any _).mono ?_); rintro e w' ⟨rfl, hb⟩) | (go_at_call 12; (with_reducible refine (great_any _ _ _ _).mono ?_); rw [HG.out]; rintro e w' ⟨rfl, rfl⟩) | (go_at_call 31; (with_reducible refine (even_any o p ms c _ (hs.ext hE0) hlen hcap).mono ?_); rw [HE.out]; rintro e W1 ⟨rfl, h1⟩))
  all_goals (go_ret; exact ⟨rfl, (hE0.tr h1).tr hb⟩)

set_option maxRecDepth 20000 in
set_option maxHeartbeats 4000000 in
theorem planRemoves_C (o : Nat → Int) (p : Option Addr) (ms : List Int) (c : Nat) (who : Int) (w : World) (HG : Hid (decide (40 < (ms.length : Int)) = false)) (hlen : ms.length ≤ 1000) (hs : Sl w p ms) (hcap : ms.length ≤ c) (HE : Hid (evenP o ms = true)) (HI : Hid (ms.any (who == ·) = false)) :
    Calls Try.prog 5 #[.agg (ov o), .slice p ms.length c, .int .i64 who] w fun e w' => e = .returned (.bool true) ∧ Ext w w' := by
  have hE0 : Ext w (w.alloc (.cells (ov o) 22)) := Ext.al (Ext.rf _) _
  go_enter Try.func5, Try.ntmps5
  go_wp2_with (first | (go_at_call 13; (with_reducible refine (wakes_any _).mono ?_); rintro e w' ⟨rfl, hb⟩) | (go_at_call 12; (with_reducible refine (great_any _ _ _ _).mono ?_); rw [HG.out]; rintro e w' ⟨rfl, rfl⟩) | (go_at_call 31; (with_reducible refine (even_any o p ms c _ (hs.ext hE0) hlen hcap).mono ?_); rw [HE.out]; rintro e W1 ⟨rfl, h1⟩) | (go_at_call 32; (with_reducible refine (rin_any who p ms c _ ((hs.ext hE0).ext h1) hlen).mono ?_); rw [HI.out]; rintro e w' ⟨rfl, rfl⟩))
  all_goals (go_ret; exact ⟨rfl, (hE0.tr h1).tr hb⟩)

set_option maxRecDepth 20000 in
set_option maxHeartbeats 4000000 in
theorem planRemoves_D (o : Nat → Int) (p : Option Addr) (ms : List Int) (c : Nat) (who : Int) (w : World) (HG : Hid (decide (40 < (ms.length : Int)) = false)) (hlen : ms.length ≤ 1000) (hs : Sl w p ms) (hcap : ms.length ≤ c) (HE : Hid (evenP o ms = true)) (HI : Hid (ms.any (who == ·) = true)) (hxl : (remX o ms who).length ≤ 1000) (hwl : (without ms who).length ≤ 1000) (HR : Hid (remE o ms who = 200)) (b0 : (((without ms who).length : Int) == 0) = true) (b1 : (((remX o ms who).length : Int) == 0) = true) :
    Calls Try.prog 5 #[.agg (ov o), .slice p ms.length c, .int .i64 who] w fun e w' => e = .returned (.bool true) ∧ Ext w w' := by
  go_enter Try.func5, Try.ntmps5
  go_upto_region 1 with (fail)
  have e0 : Ext w (w.alloc (.cells (ov o) 22)) := Ext.al (Ext.rf _) _
  have s0 := hs.ext e0
  have r : rowD (w.alloc (.cells (ov o) 22)) w.heap.size = ov o := rowD_new _ _ _ _
  have l : w.heap.size < (w.alloc (.cells (ov o) 22)).heap.size := by simp
  clear hs
  generalize w.alloc (.cells (ov o) 22) = W0 at *
  go_upto_region 3 with (first | (go_at_call 12; (with_reducible refine (great_any _ _ _ _).mono ?_); rw [HG.out]; rintro e w' ⟨rfl, rfl⟩) | (go_at_call 31; (with_reducible refine (even_any o p ms c _ s0 hlen hcap).mono ?_); rw [HE.out]; rintro e W1 ⟨rfl, h1⟩) | (go_at_call 32; (with_reducible refine (rin_any who p ms c _ (s0.ext h1) hlen).mono ?_); rw [HI.out]; rintro e w' ⟨rfl, rfl⟩))
  have e1 := e0.tr h1
  have s0 := s0.ext h1
  have r := row_ext h1 l r
  have l := Nat.lt_of_lt_of_le l h1.size
  clear e0 h1
  go_upto_region 4 with (go_at_call 16; go_must (with_reducible refine ((remove_sl o _ ms _ who _ s0 hlen hcap).mono fun _ _ h => h.er HR.out).mono ?_); rintro e W2 ⟨p2, c2, rfl, -, x2, h2⟩)
  have e2 := e1.tr h2
  have s0 := s0.ext h2
  have r := row_ext h2 l r
  have l := Nat.lt_of_lt_of_le l h2.size
  clear e1 h2
  go_upto_region 5 with (go_at_call 34; go_must (with_reducible refine (rwithout_cap p ms c who _ s0 hlen).mono ?_); rintro e W3 ⟨p3, c3, rfl, h3c, s3, h3⟩)
  have e3 := e2.tr h3
  have s0 := s0.ext h3
  have x2 := x2.ext h3
  have r := row_ext h3 l r
  have l := Nat.lt_of_lt_of_le l h3.size
  clear e2 h3
  go_wp2_with ((go_at_call 13; (with_reducible refine (wakes_any _).mono ?_); rintro e W4 ⟨rfl, h4⟩))
  go_ret
  exact ⟨rfl, e3.tr h4⟩

set_option maxRecDepth 20000 in
set_option maxHeartbeats 4000000 in
theorem planRemoves_E (o : Nat → Int) (p : Option Addr) (ms : List Int) (c : Nat) (who : Int) (w : World) (HG : Hid (decide (40 < (ms.length : Int)) = false)) (hlen : ms.length ≤ 1000) (hs : Sl w p ms) (hcap : ms.length ≤ c) (HE : Hid (evenP o ms = true)) (HI : Hid (ms.any (who == ·) = true)) (hxl : (remX o ms who).length ≤ 1000) (hwl : (without ms who).length ≤ 1000) (HR : Hid (remE o ms who = 0)) (b0 : (((without ms who).length : Int) == 0) = false) (b1 : (((remX o ms who).length : Int) == load o who) = true) (HS : Hid (shiftsP (remX o ms who) (fun i => o i == who) (without ms who) = true)) (HP : Hid (evenP (apply o (remX o ms who)) (without ms who) = true)) :
    Calls Try.prog 5 #[.agg (ov o), .slice p ms.length c, .int .i64 who] w fun e w' => e = .returned (.bool true) ∧ Ext w w' := by
  go_enter Try.func5, Try.ntmps5
  go_upto_region 1 with (fail)
  have e0 : Ext w (w.alloc (.cells (ov o) 22)) := Ext.al (Ext.rf _) _
  have s0 := hs.ext e0
  have r : rowD (w.alloc (.cells (ov o) 22)) w.heap.size = ov o := rowD_new _ _ _ _
  have l : w.heap.size < (w.alloc (.cells (ov o) 22)).heap.size := by simp
  clear hs
  generalize w.alloc (.cells (ov o) 22) = W0 at *
  go_upto_region 3 with (first | (go_at_call 12; (with_reducible refine (great_any _ _ _ _).mono ?_); rw [HG.out]; rintro e w' ⟨rfl, rfl⟩) | (go_at_call 31; (with_reducible refine (even_any o p ms c _ s0 hlen hcap).mono ?_); rw [HE.out]; rintro e W1 ⟨rfl, h1⟩) | (go_at_call 32; (with_reducible refine (rin_any who p ms c _ (s0.ext h1) hlen).mono ?_); rw [HI.out]; rintro e w' ⟨rfl, rfl⟩))
  have e1 := e0.tr h1
  have s0 := s0.ext h1
  have r := row_ext h1 l r
  have l := Nat.lt_of_lt_of_le l h1.size
  clear e0 h1
  go_upto_region 4 with (go_at_call 16; go_must (with_reducible refine ((remove_sl o _ ms _ who _ s0 hlen hcap).mono fun _ _ h => h.er HR.out).mono ?_); rintro e W2 ⟨p2, c2, rfl, -, x2, h2⟩)
  have e2 := e1.tr h2
  have s0 := s0.ext h2
  have r := row_ext h2 l r
  have l := Nat.lt_of_lt_of_le l h2.size
  clear e1 h2
  go_upto_region 5 with (go_at_call 34; go_must (with_reducible refine (rwithout_cap p ms c who _ s0 hlen).mono ?_); rintro e W3 ⟨p3, c3, rfl, h3c, s3, h3⟩)
  have e3 := e2.tr h3
  have s0 := s0.ext h3
  have x2 := x2.ext h3
  have r := row_ext h3 l r
  have l := Nat.lt_of_lt_of_le l h3.size
  clear e2 h3
  clear s0
  have hns : ¬ w.heap.size = W3.heap.size := by omega
  go_wp2
  go_loopw [11] (fun v wr => ∃ k : Nat, k ≤ 16 ∧ v = .int .i64 k ∧ rowD wr W3.heap.size = bv (marks (fun i => o i == who) k) ∧ frzD wr W3.heap.size = (0, 0) ∧ rowD wr w.heap.size = ov o ∧ Lt W3.heap.size wr ∧ Ext W3 wr) (fun v _ => 16 - (intOf v).toNat)
  case atStart => exact ⟨0, Nat.zero_le _, rfl, by simp [go_sem]; rfl, by simp [go_sem], by simp [go_sem, r, hns], by unfold Lt; simp, Ext.al (Ext.rf _) _⟩
  case round =>
    obtain ⟨k, hk, rfl, hB, hZ, hR, hL, hE⟩ := hrel
    by_cases hlt : k < 16
    · have hjl : (k : Int) < 16 := by omega
      have hcb := cell_row (i := k) hB hlt
      have hfr := frozen_of_frz hZ k
      have hco := cell_row (i := k) hR hlt
      have HB := Lib.hid hB
      have HRR := Lib.hid hR
      clear hB hR
      go_wp2
      go_roundw
      case rel =>
        refine ⟨k + 1, by omega, by go_num, ?_, by rw [frzD_setCell]; exact hZ, ?_, by rw [Lt_setCell]; exact hL, Ext.st _ (Nat.le_refl _) hE⟩
        · rw [rowD_setCell, if_pos rfl, HB.out, set_bv]; exact marks_step _ _ _ rfl
        · rw [rowD_setCell, if_neg hns]; exact HRR.out
      case measure => simp [intOf]; omega
    · obtain rfl : k = 16 := by omega
      rw [marks_all] at hB
      have x2 := x2.ext hE
      have s3 := s3.ext hE
      have lw : Lt w.heap.size wr := Nat.lt_of_lt_of_le l hE.size
      clear r hk hlt
      go_wp2_with (first | (go_at_call 26; (with_reducible refine (rload_any o who _).mono ?_); rintro e W5 ⟨rfl, h5⟩; obtain ⟨hc5, hf5, hl5, hz5, -⟩ := kept h5; obtain ⟨hr5, hq5⟩ := keptR h5; (try simp at hz5)) | (go_at_call 33; (with_reducible refine (shifts_any _ _ _ (fun i => o i == who) _ _ _ _ (x2.ext h5) hxl (s3.ext h5) hwl).mono ?_); rw [HS.out]; rintro e W6 ⟨rfl, h6⟩; obtain ⟨hc6, hf6, hl6, hz6, -⟩ := kept h6; obtain ⟨hr6, hq6⟩ := keptR h6; (try simp at hz6)) | (go_at_call 29; (with_reducible refine (apply_any o _ _ _ _ ((x2.ext h5).ext h6) hxl).mono ?_); rintro e W7 ⟨rfl, h7⟩; obtain ⟨hc7, hf7, hl7, hz7, -⟩ := kept h7; obtain ⟨hr7, hq7⟩ := keptR h7; (try simp at hz7)) | (go_at_call 31; (with_reducible refine (even_any _ _ _ _ _ (((s3.ext h5).ext h6).ext h7) hwl h3c).mono ?_); rw [HP.out]; rintro e W8 ⟨rfl, h8⟩; obtain ⟨hc8, hf8, hl8, hz8, -⟩ := kept h8; obtain ⟨hr8, hq8⟩ := keptR h8; (try simp at hz8)) | (go_at_call 13; (with_reducible refine (wakes_any _).mono ?_); rintro e W9 ⟨rfl, h9⟩; obtain ⟨hc9, hf9, hl9, hz9, -⟩ := kept h9; obtain ⟨hr9, hq9⟩ := keptR h9; (try simp at hz9)))
      go_ret
      exact ⟨rfl, ((((((e3.tr hE).tr h5).tr h6).tr h7).tr h8).tr h9)⟩

theorem planRemoves_walk (o : Nat → Int) (p : Option Addr) (ms : List Int) (c : Nat) (who : Int) (w : World) (hs : Sl w p ms) (hcap : ms.length ≤ c) :
    Calls Try.prog 5 #[.agg (ov o), .slice p ms.length c, .int .i64 who] w fun e w' => e = .returned (.bool true) ∧ Ext w w' := by
  by_cases h1 : 40 < (ms.length : Int)
  · exact planRemoves_A o p ms c who w (Lib.hid (decide_eq_true h1))
  have hlen : ms.length ≤ 1000 := by omega
  have HG := Lib.hid (decide_eq_false h1)
  cases he : evenP o ms
  · exact planRemoves_B o p ms c who w HG hlen hs hcap he
  cases hi : ms.any (who == ·)
  · exact planRemoves_C o p ms c who w HG hlen hs hcap he hi
  have hw := (any_iff ms who).1 hi
  have hx : (remX o ms who).length ≤ 1000 := Nat.le_trans (remX_len _ _ _) (by omega)
  have hwl : (without ms who).length ≤ 1000 := Nat.le_trans (without_len _ _) hlen
  by_cases h0 : (without ms who).length = 0
  · obtain ⟨h3, h4⟩ := removes_last o ms who he hw h0
    exact planRemoves_D o p ms c who w HG hlen hs hcap he hi hx hwl h3 (by rw [beq_iff_eq]; omega) (by rw [h4]; rfl)
  · obtain ⟨h3, h4, h5, h6⟩ := removes_law o ms who he hw (by omega)
    exact planRemoves_E o p ms c who w HG hlen hs hcap he hi hx hwl h3 (by rw [beq_eq_false_iff_ne]; omega) (by rw [beq_iff_eq]; exact h4) h5 h6

set_option maxRecDepth 100000 in
theorem planRemoves_lifted (os : Os) (started : os.Started) (H : Type) (enc : TypeId × Value → H) :
    ReturnsInHanded {} Try.checked os 5 .any (Rows.planRemovesSpec.pre6 enc Try.prog Try.f5 Rows.planRemovesRow.domain false) (Rows.planRemovesSpec.post enc Try.prog Try.f5 false true false false) := by
  refine law_lift 4 ownKn started (by kernel_rfl) Try.func5 (ChangeSpec.witness6 (enc := enc) (C := Try.checked) false ⟨#[], #[.agg #[.int .i64 0, .int .i64 0, .int .i64 0, .int .i64 0, .int .i64 0, .int .i64 0, .int .i64 0, .int .i64 0, .int .i64 0, .int .i64 0, .int .i64 0, .int .i64 0, .int .i64 0, .int .i64 0, .int .i64 0, .int .i64 0], .slice none 0 0, .int .i64 0], []⟩ 8 (by kernel_rfl) (by kernel_rfl) (by kernel_rfl) (by kernel_rfl)) laidOut rfl (by kernel_rfl) Try.underlying4 ?_ (by kernel_rfl) ?_
  · intro ds h
    match ds, h with
    | [d0, d1, d2], _ => rfl
  · intro W base args ds p hval hA hlt
    have hval' : ∀ (j : Nat) t v, Try.f5.params[j]? = some t → args[j]? = some v → Value.okWide Try.prog W .any base t v := hval
    have hA' : DataW.TrodAll enc Try.prog W 0 (fun _ => true) true Try.f5.params.toList args.toList ds p := hA
    rw [Try.params5] at hA' hval'
    obtain ⟨v0, vs0, d0, ds0, p0, q0, hargs, rfl, rfl, h0, r0⟩ := trodAll_cons hA'
    obtain ⟨v1, vs1, d1, ds1, p1, q1, rfl, rfl, rfl, h1, r1⟩ := trodAll_cons r0
    obtain ⟨v2, vs2, d2, ds2, p2, q2, rfl, rfl, rfl, h2, r2⟩ := trodAll_cons r1
    obtain ⟨rfl, rfl, rfl⟩ := trodAll_nil r2
    obtain rfl : args = #[v0, v1, v2] := by cases args; simp_all
    obtain ⟨o, rfl⟩ := open_own (hval' 0 _ v0 rfl rfl) h0
    obtain ⟨p_, ms, c_, rfl, hs_, hcap_⟩ := open_mems (hval' 1 _ v1 rfl rfl) h1
    obtain ⟨who, rfl, _, _, w_who⟩ := open_int Try.underlying3 (hval' 2 _ v2 rfl rfl) h2
    exact planRemoves_walk o p_ ms c_ who W hs_ hcap_

theorem planRemoves_holds : Rows.PlanRemovesSaid :=
  OpenClaim.holds_of_wide 5 Try.f5 rfl rfl rfl rfl rfl rfl rfl ⟨rfl, rfl, rfl, rfl, rfl⟩ rfl rfl rfl rfl rfl (by kernel_rfl) Try.func5 (by kernel_rfl)
    (of_decide_eq_true (by kernel_rfl)) (by unfold Func.isWrapper; first | (rw [if_pos (by decide +kernel)]; kernel_rfl) | (rw [if_neg (by decide +kernel)]; exact ⟨rfl, rfl⟩))
    (fun os started H enc _ => planRemoves_lifted os started H enc)
#print axioms planRemoves_holds

end Go.Proofs.Ytlacidecomflkaa
