/- PlanTells returns true: for any owners, members, one and shifts that are data. -/
import Derived.Test.YtlacidecomflkaaP22
import Derived.Test.YtlacidecomflkaaO3
import Derived.Test.YtlacidecomflkaaRows
set_option linter.unusedSimpArgs false
set_option linter.unusedVariables false
namespace Go.Proofs.Ytlacidecomflkaa
open Go.ChangeShapes Go.WideShapes Go.ChangeAt Go.RowKit

attribute [local go_sem] beq_self_eq_true
theorem eqO_self (a : Nat → Int) : eqO a a = true := (eqO_iff a a).2 fun _ _ => rfl
attribute [local go_sem] eqO_self
theorem same_self (p q : Option Addr) (xs : List Sh) (c d : Nat) (w : World) (h1 : SlS w p xs) (h2 : SlS w q xs) (l1 : xs.length ≤ 1000) :
    Calls Try.prog 22 #[.slice p xs.length c, .slice q xs.length d] w fun e w' => e = .returned (.bool true) ∧ Ext w w' := by
  have := same_any p q xs xs c d w h1 h2 l1 l1
  rwa [sameP_refl] at this
theorem addX_len (o : Nat → Int) (ms : List Int) (who : Int) : (addX o ms who).length ≤ 16 := by
  unfold addX
  split
  · rename_i h
    refine addP_len o ms who fun hm => ?_
    have ha : ms.any (who == ·) = true := List.any_eq_true.2 ⟨who, hm, by simp⟩
    unfold addE at h
    rw [ha] at h
    simp at h
    split at h <;> simp at h
  · simp
theorem remX_len (o : Nat → Int) (ms : List Int) (who : Int) : (remX o ms who).length ≤ 16 := by
  unfold remX
  split
  · rw [moveP_len]; exact moveN_le _ _
  · simp
theorem fillX_len (o : Nat → Int) (ms : List Int) : (fillX o ms).length ≤ 16 := by
  unfold fillX
  split
  · rw [moveP_len]; exact moveN_le _ _
  · simp

set_option maxRecDepth 20000 in
set_option maxHeartbeats 4000000 in
theorem planTells_A (o : Nat → Int) (p : Option Addr) (ms : List Int) (c : Nat) (who : Int) (q : Option Addr) (xs : List Sh) (d : Nat) (w : World) (HG : Hid (decide (40 < (ms.length : Int)) = true)) :
    Calls Try.prog 3 #[.agg (ov o), .slice p ms.length c, .int .i64 who, .slice q xs.length d] w fun e w' => e = .returned (.bool true) ∧ Ext w w' := by
  have hE0 : Ext w (w.alloc (.cells (ov o) 22)) := Ext.al (Ext.rf _) _
  go_enter Try.func3, Try.ntmps3
  go_wp2_with (first | (go_at_call 13; (with_reducible refine (wakes_any _).mono ?_); rintro e w' ⟨rfl, hb⟩) | (go_at_call 12; (with_reducible refine (great_any _ _ _ _).mono ?_); rw [HG.out]; rintro e w' ⟨rfl, rfl⟩))
  all_goals (go_ret; exact ⟨rfl, hE0.tr hb⟩)

set_option maxRecDepth 20000 in
set_option maxHeartbeats 4000000 in
theorem planTells_B (o : Nat → Int) (p : Option Addr) (ms : List Int) (c : Nat) (who : Int) (q : Option Addr) (xs : List Sh) (d : Nat) (w : World) (HG : Hid (decide (40 < (ms.length : Int)) = false)) (hx : 60 < (xs.length : Int)) :
    Calls Try.prog 3 #[.agg (ov o), .slice p ms.length c, .int .i64 who, .slice q xs.length d] w fun e w' => e = .returned (.bool true) ∧ Ext w w' := by
  have hE0 : Ext w (w.alloc (.cells (ov o) 22)) := Ext.al (Ext.rf _) _
  go_enter Try.func3, Try.ntmps3
  go_wp2_with (first | (go_at_call 13; (with_reducible refine (wakes_any _).mono ?_); rintro e w' ⟨rfl, hb⟩) | (go_at_call 12; (with_reducible refine (great_any _ _ _ _).mono ?_); rw [HG.out]; rintro e w' ⟨rfl, rfl⟩))
  all_goals (go_ret; exact ⟨rfl, hE0.tr hb⟩)
theorem add_sl (o : Nat → Int) (p : Option Addr) (ms : List Int) (c : Nat) (who : Int) (w : World) (hs : Sl w p ms) (hlen : ms.length ≤ 1000) (hcap : ms.length ≤ c) :
    Calls Try.prog 14 #[.agg (ov o), .slice p ms.length c, .int .i64 who] w (PlanSl (addX o ms who) (addE o ms who) w) := (add_any o p ms c who w hs hlen hcap).mono fun _ _ h => h.sl
theorem radd_sl (o : Nat → Int) (p : Option Addr) (ms : List Int) (c : Nat) (who : Int) (w : World) (hs : Sl w p ms) (hlen : ms.length ≤ 1000) :
    Calls Try.prog 15 #[.agg (ov o), .slice p ms.length c, .int .i64 who] w (PlanSl (addX o ms who) (addE o ms who) w) := (radd_any o p ms c who w hs hlen).mono fun _ _ h => h.sl
theorem remove_sl (o : Nat → Int) (p : Option Addr) (ms : List Int) (c : Nat) (who : Int) (w : World) (hs : Sl w p ms) (hlen : ms.length ≤ 1000) (hcap : ms.length ≤ c) :
    Calls Try.prog 16 #[.agg (ov o), .slice p ms.length c, .int .i64 who] w (PlanSl (remX o ms who) (remE o ms who) w) := (remove_any o p ms c who w hs hlen hcap).mono fun _ _ h => h.sl
theorem rremove_sl (o : Nat → Int) (p : Option Addr) (ms : List Int) (c : Nat) (who : Int) (w : World) (hs : Sl w p ms) (hlen : ms.length ≤ 1000) :
    Calls Try.prog 17 #[.agg (ov o), .slice p ms.length c, .int .i64 who] w (PlanSl (remX o ms who) (remE o ms who) w) := (rremove_any o p ms c who w hs hlen).mono fun _ _ h => h.sl
theorem fill_sl (o : Nat → Int) (p : Option Addr) (ms : List Int) (c : Nat) (w : World) (hs : Sl w p ms) (hlen : ms.length ≤ 1000) (hcap : ms.length ≤ c) :
    Calls Try.prog 18 #[.agg (ov o), .slice p ms.length c] w (PlanSl (fillX o ms) (fillE o ms) w) := (fill_any o p ms c w hs hlen hcap).mono fun _ _ h => h.sl
theorem rfill_sl (o : Nat → Int) (p : Option Addr) (ms : List Int) (c : Nat) (w : World) (hs : Sl w p ms) (hlen : ms.length ≤ 1000) :
    Calls Try.prog 19 #[.agg (ov o), .slice p ms.length c] w (PlanSl (fillX o ms) (fillE o ms) w) := (rfill_any o p ms c w hs hlen).mono fun _ _ h => h.sl

set_option maxRecDepth 20000 in
set_option maxHeartbeats 4000000 in
theorem planTells_C (o : Nat → Int) (p : Option Addr) (ms : List Int) (c : Nat) (who : Int) (q : Option Addr) (xs : List Sh) (d : Nat) (w : World) (hs : Sl w p ms) (hcap : ms.length ≤ c) (ht : SlS w q xs) (HG : Hid (decide (40 < (ms.length : Int)) = false)) (hlen : ms.length ≤ 1000) (hx : (xs.length : Int) ≤ 60) :
    Calls Try.prog 3 #[.agg (ov o), .slice p ms.length c, .int .i64 who, .slice q xs.length d] w fun e w' => e = .returned (.bool true) ∧ Ext w w' := by
  go_enter Try.func3, Try.ntmps3
  go_upto_region 3 with ((go_at_call 12; (with_reducible refine (great_any _ _ _ _).mono ?_); rw [HG.out]; rintro e w' ⟨rfl, rfl⟩))
  have e0 : Ext w (w.alloc (.cells (ov o) 22)) := Ext.al (Ext.rf _) _
  have s0 := hs.ext e0
  have t0 := ht.ext e0
  have r0 : rowD (w.alloc (.cells (ov o) 22)) w.heap.size = ov o := rowD_new _ _ _ _
  have l0 : Lt w.heap.size (w.alloc (.cells (ov o) 22)) := by simp [Lt]
  have hxl : xs.length ≤ 1000 := by omega
  clear hs ht hx
  generalize w.alloc (.cells (ov o) 22) = W0 at *
  go_upto_region 4 with (go_at_call 14; go_must (with_reducible refine (add_sl o _ ms _ who _ s0 hlen hcap).mono ?_); rintro e W1 ⟨p1, c1, rfl, -, x1, h1⟩)
  have l1 : Lt w.heap.size W1 := Nat.lt_of_lt_of_le l0 h1.size
  have r1 := row_ext h1 l0 r0
  have s1 := s0.ext h1
  have t1 := t0.ext h1
  have e1 := e0.tr h1
  clear h1 l0 r0 s0 t0 e0
  go_upto_region 5 with (go_at_call 15; go_must (with_reducible refine (radd_sl o _ ms _ who _ s1 hlen).mono ?_); rintro e W2 ⟨p2, c2, rfl, -, x2, h2⟩)
  have l2 : Lt w.heap.size W2 := Nat.lt_of_lt_of_le l1 h2.size
  have r2 := row_ext h2 l1 r1
  have s2 := s1.ext h2
  have t2 := t1.ext h2
  have e2 := e1.tr h2
  have x1 := x1.ext h2
  clear h2 l1 r1 s1 t1 e1
  go_upto_region 6 with (go_at_call 16; go_must (with_reducible refine (remove_sl o _ ms _ who _ s2 hlen hcap).mono ?_); rintro e W3 ⟨p3, c3, rfl, -, x3, h3⟩)
  have l3 : Lt w.heap.size W3 := Nat.lt_of_lt_of_le l2 h3.size
  have r3 := row_ext h3 l2 r2
  have s3 := s2.ext h3
  have t3 := t2.ext h3
  have e3 := e2.tr h3
  have x1 := x1.ext h3
  have x2 := x2.ext h3
  clear h3 l2 r2 s2 t2 e2
  go_upto_region 7 with (go_at_call 17; go_must (with_reducible refine (rremove_sl o _ ms _ who _ s3 hlen).mono ?_); rintro e W4 ⟨p4, c4, rfl, -, x4, h4⟩)
  have l4 : Lt w.heap.size W4 := Nat.lt_of_lt_of_le l3 h4.size
  have r4 := row_ext h4 l3 r3
  have s4 := s3.ext h4
  have t4 := t3.ext h4
  have e4 := e3.tr h4
  have x1 := x1.ext h4
  have x2 := x2.ext h4
  have x3 := x3.ext h4
  clear h4 l3 r3 s3 t3 e3
  go_upto_region 8 with (go_at_call 18; go_must (with_reducible refine (fill_sl o _ ms _ _ s4 hlen hcap).mono ?_); rintro e W5 ⟨p5, c5, rfl, -, x5, h5⟩)
  have l5 : Lt w.heap.size W5 := Nat.lt_of_lt_of_le l4 h5.size
  have r5 := row_ext h5 l4 r4
  have s5 := s4.ext h5
  have t5 := t4.ext h5
  have e5 := e4.tr h5
  have x1 := x1.ext h5
  have x2 := x2.ext h5
  have x3 := x3.ext h5
  have x4 := x4.ext h5
  clear h5 l4 r4 s4 t4 e4
  go_upto_region 9 with (go_at_call 19; go_must (with_reducible refine (rfill_sl o _ ms _ _ s5 hlen).mono ?_); rintro e W6 ⟨p6, c6, rfl, -, x6, h6⟩)
  have l6 : Lt w.heap.size W6 := Nat.lt_of_lt_of_le l5 h6.size
  have r6 := row_ext h6 l5 r5
  have s6 := s5.ext h6
  have t6 := t5.ext h6
  have e6 := e5.tr h6
  have x1 := x1.ext h6
  have x2 := x2.ext h6
  have x3 := x3.ext h6
  have x4 := x4.ext h6
  have x5 := x5.ext h6
  clear h6 l5 r5 s5 t5 e5
  go_upto_region 10 with (go_at_call 20; go_must (with_reducible refine (pick_any o _ ms _ _ s6 hlen hcap).mono ?_); rintro e W7 ⟨rfl, h7⟩)
  have l7 : Lt w.heap.size W7 := Nat.lt_of_lt_of_le l6 h7.size
  have r7 := row_ext h7 l6 r6
  have s7 := s6.ext h7
  have t7 := t6.ext h7
  have e7 := e6.tr h7
  have x1 := x1.ext h7
  have x2 := x2.ext h7
  have x3 := x3.ext h7
  have x4 := x4.ext h7
  have x5 := x5.ext h7
  have x6 := x6.ext h7
  clear h7 l6 r6 s6 t6 e6
  go_upto_region 11 with (go_at_call 21; go_must (with_reducible refine (rpick_any o _ ms _ _ s7 hlen hcap).mono ?_); rintro e W8 ⟨rfl, h8⟩)
  have l8 : Lt w.heap.size W8 := Nat.lt_of_lt_of_le l7 h8.size
  have r8 := row_ext h8 l7 r7
  have s8 := s7.ext h8
  have t8 := t7.ext h8
  have e8 := e7.tr h8
  have x1 := x1.ext h8
  have x2 := x2.ext h8
  have x3 := x3.ext h8
  have x4 := x4.ext h8
  have x5 := x5.ext h8
  have x6 := x6.ext h8
  clear h8 l7 r7 s7 t7 e7
  go_upto_region 13 with (first | (go_at_call 22; (with_reducible refine (same_self _ _ _ _ _ _ x1 x2 (Nat.le_trans (addX_len _ _ _) (by omega))).mono ?_); rintro e W9 ⟨rfl, h9⟩) | (go_at_call 22; (with_reducible refine (same_self _ _ _ _ _ _ (x3.ext h9) (x4.ext h9) (Nat.le_trans (remX_len _ _ _) (by omega))).mono ?_); rintro e W10 ⟨rfl, h10⟩) | (go_at_call 22; (with_reducible refine (same_self _ _ _ _ _ _ ((x5.ext h9).ext h10) ((x6.ext h9).ext h10) (Nat.le_trans (fillX_len _ _) (by omega))).mono ?_); rintro e W11 ⟨rfl, h11⟩))
  have e11 := ((e8.tr h9).tr h10).tr h11
  have s11 := ((s8.ext h9).ext h10).ext h11
  have t11 := ((t8.ext h9).ext h10).ext h11
  have r11 := row_ext ((h9.tr h10).tr h11) l8 r8
  have l11 : Lt w.heap.size W11 := Nat.lt_of_lt_of_le l8 ((h9.tr h10).tr h11).size
  clear e8 s8 t8 r8 l8 h9 h10 h11 x1 x2 x3 x4 x5 x6
  refine wp_region_later (by kernel_rfl) (by kernel_rfl) ?_; (repeat (go_big_quiet_step (first | (go_at_call 23; exact calls_later (right_any o p ms c _ (s11.ext (later_ext _)) hlen)) | (go_at_call 24; exact calls_later (rright_any o p ms c _ (s11.ext (later_ext _)) hlen)) | (go_at_call 25; exact calls_later (load_any o _ _)) | (go_at_call 26; exact calls_later (rload_any o _ _)) | (go_at_call 27; exact calls_later (spread_any o p ms c _ (s11.ext (later_ext _)) hlen hcap)) | (go_at_call 28; exact calls_later (rspread_any o p ms c _ (s11.ext (later_ext _)) hlen hcap)) | (go_at_call 29; exact calls_later (apply_any o q xs d _ (t11.ext (later_ext _)) hxl)) | (go_at_call 30; exact calls_later (rapply_any o q xs d _ (t11.ext (later_ext _)) hxl)) | (go_at_call 13; exact calls_later (wakes_any _))))); refine wpQuiet_nil ?_; intro d
  go_wp2
  go_ret
  exact ⟨rfl, e11.tr (later_ext d)⟩

theorem planTells_walk (o : Nat → Int) (p : Option Addr) (ms : List Int) (c : Nat) (who : Int) (q : Option Addr) (xs : List Sh) (d : Nat) (w : World) (hs : Sl w p ms) (hcap : ms.length ≤ c) (ht : SlS w q xs) :
    Calls Try.prog 3 #[.agg (ov o), .slice p ms.length c, .int .i64 who, .slice q xs.length d] w fun e w' => e = .returned (.bool true) ∧ Ext w w' := by
  by_cases h1 : 40 < (ms.length : Int)
  · exact planTells_A o p ms c who q xs d w (Lib.hid (decide_eq_true h1))
  · by_cases h2 : 60 < (xs.length : Int)
    · exact planTells_B o p ms c who q xs d w (Lib.hid (decide_eq_false h1)) h2
    · exact planTells_C o p ms c who q xs d w hs hcap ht (Lib.hid (decide_eq_false h1)) (by omega) (by omega)

set_option maxRecDepth 100000 in
theorem planTells_lifted (os : Os) (started : os.Started) (H : Type) (enc : TypeId × Value → H) :
    ReturnsInHanded {} Try.checked os 3 .any (Rows.planTellsSpec.pre6 enc Try.prog Try.f3 Rows.planTellsRow.domain false) (Rows.planTellsSpec.post enc Try.prog Try.f3 false true false false) := by
  refine law_lift 4 ownKn started (by kernel_rfl) Try.func3 (ChangeSpec.witness6 (enc := enc) (C := Try.checked) false ⟨#[], #[.agg #[.int .i64 0, .int .i64 0, .int .i64 0, .int .i64 0, .int .i64 0, .int .i64 0, .int .i64 0, .int .i64 0, .int .i64 0, .int .i64 0, .int .i64 0, .int .i64 0, .int .i64 0, .int .i64 0, .int .i64 0, .int .i64 0], .slice none 0 0, .int .i64 0, .slice none 0 0], []⟩ 8 (by kernel_rfl) (by kernel_rfl) (by kernel_rfl) (by kernel_rfl)) laidOut rfl (by kernel_rfl) Try.underlying4 ?_ (by kernel_rfl) ?_
  · intro ds h
    match ds, h with
    | [d0, d1, d2, d3], _ => rfl
  · intro W base args ds p hval hA hlt
    have hval' : ∀ (j : Nat) t v, Try.f3.params[j]? = some t → args[j]? = some v → Value.okWide Try.prog W .any base t v := hval
    have hA' : DataW.TrodAll enc Try.prog W 0 (fun _ => true) true Try.f3.params.toList args.toList ds p := hA
    rw [Try.params3] at hA' hval'
    obtain ⟨v0, vs0, d0, ds0, p0, q0, hargs, rfl, rfl, h0, r0⟩ := trodAll_cons hA'
    obtain ⟨v1, vs1, d1, ds1, p1, q1, rfl, rfl, rfl, h1, r1⟩ := trodAll_cons r0
    obtain ⟨v2, vs2, d2, ds2, p2, q2, rfl, rfl, rfl, h2, r2⟩ := trodAll_cons r1
    obtain ⟨v3, vs3, d3, ds3, p3, q3, rfl, rfl, rfl, h3, r3⟩ := trodAll_cons r2
    obtain ⟨rfl, rfl, rfl⟩ := trodAll_nil r3
    obtain rfl : args = #[v0, v1, v2, v3] := by cases args; simp_all
    obtain ⟨o, rfl⟩ := open_own (hval' 0 _ v0 rfl rfl) h0
    obtain ⟨p_, ms, c_, rfl, hs_, hcap_⟩ := open_mems (hval' 1 _ v1 rfl rfl) h1
    obtain ⟨who, rfl, _, _, w_who⟩ := open_int Try.underlying3 (hval' 2 _ v2 rfl rfl) h2
    obtain ⟨q_, xs, d_, rfl, ht_, hxc_⟩ := open_shs (hval' 3 _ v3 rfl rfl) h3
    exact planTells_walk o p_ ms c_ who q_ xs d_ W hs_ hcap_ ht_

theorem planTells_holds : Rows.PlanTellsSaid :=
  OpenClaim.holds_of_wide 3 Try.f3 rfl rfl rfl rfl rfl rfl rfl ⟨rfl, rfl, rfl, rfl, rfl⟩ rfl rfl rfl rfl rfl (by kernel_rfl) Try.func3 (by kernel_rfl)
    (of_decide_eq_true (by kernel_rfl)) (by unfold Func.isWrapper; first | (rw [if_pos (by decide +kernel)]; kernel_rfl) | (rw [if_neg (by decide +kernel)]; exact ⟨rfl, rfl⟩))
    (fun os started H enc _ => planTells_lifted os started H enc)
#print axioms planTells_holds

end Go.Proofs.Ytlacidecomflkaa
