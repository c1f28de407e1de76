/- PlanAdds returns true: for any owners, members and one that are data. -/
import Derived.Test.YtlacidecomflkaaQ3
import Derived.Test.YtlacidecomflkaaPL6
import Derived.Test.YtlacidecomflkaaP16
set_option linter.unusedSimpArgs false
set_option linter.unusedVariables false
namespace Go.Proofs.Ytlacidecomflkaa
open Go.ChangeShapes Go.WideShapes Go.ChangeAt Go.RowKit

theorem shifts_one (q : Option Addr) (xs : List Sh) (d : Nat) (so : Nat → Bool) (who : Int) (W : World) (hx : SlS W q xs) (hxl : xs.length ≤ 1000) :
    Calls Try.prog 33 #[.slice q xs.length d, .agg (bv so), .slice (some ⟨W.heap.size, 0, none⟩) 1 1] (W.alloc (.cells #[.int .i64 who] 3)) fun e w' => e = .returned (.bool (shiftsP xs so [who])) ∧ Ext (W.alloc (.cells #[.int .i64 who] 3)) w' :=
  shifts_any q xs d so _ [who] 1 _ (hx.ext (Ext.al (Ext.rf _) _)) hxl (sl_lit1 who _ _) (by simp)

set_option maxRecDepth 20000 in
set_option maxHeartbeats 4000000 in
theorem planAdds_A (o : Nat → Int) (p : Option Addr) (ms : List Int) (c : Nat) (who : Int) (w : World) (HG : Hid (decide (40 < (ms.length : Int)) = true)) :
    Calls Try.prog 4 #[.agg (ov o), .slice p ms.length c, .int .i64 who] w fun e w' => e = .returned (.bool true) ∧ Ext w w' := by
  have hE0 : Ext w (w.alloc (.cells (ov o) 22)) := Ext.al (Ext.rf _) _
  go_enter Try.func4, Try.ntmps4
  go_wp2_with (first | (go_at_call 13; (with_reducible refine (wakes_any _).mono ?_); rintro e w' ⟨rfl, hb⟩) | (go_at_call 12; (with_reducible refine (great_any _ _ _ _).mono ?_); rw [HG.out]; rintro e w' ⟨rfl, rfl⟩))
  all_goals (go_ret; exact ⟨rfl, hE0.tr hb⟩)

set_option maxRecDepth 20000 in
set_option maxHeartbeats 4000000 in
theorem planAdds_B (o : Nat → Int) (p : Option Addr) (ms : List Int) (c : Nat) (who : Int) (w : World) (HG : Hid (decide (40 < (ms.length : Int)) = false)) (hlen : ms.length ≤ 1000) (hs : Sl w p ms) (hcap : ms.length ≤ c) (HE : Hid (evenP o ms = false)) :
    Calls Try.prog 4 #[.agg (ov o), .slice p ms.length c, .int .i64 who] w fun e w' => e = .returned (.bool true) ∧ Ext w w' := by
  have hE0 : Ext w (w.alloc (.cells (ov o) 22)) := Ext.al (Ext.rf _) _
  go_enter Try.func4, Try.ntmps4
  go_wp2_with (first | (go_at_call 13; (with_reducible refine (wakes_any _).mono ?_); rintro e w' ⟨rfl, hb⟩) | (go_at_call 12; (with_reducible refine (great_any _ _ _ _).mono ?_); rw [HG.out]; rintro e w' ⟨rfl, rfl⟩) | (go_at_call 31; (with_reducible refine (even_any o p ms c _ (hs.ext hE0) hlen hcap).mono ?_); rw [HE.out]; rintro e W1 ⟨rfl, h1⟩))
  all_goals (go_ret; exact ⟨rfl, (hE0.tr h1).tr hb⟩)

set_option maxRecDepth 20000 in
set_option maxHeartbeats 4000000 in
theorem planAdds_C (o : Nat → Int) (p : Option Addr) (ms : List Int) (c : Nat) (who : Int) (w : World) (HG : Hid (decide (40 < (ms.length : Int)) = false)) (hlen : ms.length ≤ 1000) (hs : Sl w p ms) (hcap : ms.length ≤ c) (HE : Hid (evenP o ms = true)) (hw : who < 0) :
    Calls Try.prog 4 #[.agg (ov o), .slice p ms.length c, .int .i64 who] w fun e w' => e = .returned (.bool true) ∧ Ext w w' := by
  have hE0 : Ext w (w.alloc (.cells (ov o) 22)) := Ext.al (Ext.rf _) _
  go_enter Try.func4, Try.ntmps4
  go_wp2_with (first | (go_at_call 13; (with_reducible refine (wakes_any _).mono ?_); rintro e w' ⟨rfl, hb⟩) | (go_at_call 12; (with_reducible refine (great_any _ _ _ _).mono ?_); rw [HG.out]; rintro e w' ⟨rfl, rfl⟩) | (go_at_call 31; (with_reducible refine (even_any o p ms c _ (hs.ext hE0) hlen hcap).mono ?_); rw [HE.out]; rintro e W1 ⟨rfl, h1⟩) | (go_at_call 32; (with_reducible refine (rin_any who p ms c _ ((hs.ext hE0).ext h1) hlen).mono ?_); rw [HI.out]; rintro e w' ⟨rfl, rfl⟩))
  all_goals (go_ret; exact ⟨rfl, (hE0.tr h1).tr hb⟩)

set_option maxRecDepth 20000 in
set_option maxHeartbeats 4000000 in
theorem planAdds_D (o : Nat → Int) (p : Option Addr) (ms : List Int) (c : Nat) (who : Int) (w : World) (HG : Hid (decide (40 < (ms.length : Int)) = false)) (hlen : ms.length ≤ 1000) (hs : Sl w p ms) (hcap : ms.length ≤ c) (HE : Hid (evenP o ms = true)) (hw0 : 0 ≤ who) (hw : 6 ≤ who) :
    Calls Try.prog 4 #[.agg (ov o), .slice p ms.length c, .int .i64 who] w fun e w' => e = .returned (.bool true) ∧ Ext w w' := by
  have hE0 : Ext w (w.alloc (.cells (ov o) 22)) := Ext.al (Ext.rf _) _
  go_enter Try.func4, Try.ntmps4
  go_wp2_with (first | (go_at_call 13; (with_reducible refine (wakes_any _).mono ?_); rintro e w' ⟨rfl, hb⟩) | (go_at_call 12; (with_reducible refine (great_any _ _ _ _).mono ?_); rw [HG.out]; rintro e w' ⟨rfl, rfl⟩) | (go_at_call 31; (with_reducible refine (even_any o p ms c _ (hs.ext hE0) hlen hcap).mono ?_); rw [HE.out]; rintro e W1 ⟨rfl, h1⟩) | (go_at_call 32; (with_reducible refine (rin_any who p ms c _ ((hs.ext hE0).ext h1) hlen).mono ?_); rw [HI.out]; rintro e w' ⟨rfl, rfl⟩))
  all_goals (go_ret; exact ⟨rfl, (hE0.tr h1).tr hb⟩)

set_option maxRecDepth 20000 in
set_option maxHeartbeats 4000000 in
theorem planAdds_E (o : Nat → Int) (p : Option Addr) (ms : List Int) (c : Nat) (who : Int) (w : World) (HG : Hid (decide (40 < (ms.length : Int)) = false)) (hlen : ms.length ≤ 1000) (hs : Sl w p ms) (hcap : ms.length ≤ c) (HE : Hid (evenP o ms = true)) (hw0 : 0 ≤ who) (hw6 : who < 6) (HI : Hid (ms.any (who == ·) = true)) :
    Calls Try.prog 4 #[.agg (ov o), .slice p ms.length c, .int .i64 who] w fun e w' => e = .returned (.bool true) ∧ Ext w w' := by
  have hE0 : Ext w (w.alloc (.cells (ov o) 22)) := Ext.al (Ext.rf _) _
  go_enter Try.func4, Try.ntmps4
  go_wp2_with (first | (go_at_call 13; (with_reducible refine (wakes_any _).mono ?_); rintro e w' ⟨rfl, hb⟩) | (go_at_call 12; (with_reducible refine (great_any _ _ _ _).mono ?_); rw [HG.out]; rintro e w' ⟨rfl, rfl⟩) | (go_at_call 31; (with_reducible refine (even_any o p ms c _ (hs.ext hE0) hlen hcap).mono ?_); rw [HE.out]; rintro e W1 ⟨rfl, h1⟩) | (go_at_call 32; (with_reducible refine (rin_any who p ms c _ ((hs.ext hE0).ext h1) hlen).mono ?_); rw [HI.out]; rintro e w' ⟨rfl, rfl⟩))
  all_goals (go_ret; exact ⟨rfl, (hE0.tr h1).tr hb⟩)

set_option maxRecDepth 20000 in
set_option maxHeartbeats 4000000 in
theorem planAdds_M (o : Nat → Int) (p : Option Addr) (ms : List Int) (c : Nat) (who : Int) (w : World) (HG : Hid (decide (40 < (ms.length : Int)) = false)) (hlen : ms.length ≤ 1000) (hs : Sl w p ms) (hcap : ms.length ≤ c) (HE : Hid (evenP o ms = true)) (hw0 : 0 ≤ who) (hw6 : who < 6) (HI : Hid (ms.any (who == ·) = false)) (hxl : (addX o ms who).length ≤ 1000) (HR : Hid (addE o ms who = 0)) (HS : Hid (shiftsP (addX o ms who) (fun _ => true) [who] = true)) (P : Nat → Int) (HP : Hid (apply o (addX o ms who) = P)) (HV : Hid (evenP P (withN ms who 6) = true)) (b1 : (load P who == ((addX o ms who).length : Int)) = true) (bq : (((addX o ms who).length : Int) == 16 / ((withN ms who 6).length : Int)) = true) (hn0 : 0 < ((withN ms who 6).length : Int)) (hn1 : (withN ms who 6).length ≤ 1000) :
    Calls Try.prog 4 #[.agg (ov o), .slice p ms.length c, .int .i64 who] w fun e w' => e = .returned (.bool true) ∧ Ext w w' := by
  obtain ⟨i0, hi, hz0, hz1, hz2⟩ := info_parts info_int
  go_enter Try.func4, Try.ntmps4
  go_upto_region 1 with (fail)
  have e0 : Ext w (w.alloc (.cells (ov o) 22)) := Ext.al (Ext.rf _) _
  have s0 := hs.ext e0
  have r : rowD (w.alloc (.cells (ov o) 22)) w.heap.size = ov o := rowD_new _ _ _ _
  have l : w.heap.size < (w.alloc (.cells (ov o) 22)).heap.size := by simp
  clear hs
  generalize w.alloc (.cells (ov o) 22) = W0 at *
  have dw0 : decide (who < 0) = false := decide_eq_false (by omega)
  have dw6 : decide (6 ≤ who) = false := decide_eq_false (by omega)
  go_upto_region 3 with (first | (go_at_call 12; (with_reducible refine (great_any _ _ _ _).mono ?_); rw [HG.out]; rintro e w' ⟨rfl, rfl⟩) | (go_at_call 31; (with_reducible refine (even_any o p ms c _ s0 hlen hcap).mono ?_); rw [HE.out]; rintro e W1 ⟨rfl, h1⟩) | (go_at_call 32; (with_reducible refine (rin_any who p ms c _ (s0.ext h1) hlen).mono ?_); rw [HI.out]; rintro e w' ⟨rfl, rfl⟩))
  have e1 := e0.tr h1
  have s0 := s0.ext h1
  have r := row_ext h1 l r
  have l := Nat.lt_of_lt_of_le l h1.size
  clear e0 h1
  go_upto_region 4 with (go_at_call 14; go_must (with_reducible refine ((add_sl o _ ms _ who _ s0 hlen hcap).mono fun _ _ h => h.er HR.out).mono ?_); rintro e W2 ⟨p2, c2, rfl, -, x2, h2⟩)
  have e2 := e1.tr h2
  have s0 := s0.ext h2
  have r := row_ext h2 l r
  have l := Nat.lt_of_lt_of_le l h2.size
  clear e1 h2
  have hns : ¬ w.heap.size = W2.heap.size := by omega
  go_wp2
  go_loopw [10] (fun v wr => ∃ k : Nat, k ≤ 16 ∧ v = .int .i64 k ∧ rowD wr W2.heap.size = bv (marks (fun _ => true) k) ∧ frzD wr W2.heap.size = (0, 0) ∧ rowD wr w.heap.size = ov o ∧ Lt W2.heap.size wr ∧ Ext W2 wr) (fun v _ => 16 - (intOf v).toNat)
  case atStart => exact ⟨0, Nat.zero_le _, rfl, by simp [go_sem]; rfl, by simp [go_sem], by simp [go_sem, r, hns], by unfold Lt; simp, Ext.al (Ext.rf _) _⟩
  case round =>
    obtain ⟨k, hk, rfl, hB, hZ, hR, hL, hE⟩ := hrel
    by_cases hlt : k < 16
    · have hjl : (k : Int) < 16 := by omega
      have hcb := cell_row (i := k) hB hlt
      have hfr := frozen_of_frz hZ k
      have HB := Lib.hid hB
      have HRR := Lib.hid hR
      clear hB hR
      go_wp2
      go_roundw
      case rel =>
        refine ⟨k + 1, by omega, by go_num, ?_, by rw [frzD_setCell]; exact hZ, ?_, by rw [Lt_setCell]; exact hL, Ext.st _ (Nat.le_refl _) hE⟩
        · rw [rowD_setCell, if_pos rfl, HB.out, set_bv]; exact marks_step _ _ _ rfl
        · rw [rowD_setCell, if_neg hns]; exact HRR.out
      case measure => simp [intOf]; omega
    · obtain rfl : k = 16 := by omega
      rw [marks_all] at hB
      have h4 := hE
      obtain ⟨W4, rfl⟩ : ∃ W4, wr = W4 := ⟨_, rfl⟩
      have e4 := e2.tr h4
      have x2 := x2.ext h4
      have s0 := s0.ext h4
      have r := row_ext h4 l r
      have l := Nat.lt_of_lt_of_le l h4.size
      clear e2 h4
      clear hR hZ hL hk hlt hE
      go_upto_region 11 with (go_at_call 33; go_must (with_reducible refine (shifts_one _ _ _ (fun _ => true) who _ x2 hxl).mono ?_); rw [HS.out]; rintro e W5 ⟨rfl, h5⟩)
      have h5 : Ext wr W5 := (Ext.al (Ext.rf _) _).tr h5
      have e5 := e4.tr h5
      have x2 := x2.ext h5
      have s0 := s0.ext h5
      have r := row_ext h5 l r
      have l := Nat.lt_of_lt_of_le l h5.size
      clear e4 h5
      clear hB
      go_wp2
      go_loopw [11, 12] (fun v i wr => ∃ k : Nat, k ≤ 6 ∧ wr.ownsRow W5.heap.size 3 1 v (withN ms who k).length ((withN ms who k).map (Value.int .i64)) ∧ i = .int .i64 k ∧ Ext W5 wr) (fun _ i _ => 6 - (intOf i).toNat)
      case atStart => exact ⟨0, Nat.zero_le _, World.ownsRow_nil _ _ _ _, rfl, Ext.rf _⟩
      case round =>
        obtain ⟨k, hk, hO, rfl, hE⟩ := hrel
        have HO := Lib.hid hO
        have hsz := hE.size
        clear hO
        by_cases hlt : k < 6
        · have hjl : (k : Int) < 6 := by omega
          cases hb1 : ((k : Int) == who)
          · cases hb2 : ms.any ((k : Int) == ·)
            · have HB2 := Lib.hid hb2
              have HWN := Lib.hid (show withN ms who (k + 1) = withN ms who k ++ [] by rw [withN, hb1, hb2]; rfl)
              clear hb2
              go_wp2_with (first | (go_at_call 32; (with_reducible refine (rin_any _ p ms c _ (s0.ext hE) hlen).mono ?_); rw [HB2.out]; rintro e w' ⟨rfl, rfl⟩))
              go_roundw
              case rel =>
                exact ⟨k + 1, by omega, by rw [HWN.out, List.append_nil]; exact HO.out, by go_num, hE⟩
              case measure => simp [intOf]; omega

            · have HB2 := Lib.hid hb2
              have HWN := Lib.hid (show withN ms who (k + 1) = withN ms who k ++ [(k : Int)] by rw [withN, hb1, hb2]; rfl)
              clear hb2
              go_wp2_with (first | (go_at_call 32; (with_reducible refine (rin_any _ p ms c _ (s0.ext hE) hlen).mono ?_); rw [HB2.out]; rintro e w' ⟨rfl, rfl⟩) | (at_builtin; go_must (refine wpList_append_own _ rfl _ _ 23 rfl W5.heap.size 3 i0 (.int .i64 0) 1 8 Try.underlying23 hi hz0 hz1 hz2 rfl (by decide) _ _ _ rfl (HO.out.alloc _) ⟨wr.heap.size, 0, none⟩ 1 1 [.int .i64 k] rfl rfl (cell_one_new _ _ _) (by simp [Value.oneCell']) (by have := withN_len ms who k; unfold maxLen; first | omega | (simp; omega)) (by have := withN_len ms who k; first | omega | (simp; omega)) (by have := withN_len ms who k; first | omega | (simp; omega)) ?_); intro v' w2 hown' hgrow _; have HOW := Lib.hid hown'; have HGR := Lib.hid hgrow; clear hown' hgrow))
              go_roundw
              case rel =>
                refine ⟨k + 1, by omega, ?_, by go_num, ?_⟩
                · have := HOW.out
                  rw [HWN.out, List.length_append, List.map_append]; exact this
                · refine Mv.ext_of (C := fun k => W5.heap.size ≤ k) hE ((Mv.al _ (Mv.refl _ _)).trans (Mv.of_grown HGR.out fun r e => .inl (ownBlock_ge HO.out r e))) (fun k h => h)
              case measure => simp [intOf]; omega

          · have HB2 : Hid (ms.any ((k : Int) == ·) = ms.any ((k : Int) == ·)) := Lib.hid rfl
            have HWN := Lib.hid (show withN ms who (k + 1) = withN ms who k ++ [(k : Int)] by rw [withN, hb1]; rfl)
            go_wp2_with (first | (go_at_call 32; (with_reducible refine (rin_any _ p ms c _ (s0.ext hE) hlen).mono ?_); rw [HB2.out]; rintro e w' ⟨rfl, rfl⟩) | (at_builtin; go_must (refine wpList_append_own _ rfl _ _ 23 rfl W5.heap.size 3 i0 (.int .i64 0) 1 8 Try.underlying23 hi hz0 hz1 hz2 rfl (by decide) _ _ _ rfl (HO.out.alloc _) ⟨wr.heap.size, 0, none⟩ 1 1 [.int .i64 k] rfl rfl (cell_one_new _ _ _) (by simp [Value.oneCell']) (by have := withN_len ms who k; unfold maxLen; first | omega | (simp; omega)) (by have := withN_len ms who k; first | omega | (simp; omega)) (by have := withN_len ms who k; first | omega | (simp; omega)) ?_); intro v' w2 hown' hgrow _; have HOW := Lib.hid hown'; have HGR := Lib.hid hgrow; clear hown' hgrow))
            go_roundw
            case rel =>
              refine ⟨k + 1, by omega, ?_, by go_num, ?_⟩
              · have := HOW.out
                rw [HWN.out, List.length_append, List.map_append]; exact this
              · refine Mv.ext_of (C := fun k => W5.heap.size ≤ k) hE ((Mv.al _ (Mv.refl _ _)).trans (Mv.of_grown HGR.out fun r e => .inl (ownBlock_ge HO.out r e))) (fun k h => h)
            case measure => simp [intOf]; omega

        · obtain rfl : k = 6 := by omega
          obtain ⟨p6, c6, rfl, hc6, y6⟩ := sl_of_own HO.out
          have r := row_ext hE l r
          have x2 := x2.ext hE
          have e6 := e5.tr hE
          clear HO hsz hk hlt
          go_upto_region 18 with (go_at_call 29; go_must (with_reducible refine (apply_any o _ _ _ _ x2 hxl).mono ?_); rw [HP.out]; rintro e X7 ⟨rfl, h7⟩)
          obtain ⟨W7, hV⟩ : ∃ V, setRow (X7.alloc (.cells #[Value.int IntKind.i64 0, Value.int IntKind.i64 0, Value.int IntKind.i64 0, Value.int IntKind.i64 0, Value.int IntKind.i64 0, Value.int IntKind.i64 0, Value.int IntKind.i64 0, Value.int IntKind.i64 0, Value.int IntKind.i64 0, Value.int IntKind.i64 0, Value.int IntKind.i64 0, Value.int IntKind.i64 0, Value.int IntKind.i64 0, Value.int IntKind.i64 0, Value.int IntKind.i64 0, Value.int IntKind.i64 0] 22)) X7.heap.size (ov P) = V := ⟨_, rfl⟩
          obtain ⟨gV, rp, lp⟩ : Ext X7 W7 ∧ rowD W7 X7.heap.size = ov P ∧ X7.heap.size < W7.heap.size := by rw [← hV]; exact box_own X7 P
          rw [hV]
          clear hV
          have h7 : Ext wr W7 := h7.tr gV
          have y6 := y6.ext h7
          have e7 := e6.tr h7
          have lp : Lt X7.heap.size W7 := lp
          clear gV x2 e6 h7 HP HS
          generalize X7.heap.size = BP at *
          have bn0 : (((withN ms who 6).length : Int) == 0) = false := by rw [beq_eq_false_iff_ne]; omega
          go_wp2_with (first | (go_at_call 31; (with_reducible refine (even_any P _ _ _ _ y6 hn1 hc6).mono ?_); rw [HV.out]; rintro e W8 ⟨rfl, h8⟩; obtain ⟨hc8, hf8, hl8, hz8, -⟩ := kept h8; obtain ⟨hr8, hq8⟩ := keptR h8; (try simp at hz8)) | (go_at_call 26; (with_reducible refine (rload_any P who _).mono ?_); rintro e W9 ⟨rfl, h9⟩; obtain ⟨hc9, hf9, hl9, hz9, -⟩ := kept h9; obtain ⟨hr9, hq9⟩ := keptR h9; (try simp at hz9)) | (go_at_call 13; (with_reducible refine (wakes_any _).mono ?_); rintro e W10 ⟨rfl, h10⟩; obtain ⟨hc10, hf10, hl10, hz10, -⟩ := kept h10; obtain ⟨hr10, hq10⟩ := keptR h10; (try simp at hz10)))
          go_ret
          exact ⟨rfl, ((e7.tr h8).tr h9).tr h10⟩

theorem planAdds_walk (o : Nat → Int) (p : Option Addr) (ms : List Int) (c : Nat) (who : Int) (w : World) (hs : Sl w p ms) (hcap : ms.length ≤ c) :
    Calls Try.prog 4 #[.agg (ov o), .slice p ms.length c, .int .i64 who] w fun e w' => e = .returned (.bool true) ∧ Ext w w' := by
  by_cases h1 : 40 < (ms.length : Int)
  · exact planAdds_A o p ms c who w (Lib.hid (decide_eq_true h1))
  have hlen : ms.length ≤ 1000 := by omega
  have HG := Lib.hid (decide_eq_false h1)
  cases he : evenP o ms
  · exact planAdds_B o p ms c who w HG hlen hs hcap he
  by_cases h2 : who < 0
  · exact planAdds_C o p ms c who w HG hlen hs hcap he h2
  by_cases h3 : 6 ≤ who
  · exact planAdds_D o p ms c who w HG hlen hs hcap he (by omega) h3
  cases hi : ms.any (who == ·)
  · have hx : (addX o ms who).length ≤ 1000 := Nat.le_trans (addX_len _ _ _) (by omega)
    obtain ⟨k1, k2, k3, k4, k5, k6, k7⟩ := adds_law o ms who he (by omega) (by omega) ((any_no ms who).1 hi)
    have hq : ((addX o ms who).length : Int) = 16 / ((withN ms who 6).length : Int) := by
      have hlw := withN_len ms who 6
      generalize (addX o ms who).length = L at *
      generalize (withN ms who 6).length = N at *
      have : N = 1 ∨ N = 2 ∨ N = 3 ∨ N = 4 ∨ N = 5 ∨ N = 6 := by omega
      rcases this with rfl | rfl | rfl | rfl | rfl | rfl
      · have : L = 16 := by omega
        subst this; rfl
      · have : L = 8 := by omega
        subst this; rfl
      · have : L = 5 := by omega
        subst this; rfl
      · have : L = 4 := by omega
        subst this; rfl
      · have : L = 3 := by omega
        subst this; rfl
      · have : L = 2 := by omega
        subst this; rfl
    exact planAdds_M o p ms c who w HG hlen hs hcap he (by omega) (by omega) hi hx k1 k2 _ (Lib.hid rfl) k3 (by rw [beq_iff_eq]; exact k4) (by rw [beq_iff_eq]; exact hq) (by omega) (Nat.le_trans (withN_len _ _ _) (by omega))
  · exact planAdds_E o p ms c who w HG hlen hs hcap he (by omega) (by omega) hi

set_option maxRecDepth 100000 in
theorem planAdds_lifted (os : Os) (started : os.Started) (H : Type) (enc : TypeId × Value → H) :
    ReturnsInHanded {} Try.checked os 4 .any (Rows.planAddsSpec.pre6 enc Try.prog Try.f4 Rows.planAddsRow.domain false) (Rows.planAddsSpec.post enc Try.prog Try.f4 false true false false) := by
  refine law_lift 4 ownKn started (by kernel_rfl) Try.func4 (ChangeSpec.witness6 (enc := enc) (C := Try.checked) false ⟨#[], #[.agg #[.int .i64 0, .int .i64 0, .int .i64 0, .int .i64 0, .int .i64 0, .int .i64 0, .int .i64 0, .int .i64 0, .int .i64 0, .int .i64 0, .int .i64 0, .int .i64 0, .int .i64 0, .int .i64 0, .int .i64 0, .int .i64 0], .slice none 0 0, .int .i64 0], []⟩ 8 (by kernel_rfl) (by kernel_rfl) (by kernel_rfl) (by kernel_rfl)) laidOut rfl (by kernel_rfl) Try.underlying4 ?_ (by kernel_rfl) ?_
  · intro ds h
    match ds, h with
    | [d0, d1, d2], _ => rfl
  · intro W base args ds p hval hA hlt
    have hval' : ∀ (j : Nat) t v, Try.f4.params[j]? = some t → args[j]? = some v → Value.okWide Try.prog W .any base t v := hval
    have hA' : DataW.TrodAll enc Try.prog W 0 (fun _ => true) true Try.f4.params.toList args.toList ds p := hA
    rw [Try.params4] at hA' hval'
    obtain ⟨v0, vs0, d0, ds0, p0, q0, hargs, rfl, rfl, h0, r0⟩ := trodAll_cons hA'
    obtain ⟨v1, vs1, d1, ds1, p1, q1, rfl, rfl, rfl, h1, r1⟩ := trodAll_cons r0
    obtain ⟨v2, vs2, d2, ds2, p2, q2, rfl, rfl, rfl, h2, r2⟩ := trodAll_cons r1
    obtain ⟨rfl, rfl, rfl⟩ := trodAll_nil r2
    obtain rfl : args = #[v0, v1, v2] := by cases args; simp_all
    obtain ⟨o, rfl⟩ := open_own (hval' 0 _ v0 rfl rfl) h0
    obtain ⟨p_, ms, c_, rfl, hs_, hcap_⟩ := open_mems (hval' 1 _ v1 rfl rfl) h1
    obtain ⟨who, rfl, _, _, w_who⟩ := open_int Try.underlying3 (hval' 2 _ v2 rfl rfl) h2
    exact planAdds_walk o p_ ms c_ who W hs_ hcap_

theorem planAdds_holds : Rows.PlanAddsSaid :=
  OpenClaim.holds_of_wide 4 Try.f4 rfl rfl rfl rfl rfl rfl rfl ⟨rfl, rfl, rfl, rfl, rfl⟩ rfl rfl rfl rfl rfl (by kernel_rfl) Try.func4 (by kernel_rfl)
    (of_decide_eq_true (by kernel_rfl)) (by unfold Func.isWrapper; first | (rw [if_pos (by decide +kernel)]; kernel_rfl) | (rw [if_neg (by decide +kernel)]; exact ⟨rfl, rfl⟩))
    (fun os started H enc _ => planAdds_lifted os started H enc)
#print axioms planAdds_holds

end Go.Proofs.Ytlacidecomflkaa
