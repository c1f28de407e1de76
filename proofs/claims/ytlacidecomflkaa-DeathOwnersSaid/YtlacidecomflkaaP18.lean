/- Remove of the plan's reference. -/
import Derived.Test.YtlacidecomflkaaP17
set_option linter.unusedSimpArgs false
set_option linter.unusedVariables false
namespace Go.Proofs.Ytlacidecomflkaa
open Go.RowKit

theorem wp_at_zero' {P : Program} {o : Oper} {l : List Oper} {h : 0 < (o :: l).toArray.size} {a : Act} {w : World} {K : Act → World → Prop} {Q : Exit → Act → World → Prop} : Oper.wp P ((o :: l).toArray[0]'h) a w K Q = Oper.wp P o a w K Q := rfl
attribute [local go_sem ↓] wp_at_zero wp_at_succ
theorem rises_one (a who : Int) (ms : List Int) (h : risesB a ms = true) (he : ∀ m ∈ ms, m = who) : ms.length ≤ 1 := by
  match ms, h, he with
  | [], _, _ => simp
  | [_], _, _ => simp
  | m :: n :: r, h, he =>
    have h1 := he m (by simp)
    have h2 := he n (by simp)
    simp only [risesB, Bool.and_eq_true, decide_eq_true_eq] at h
    omega
theorem without_all (ms : List Int) (who : Int) : (without ms who).length = ms.length ↔ ms.any (who == ·) = false := by
  unfold without
  rw [List.length_filter_eq_length_iff, List.any_eq_false]
  constructor
  · intro h x hx e
    have := h x hx
    have e' : who = x := by simpa using e
    subst e'; simp at this
  · intro h x hx
    have := h x hx
    have e : ¬ who = x := by simpa using this
    have : (x == who) = false := by rw [beq_eq_false_iff_ne]; exact fun h => e h.symm
    rw [this]; rfl
theorem without_none (o : Nat → Int) (ms : List Int) (who : Int) (hr : rightP o ms = true) (ha : ms.any (who == ·) = true) : (without ms who).length = 0 ↔ ms.length = 1 := by
  have hp : 0 < ms.length := by
    cases ms with
    | nil => simp at ha
    | cons _ _ => simp
  unfold rightP at hr
  rw [Bool.and_eq_true] at hr
  constructor
  · intro h
    have h1 : ∀ m ∈ ms, m = who := fun m hm => by
      by_cases e : m = who
      · exact e
      · have : m ∈ without ms who := List.mem_filter.2 ⟨hm, by simp [e]⟩
        rw [List.length_eq_zero_iff.1 h] at this
        cases this
    have := rises_one _ who ms hr.2 h1
    omega
  · intro h
    have h1 : (without ms who).length ≠ ms.length := fun e => by rw [(without_all ms who).1 e] at ha; cases ha
    have := without_len ms who
    omega
theorem rwithout_sl (p : Option Addr) (ms : List Int) (c : Nat) (who : Int) (w : World) (hs : Sl w p ms) (hlen : ms.length ≤ 1000) :
    Calls Try.prog 34 #[.slice p ms.length c, .int .i64 who] w fun e w' => ∃ p' c', e = .returned (.slice p' (without ms who).length c') ∧ Sl w' p' (without ms who) ∧ Ext w w' :=
  (rwithout_any p ms c who w hs hlen).mono fun e w' ⟨v, h1, h2, h3⟩ => by
    rcases sl_own_row h2 with ⟨h4, rfl⟩ | ⟨g, cap, rfl, h4, h5, _, _, _, h6⟩
    · exact ⟨none, 0, by rw [h1, h4]; rfl, by rw [h4]; exact Sl.nil _ _, h3⟩
    · exact ⟨_, cap, h1, fun k hk => ⟨g, 0, rfl, h5, by rw [Nat.zero_add, h6 k hk]; simp [hk]⟩, h3⟩

set_option maxRecDepth 20000 in
set_option maxHeartbeats 4000000 in
theorem rremove_A (o : Nat → Int) (p : Option Addr) (ms : List Int) (c : Nat) (who : Int) (w : World) (hs : Sl w p ms) (hlen : ms.length ≤ 1000) (HX : Hid (remX o ms who = [])) (HR : Hid (rightP o ms = false)) :
    Calls Try.prog 17 #[.agg (ov o), .slice p ms.length c, .int .i64 who] w (PlanRet (remX o ms who) 2 w) := by
  have hE0 : Ext w (w.alloc (.cells (ov o) 22)) := Ext.al (Ext.rf _) _
  go_enter Try.func17, Try.ntmps17
  go_wp2_with (first | (go_at_call 24; (with_reducible refine (rright_any o p ms c _ (hs.ext hE0) hlen).mono ?_); rw [HR.out]; rintro e w' ⟨rfl, hb⟩; obtain ⟨hc, hf, hl, hz, -⟩ := kept hb; obtain ⟨hr, hq⟩ := keptR hb; try simp at hz))
  go_ret2
  exact planRet_nil HX.out (hE0.tr hb)

set_option maxRecDepth 20000 in
set_option maxHeartbeats 4000000 in
theorem rremove_B (o : Nat → Int) (p : Option Addr) (ms : List Int) (c : Nat) (who : Int) (w : World) (hs : Sl w p ms) (hlen : ms.length ≤ 1000) (HX : Hid (remX o ms who = [])) (HR : Hid (rightP o ms = true)) (HB : Hid (backB who = false)) :
    Calls Try.prog 17 #[.agg (ov o), .slice p ms.length c, .int .i64 who] w (PlanRet (remX o ms who) 2 w) := by
  have hE0 : Ext w (w.alloc (.cells (ov o) 22)) := Ext.al (Ext.rf _) _
  go_enter Try.func17, Try.ntmps17
  go_wp2_with (first | (go_at_call 24; (with_reducible refine (rright_any o p ms c _ (hs.ext hE0) hlen).mono ?_); rw [HR.out]; rintro e w' ⟨rfl, hb⟩; obtain ⟨hc, hf, hl, hz, -⟩ := kept hb; obtain ⟨hr, hq⟩ := keptR hb; try simp at hz) | (go_at_call 47; (with_reducible refine (rback_any _ _).mono ?_); rw [HB.out]; rintro e w' ⟨rfl, rfl⟩))
  go_ret2
  exact planRet_nil HX.out (hE0.tr hb)

set_option maxRecDepth 20000 in
set_option maxHeartbeats 4000000 in
theorem rremove_C (o : Nat → Int) (p : Option Addr) (ms : List Int) (c : Nat) (who : Int) (w : World) (hs : Sl w p ms) (hlen : ms.length ≤ 1000) (HX : Hid (remX o ms who = [])) (HR : Hid (rightP o ms = true)) (HB : Hid (backB who = true)) (HC : Hid (ms.any (who == ·) = false)) :
    Calls Try.prog 17 #[.agg (ov o), .slice p ms.length c, .int .i64 who] w (PlanRet (remX o ms who) 202 w) := by
  have hE0 : Ext w (w.alloc (.cells (ov o) 22)) := Ext.al (Ext.rf _) _
  go_enter Try.func17, Try.ntmps17
  go_wp2_with (first | (go_at_call 24; (with_reducible refine (rright_any o p ms c _ (hs.ext hE0) hlen).mono ?_); rw [HR.out]; rintro e w' ⟨rfl, hb⟩; obtain ⟨hc, hf, hl, hz, -⟩ := kept hb; obtain ⟨hr, hq⟩ := keptR hb; try simp at hz) | (go_at_call 47; (with_reducible refine (rback_any _ _).mono ?_); rw [HB.out]; rintro e w' ⟨rfl, rfl⟩) | (go_at_call 32; (with_reducible refine (rin_any who p ms c _ (hs.ext (hE0.tr hb)) hlen).mono ?_); rw [HC.out]; rintro e w' ⟨rfl, rfl⟩))
  go_ret2
  exact planRet_nil HX.out (hE0.tr hb)

set_option maxRecDepth 20000 in
set_option maxHeartbeats 4000000 in
theorem rremove_D (o : Nat → Int) (p : Option Addr) (ms : List Int) (c : Nat) (who : Int) (w : World) (hs : Sl w p ms) (hlen : ms.length ≤ 1000) (HX : Hid (remX o ms who = [])) (HR : Hid (rightP o ms = true)) (HB : Hid (backB who = true)) (HC : Hid (ms.any (who == ·) = true)) (b1 : ((ms.length : Int) == 1) = true) :
    Calls Try.prog 17 #[.agg (ov o), .slice p ms.length c, .int .i64 who] w (PlanRet (remX o ms who) 200 w) := by
  have hE0 : Ext w (w.alloc (.cells (ov o) 22)) := Ext.al (Ext.rf _) _
  go_enter Try.func17, Try.ntmps17
  go_wp2_with (first | (go_at_call 24; (with_reducible refine (rright_any o p ms c _ (hs.ext hE0) hlen).mono ?_); rw [HR.out]; rintro e w' ⟨rfl, hb⟩; obtain ⟨hc, hf, hl, hz, -⟩ := kept hb; obtain ⟨hr, hq⟩ := keptR hb; try simp at hz) | (go_at_call 47; (with_reducible refine (rback_any _ _).mono ?_); rw [HB.out]; rintro e w' ⟨rfl, rfl⟩) | (go_at_call 32; (with_reducible refine (rin_any who p ms c _ (hs.ext (hE0.tr hb)) hlen).mono ?_); rw [HC.out]; rintro e w' ⟨rfl, rfl⟩))
  go_ret2
  exact planRet_nil HX.out (hE0.tr hb)

set_option maxRecDepth 20000 in
set_option maxHeartbeats 4000000 in
theorem rremove_E (o : Nat → Int) (p : Option Addr) (ms : List Int) (c : Nat) (who : Int) (w : World) (hs : Sl w p ms) (hlen : ms.length ≤ 1000)  (HR : Hid (rightP o ms = true)) (HB : Hid (backB who = true)) (HC : Hid (ms.any (who == ·) = true)) (b1 : ((ms.length : Int) == 1) = false) (hp : 0 < (without ms who).length) (HX : Hid (remX o ms who = moveP (fun i => o i == who) (without ms who) o)) :
    Calls Try.prog 17 #[.agg (ov o), .slice p ms.length c, .int .i64 who] w (PlanRet (remX o ms who) 0 w) := by
  have hE0 : Ext w (w.alloc (.cells (ov o) 22)) := Ext.al (Ext.rf _) _
  go_enter Try.func17, Try.ntmps17
  go_wp2_with (first | (go_at_call 24; (with_reducible refine (rright_any o p ms c _ (hs.ext hE0) hlen).mono ?_); rw [HR.out]; rintro e w' ⟨rfl, hb⟩; obtain ⟨hc, hf, hl, hz, -⟩ := kept hb; obtain ⟨hr, hq⟩ := keptR hb; try simp at hz) | (go_at_call 47; (with_reducible refine (rback_any _ _).mono ?_); rw [HB.out]; rintro e w' ⟨rfl, rfl⟩) | (go_at_call 32; (with_reducible refine (rin_any who p ms c _ (hs.ext (hE0.tr hb)) hlen).mono ?_); rw [HC.out]; rintro e w' ⟨rfl, rfl⟩))
  have hE1 := hE0.tr hb
  have hR1 : rowD w' w.heap.size = ov o := row_ext hb (by simp) (rowD_new _ _ _ _)
  have hs1 : w.heap.size < w'.heap.size := by have := hb.size; simp at this; omega
  have hns1 : ¬ w.heap.size = w'.heap.size := by omega
  clear hc hf hl hz hr hq hb
  go_loopw [9] (fun v wr => ∃ k : Nat, k ≤ 16 ∧ v = .int .i64 k ∧ rowD wr w'.heap.size = bv (marks (fun i => o i == who) k) ∧ frzD wr w'.heap.size = (0, 0) ∧ rowD wr w.heap.size = ov o ∧ Lt w'.heap.size wr ∧ Ext w wr) (fun v _ => 16 - (intOf v).toNat)
  case atStart => exact ⟨0, Nat.zero_le _, rfl, by simp [go_sem]; rfl, by simp [go_sem], by simp [go_sem, hR1, hns1], by unfold Lt; simp, Ext.al hE1 _⟩
  case round =>
    obtain ⟨k, hk, rfl, hB, hZ, hR, hL, hE⟩ := hrel
    by_cases hlt : k < 16
    · have hjl : (k : Int) < 16 := by omega
      have hcb := cell_row (i := k) hB hlt
      have hfr := frozen_of_frz hZ k
      have hco := cell_row (i := k) hR hlt
      have HB := Lib.hid hB
      have HRR := Lib.hid hR
      clear hB hR
      go_wp2
      go_roundw
      case rel =>
        refine ⟨k + 1, by omega, by go_num, ?_, by rw [frzD_setCell]; exact hZ, ?_, by rw [Lt_setCell]; exact hL, Ext.st _ (Nat.le_of_lt hs1) hE⟩
        · rw [rowD_setCell, if_pos rfl, HB.out, set_bv]; exact marks_step _ _ _ rfl
        · rw [rowD_setCell, if_neg hns1]; exact HRR.out
      case measure => simp [intOf]; omega
    · obtain rfl : k = 16 := by omega
      rw [marks_all] at hB
      have hL0 : Lt w.heap.size wr := by unfold Lt at hL ⊢; omega
      clear hE1 hR1
      go_wp2_with (fail)
      go_region_with (first | (go_at_call 34; (with_reducible refine (rwithout_sl p ms c who _ (hs.ext (by repeat (first | with_reducible exact Ext.rf _ | with_reducible assumption | with_reducible refine Ext.al ?_ _ | with_reducible refine Ext.dr ?_ | with_reducible refine Ext.dn ?_ _ | ((with_reducible refine Ext.st _ ?_ ?_); focus (first | omega | (simp; omega) | simp)) | ((with_reducible refine Ext.sr _ ?_ ?_); focus (first | omega | (simp; omega) | simp)) | with_reducible refine Ext.tr ?_ (by assumption) | with_reducible refine Ext.tr ?_ (up_ext (by assumption)) | with_reducible refine Ext.of (by assumption) ?_))) hlen).mono ?_); rintro e w' ⟨p2, c2, rfl, hs2, hb⟩; obtain ⟨hc, hf, hl, hz, -⟩ := kept hb; obtain ⟨hr, hq⟩ := keptR hb; (try simp at hz)) | (go_at_call 56; (with_reducible refine (rmove_any o p2 (without ms who) c2 (fun i => o i == who) _ hs2 (Nat.le_trans (without_len _ _) hlen) hp).mono ?_); rintro e w4 ⟨v, rfl, hown, hE4⟩; have HOW := Lib.hid hown; have hb4 := hE4; clear hown))
      all_goals
        go_wp2
        go_ret2
        refine ⟨_, rfl, ?_, ?_⟩
        · rw [HX.out]; exact ownsRow_le HOW.out (Nat.le_trans hE.size hb.size)
        · exact ((Ext.dr hE).tr hb).tr hb4

theorem rremove_any (o : Nat → Int) (p : Option Addr) (ms : List Int) (c : Nat) (who : Int) (w : World) (hs : Sl w p ms) (hlen : ms.length ≤ 1000) :
    Calls Try.prog 17 #[.agg (ov o), .slice p ms.length c, .int .i64 who] w (PlanRet (remX o ms who) (remE o ms who) w) := by
  cases hr : rightP o ms
  · have he : remE o ms who = 2 := by unfold remE; rw [hr]; simp
    rw [he]; exact rremove_A o p ms c who w hs hlen (show remX o ms who = [] by unfold remX; rw [he]; rfl) hr
  cases hbk : backB who
  · have he : remE o ms who = 2 := by unfold remE; rw [hbk]; rfl
    rw [he]; exact rremove_B o p ms c who w hs hlen (show remX o ms who = [] by unfold remX; rw [he]; rfl) hr hbk
  cases ha : ms.any (who == ·)
  · have he : remE o ms who = 202 := by unfold remE; rw [hbk, hr, if_pos ((without_all ms who).2 ha)]; rfl
    rw [he]; exact rremove_C o p ms c who w hs hlen (show remX o ms who = [] by unfold remX; rw [he]; rfl) hr hbk ha
  have h1 : ¬ (without ms who).length = ms.length := fun e => by rw [(without_all ms who).1 e] at ha; cases ha
  by_cases h2 : ms.length = 1
  · have he : remE o ms who = 200 := by unfold remE; rw [hbk, hr, if_neg h1, if_pos ((without_none o ms who hr ha).2 h2)]; rfl
    rw [he]; exact rremove_D o p ms c who w hs hlen (show remX o ms who = [] by unfold remX; rw [he]; rfl) hr hbk ha (by rw [beq_iff_eq]; omega)
  · have h3 : ¬ (without ms who).length = 0 := fun e => h2 ((without_none o ms who hr ha).1 e)
    have he : remE o ms who = 0 := by unfold remE; rw [hbk, hr, if_neg h1, if_neg h3]; rfl
    rw [he]; exact rremove_E o p ms c who w hs hlen hr hbk ha (by rw [beq_eq_false_iff_ne]; omega) (by omega) (show remX o ms who = moveP (fun i => o i == who) (without ms who) o by unfold remX; rw [he]; rfl)

end Go.Proofs.Ytlacidecomflkaa
