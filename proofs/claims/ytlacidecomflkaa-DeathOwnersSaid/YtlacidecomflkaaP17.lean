/- Add and Fill of the plan's reference. -/
import Derived.Test.YtlacidecomflkaaP16
set_option linter.unusedSimpArgs false
set_option linter.unusedVariables false
namespace Go.Proofs.Ytlacidecomflkaa
open Go.RowKit

theorem radd_any (o : Nat → Int) (p : Option Addr) (ms : List Int) (c : Nat) (who : Int) (w : World) (hs : Sl w p ms) (hlen : ms.length ≤ 1000) :
    Calls Try.prog 15 #[.agg (ov o), .slice p ms.length c, .int .i64 who] w (PlanRet (addX o ms who) (addE o ms who) w) := by
  cases hr : rightP o ms
  · have he : addE o ms who = 2 := by unfold addE; rw [hr]; simp
    rw [he]; exact radd_A o p ms c who w hs hlen (show addX o ms who = [] by unfold addX; rw [he]; rfl) hr
  cases hb : backB who
  · have he : addE o ms who = 2 := by unfold addE; rw [hb]; rfl
    rw [he]; exact radd_B o p ms c who w hs hlen (show addX o ms who = [] by unfold addX; rw [he]; rfl) hr hb
  cases hc : ms.any (who == ·)
  · have he : addE o ms who = 0 := by unfold addE; rw [hb, hr, hc]; rfl
    have hw : who ∉ ms := fun h => by
      have := List.any_eq_true.2 ⟨who, h, (by simp : (who == who) = true)⟩
      rw [this] at hc; cases hc
    rw [he]; exact radd_D o p ms c who w hs hlen hw (show addX o ms who = addP o ms who by unfold addX; rw [he]; rfl) hr hb hc
  · have he : addE o ms who = 201 := by unfold addE; rw [hb, hr, hc]; rfl
    rw [he]; exact radd_C o p ms c who w hs hlen (show addX o ms who = [] by unfold addX; rw [he]; rfl) hr hb hc
/-- The first k marks are made. -/
def marks (so : Nat → Bool) (k : Nat) : Nat → Bool := fun i => if i < k then so i else false
theorem marks_step (so : Nat → Bool) (k : Nat) (b : Bool) (h : so k = b) : bv (fun i => if i = k then b else marks so k i) = bv (marks so (k + 1)) := bv_congr _ _ fun i _ => by
  unfold marks
  by_cases h1 : i = k
  · subst h1; simp [h]
  · simp [h1, show (i < k + 1) = (i < k) from propext ⟨fun h => by omega, fun h => by omega⟩]
theorem marks_all (so : Nat → Bool) : bv (marks so 16) = bv so := bv_congr _ _ fun i hi => by unfold marks; rw [if_pos hi]

set_option maxRecDepth 20000 in
set_option maxHeartbeats 4000000 in
theorem rfill_A (o : Nat → Int) (p : Option Addr) (ms : List Int) (c : Nat) (w : World) (hs : Sl w p ms) (hlen : ms.length ≤ 1000) (HX : Hid (fillX o ms = [])) (HR : Hid (rightP o ms = false)) :
    Calls Try.prog 19 #[.agg (ov o), .slice p ms.length c] w (PlanRet (fillX o ms) 2 w) := by
  have hE0 : Ext w (w.alloc (.cells (ov o) 22)) := Ext.al (Ext.rf _) _
  go_enter Try.func19, Try.ntmps19
  go_wp2_with (first | (go_at_call 24; (with_reducible refine (rright_any o p ms c _ (hs.ext hE0) hlen).mono ?_); rw [HR.out]; rintro e w' ⟨rfl, hb⟩; obtain ⟨hc, hf, hl, hz, -⟩ := kept hb; obtain ⟨hr, hq⟩ := keptR hb; try simp at hz))
  go_ret2
  exact planRet_nil HX.out (hE0.tr hb)

set_option maxRecDepth 20000 in
set_option maxHeartbeats 4000000 in
theorem rfill_B (o : Nat → Int) (p : Option Addr) (ms : List Int) (c : Nat) (w : World) (hs : Sl w p ms) (hlen : ms.length ≤ 1000) (HX : Hid (fillX o ms = [])) (HR : Hid (rightP o ms = true)) (b0 : ((ms.length : Int) == 0) = true) :
    Calls Try.prog 19 #[.agg (ov o), .slice p ms.length c] w (PlanRet (fillX o ms) 200 w) := by
  have hE0 : Ext w (w.alloc (.cells (ov o) 22)) := Ext.al (Ext.rf _) _
  go_enter Try.func19, Try.ntmps19
  go_wp2_with (first | (go_at_call 24; (with_reducible refine (rright_any o p ms c _ (hs.ext hE0) hlen).mono ?_); rw [HR.out]; rintro e w' ⟨rfl, hb⟩; obtain ⟨hc, hf, hl, hz, -⟩ := kept hb; obtain ⟨hr, hq⟩ := keptR hb; try simp at hz))
  go_ret2
  exact planRet_nil HX.out (hE0.tr hb)

set_option maxRecDepth 20000 in
set_option maxHeartbeats 4000000 in
theorem rfill_C (o : Nat → Int) (p : Option Addr) (ms : List Int) (c : Nat) (w : World) (hs : Sl w p ms) (hlen : ms.length ≤ 1000) (hp : 0 < ms.length) (HX : Hid (fillX o ms = moveP (fun i => !ms.any (o i == ·)) ms o)) (HR : Hid (rightP o ms = true)) (b0 : ((ms.length : Int) == 0) = false) :
    Calls Try.prog 19 #[.agg (ov o), .slice p ms.length c] w (PlanRet (fillX o ms) 0 w) := by
  have hE0 : Ext w (w.alloc (.cells (ov o) 22)) := Ext.al (Ext.rf _) _
  go_enter Try.func19, Try.ntmps19
  go_wp2_with (first | (go_at_call 24; (with_reducible refine (rright_any o p ms c _ (hs.ext hE0) hlen).mono ?_); rw [HR.out]; rintro e w' ⟨rfl, hb⟩; obtain ⟨hc, hf, hl, hz, -⟩ := kept hb; obtain ⟨hr, hq⟩ := keptR hb; try simp at hz))
  have hE1 := hE0.tr hb
  have hR1 : rowD w' w.heap.size = ov o := row_ext hb (by simp) (rowD_new _ _ _ _)
  have hs1 : w.heap.size < w'.heap.size := by have := hb.size; simp at this; omega
  have hns1 : ¬ w.heap.size = w'.heap.size := by omega
  clear hc hf hl hz hr hq hb
  go_loopw [7] (fun v wr => ∃ k : Nat, k ≤ 16 ∧ v = .int .i64 k ∧ rowD wr w'.heap.size = bv (marks (fun i => !ms.any (o i == ·)) k) ∧ frzD wr w'.heap.size = (0, 0) ∧ rowD wr w.heap.size = ov o ∧ Lt w'.heap.size wr ∧ Ext w wr) (fun v _ => 16 - (intOf v).toNat)
  case atStart => exact ⟨0, Nat.zero_le _, rfl, by simp [go_sem]; rfl, by simp [go_sem], by simp [go_sem, hR1, hns1], by unfold Lt; simp, Ext.al hE1 _⟩
  case round =>
    obtain ⟨k, hk, rfl, hB, hZ, hR, hL, hE⟩ := hrel
    by_cases hlt : k < 16
    · have hjl : (k : Int) < 16 := by omega
      have hcb := cell_row (i := k) hB hlt
      have hfr := frozen_of_frz hZ k
      have hco := cell_row (i := k) hR hlt
      have HB := Lib.hid hB
      have HRR := Lib.hid hR
      clear hB hR
      obtain ⟨b, hbb⟩ : ∃ b, ms.any (o k == ·) = b := ⟨_, rfl⟩
      have HC := Lib.hid hbb
      have HC2 := Lib.hid (show (!ms.any (o k == ·)) = !b by rw [hbb])
      clear hbb
      go_wp2_with ((go_at_call 32; (with_reducible refine (rin_any _ p ms c _ (hs.ext hE) hlen).mono ?_); rw [HC.out]; rintro e w' ⟨rfl, rfl⟩))
      go_roundw
      case rel =>
        refine ⟨k + 1, by omega, by go_num, ?_, by rw [frzD_setCell]; exact hZ, ?_, by rw [Lt_setCell]; exact hL, Ext.st _ (Nat.le_of_lt hs1) hE⟩
        · rw [rowD_setCell, if_pos rfl, HB.out, set_bv]; exact marks_step _ _ _ HC2.out
        · rw [rowD_setCell, if_neg hns1]; exact HRR.out
      case measure => simp [intOf]; omega
    · obtain rfl : k = 16 := by omega
      rw [marks_all] at hB
      clear hE1 hR1
      go_wp2_with (go_at_call 56; (with_reducible refine (rmove_any o p ms c _ _ (hs.ext hE) hlen hp).mono ?_); rintro e w4 ⟨v, rfl, hown, hE4⟩; have HOW := Lib.hid hown; clear hown)
      go_ret2
      exact ⟨v, rfl, by rw [HX.out]; exact ownsRow_le HOW.out hE.size, hE.tr hE4⟩

theorem rfill_any (o : Nat → Int) (p : Option Addr) (ms : List Int) (c : Nat) (w : World) (hs : Sl w p ms) (hlen : ms.length ≤ 1000) :
    Calls Try.prog 19 #[.agg (ov o), .slice p ms.length c] w (PlanRet (fillX o ms) (fillE o ms) w) := by
  cases hr : rightP o ms
  · have he : fillE o ms = 2 := by unfold fillE; rw [hr]; rfl
    rw [he]; exact rfill_A o p ms c w hs hlen (show fillX o ms = [] by unfold fillX; rw [he]; rfl) hr
  by_cases h0 : ms.length = 0
  · have he : fillE o ms = 200 := by unfold fillE; rw [hr, if_pos h0]; rfl
    rw [he]; exact rfill_B o p ms c w hs hlen (show fillX o ms = [] by unfold fillX; rw [he]; rfl) hr (by rw [beq_iff_eq]; omega)
  · have he : fillE o ms = 0 := by unfold fillE; rw [hr, if_neg h0]; rfl
    rw [he]; exact rfill_C o p ms c w hs hlen (by omega) (show fillX o ms = moveP (fun i => !ms.any (o i == ·)) ms o by unfold fillX; rw [he]; rfl) hr (by rw [beq_eq_false_iff_ne]; omega)

end Go.Proofs.Ytlacidecomflkaa
