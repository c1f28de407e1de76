/- DeathOwners: the early ways. -/
import Derived.Test.YtlacidecomflkaaD12
import Derived.Test.YtlacidecomflkaaO5
set_option linter.unusedSimpArgs false
set_option linter.unusedVariables false
namespace Go.Proofs.Ytlacidecomflkaa
open Go.ChangeShapes Go.WideShapes Go.ChangeAt Go.RowKit

set_option maxRecDepth 100000 in
set_option maxHeartbeats 8000000 in
theorem deathOwners_A (l : Nat → Mo) (left : Int) (w : World) (hph : ∀ i, 0 ≤ (l i).ph) (d0 : decide (left < 0) = true) :
    Calls Try.prog 11 #[.agg (lm l), .int .i64 left] w fun e w' => e = .returned (.bool true) ∧ Ext w w' := by
  have hE0 : Ext w (w.alloc (.cells (lm l) 63)) := Ext.al (Ext.rf _) _
  go_enter Try.func11, Try.ntmps11
  go_wp2_with (go_at_call 37; (with_reducible refine (dwakes_any _).mono ?_); rintro e w' ⟨rfl, hb⟩; obtain ⟨hc, hf, hl, hz, -⟩ := kept hb; (try simp at hz))
  all_goals (go_ret; exact ⟨rfl, hE0.tr hb⟩)

set_option maxRecDepth 100000 in
set_option maxHeartbeats 8000000 in
theorem deathOwners_B (l : Nat → Mo) (left : Int) (w : World) (hph : ∀ i, 0 ≤ (l i).ph) (d0 : decide (left < 0) = false) (d6 : decide (6 ≤ left) = true) :
    Calls Try.prog 11 #[.agg (lm l), .int .i64 left] w fun e w' => e = .returned (.bool true) ∧ Ext w w' := by
  have hE0 : Ext w (w.alloc (.cells (lm l) 63)) := Ext.al (Ext.rf _) _
  go_enter Try.func11, Try.ntmps11
  go_wp2_with (go_at_call 37; (with_reducible refine (dwakes_any _).mono ?_); rintro e w' ⟨rfl, hb⟩; obtain ⟨hc, hf, hl, hz, -⟩ := kept hb; (try simp at hz))
  all_goals (go_ret; exact ⟨rfl, hE0.tr hb⟩)

set_option maxRecDepth 100000 in
set_option maxHeartbeats 8000000 in
theorem deathOwners_C (l : Nat → Mo) (left : Int) (w : World) (hph : ∀ i, 0 ≤ (l i).ph) (d0 : decide (left < 0) = false) (d6 : decide (6 ≤ left) = false) (n : Nat) (hn : n < 16) (HG : Hid (∀ i, i < n → (l i).right = true ∧ (l i).gen ≤ 1000)) (HB : Hid ((l n).right = false)) :
    Calls Try.prog 11 #[.agg (lm l), .int .i64 left] w fun e w' => e = .returned (.bool true) ∧ Ext w w' := by
  go_enter Try.func11, Try.ntmps11
  go_upto_region 1 with (fail)
  obtain ⟨W0, hW0⟩ : ∃ W0, w.alloc (.cells (lm l) 63) = W0 := ⟨_, rfl⟩
  have e0 : Ext w W0 := by rw [← hW0]; exact Ext.al (Ext.rf _) _
  have r : rowD W0 w.heap.size = lm l := by rw [← hW0]; simp [go_sem]
  have z : frzD W0 w.heap.size = (0, 0) := by rw [← hW0]; simp [go_sem]
  have lb : Lt w.heap.size W0 := by rw [← hW0]; simp [Lt]
  rw [hW0]
  clear hW0
  go_wp2
  go_loopw [5] (fun a wr => ∃ i : Nat, i ≤ n ∧ a = .int .i64 i ∧ Ext W0 wr) (fun a _ => 16 - (intOf a).toNat)
  case atStart => exact ⟨0, Nat.zero_le _, rfl, Ext.rf _⟩
  case round =>
    obtain ⟨i, hi, rfl, hE⟩ := hrel
    have hli := hph i
    have hli16 : i < 16 := by omega
    have hil : (i : Int) < 16 := by omega
    by_cases hlt : i < n
    · obtain ⟨hrt, hg⟩ := HG.out i hlt
      have hg' : decide (1000 < (l i).gen) = false := decide_eq_false (by omega)
      have HRT := Lib.hid hrt
      clear hrt hg
      have rw_ := row_ext hE lb r
      have lbw : Lt w.heap.size wr := Nat.lt_of_lt_of_le lb hE.size
      obtain ⟨c0, c1, c2, c3, c4, c5⟩ := cells_row rw_ i hli16
      go_wp2_with (go_at_call 36; (with_reducible refine (rright22_any (l i) _ hli).mono ?_); rw [HRT.out]; rintro e w1 ⟨rfl, g1⟩; obtain ⟨hc1, hf1, hl1, hz1, -⟩ := kept g1; (try simp at hz1))
      go_roundw
      case rel => exact ⟨i + 1, by omega, by go_num, hE.tr g1⟩
      case measure => simp [intOf]; omega
    · obtain rfl : i = n := by omega
      have HRT := HB
      have rw_ := row_ext hE lb r
      have lbw : Lt w.heap.size wr := Nat.lt_of_lt_of_le lb hE.size
      obtain ⟨c0, c1, c2, c3, c4, c5⟩ := cells_row rw_ i hli16
      clear HB
      go_wp2_with (first | (go_at_call 36; (with_reducible refine (rright22_any (l i) _ hli).mono ?_); rw [HRT.out]; rintro e w1 ⟨rfl, g1⟩; obtain ⟨hc1, hf1, hl1, hz1, -⟩ := kept g1; (try simp at hz1)) | (go_at_call 37; (with_reducible refine (dwakes_any _).mono ?_); rintro e w' ⟨rfl, hb⟩; obtain ⟨hc, hf, hl, hz, -⟩ := kept hb; (try simp at hz)))
      go_ret
      exact ⟨rfl, ((e0.tr hE).tr g1).tr hb⟩

set_option maxRecDepth 100000 in
set_option maxHeartbeats 8000000 in
theorem deathOwners_D (l : Nat → Mo) (left : Int) (w : World) (hph : ∀ i, 0 ≤ (l i).ph) (d0 : decide (left < 0) = false) (d6 : decide (6 ≤ left) = false) (n : Nat) (hn : n < 16) (HG : Hid (∀ i, i < n → (l i).right = true ∧ (l i).gen ≤ 1000)) (HB : Hid ((l n).right = true)) (hgt : decide (1000 < (l n).gen) = true) :
    Calls Try.prog 11 #[.agg (lm l), .int .i64 left] w fun e w' => e = .returned (.bool true) ∧ Ext w w' := by
  go_enter Try.func11, Try.ntmps11
  go_upto_region 1 with (fail)
  obtain ⟨W0, hW0⟩ : ∃ W0, w.alloc (.cells (lm l) 63) = W0 := ⟨_, rfl⟩
  have e0 : Ext w W0 := by rw [← hW0]; exact Ext.al (Ext.rf _) _
  have r : rowD W0 w.heap.size = lm l := by rw [← hW0]; simp [go_sem]
  have z : frzD W0 w.heap.size = (0, 0) := by rw [← hW0]; simp [go_sem]
  have lb : Lt w.heap.size W0 := by rw [← hW0]; simp [Lt]
  rw [hW0]
  clear hW0
  go_wp2
  go_loopw [5] (fun a wr => ∃ i : Nat, i ≤ n ∧ a = .int .i64 i ∧ Ext W0 wr) (fun a _ => 16 - (intOf a).toNat)
  case atStart => exact ⟨0, Nat.zero_le _, rfl, Ext.rf _⟩
  case round =>
    obtain ⟨i, hi, rfl, hE⟩ := hrel
    have hli := hph i
    have hli16 : i < 16 := by omega
    have hil : (i : Int) < 16 := by omega
    by_cases hlt : i < n
    · obtain ⟨hrt, hg⟩ := HG.out i hlt
      have hg' : decide (1000 < (l i).gen) = false := decide_eq_false (by omega)
      have HRT := Lib.hid hrt
      clear hrt hg
      have rw_ := row_ext hE lb r
      have lbw : Lt w.heap.size wr := Nat.lt_of_lt_of_le lb hE.size
      obtain ⟨c0, c1, c2, c3, c4, c5⟩ := cells_row rw_ i hli16
      go_wp2_with (go_at_call 36; (with_reducible refine (rright22_any (l i) _ hli).mono ?_); rw [HRT.out]; rintro e w1 ⟨rfl, g1⟩; obtain ⟨hc1, hf1, hl1, hz1, -⟩ := kept g1; (try simp at hz1))
      go_roundw
      case rel => exact ⟨i + 1, by omega, by go_num, hE.tr g1⟩
      case measure => simp [intOf]; omega
    · obtain rfl : i = n := by omega
      have HRT := HB
      have rw_ := row_ext hE lb r
      have lbw : Lt w.heap.size wr := Nat.lt_of_lt_of_le lb hE.size
      obtain ⟨c0, c1, c2, c3, c4, c5⟩ := cells_row rw_ i hli16
      clear HB
      go_wp2_with (first | (go_at_call 36; (with_reducible refine (rright22_any (l i) _ hli).mono ?_); rw [HRT.out]; rintro e w1 ⟨rfl, g1⟩; obtain ⟨hc1, hf1, hl1, hz1, -⟩ := kept g1; (try simp at hz1)) | (go_at_call 37; (with_reducible refine (dwakes_any _).mono ?_); rintro e w' ⟨rfl, hb⟩; obtain ⟨hc, hf, hl, hz, -⟩ := kept hb; (try simp at hz)))
      go_ret
      exact ⟨rfl, ((e0.tr hE).tr g1).tr hb⟩

end Go.Proofs.Ytlacidecomflkaa
