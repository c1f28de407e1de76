/- DeathAll: the early ways. -/
import Derived.Test.YtlacidecomflkaaD12
import Derived.Test.YtlacidecomflkaaO5
import Derived.Test.YtlacidecomflkaaP18
set_option linter.unusedSimpArgs false
set_option linter.unusedVariables false
namespace Go.Proofs.Ytlacidecomflkaa
open Go.ChangeShapes Go.WideShapes Go.ChangeAt Go.RowKit

attribute [local go_sem] beq_self_eq_true
attribute [local go_sem] eqL_self
theorem boxm_own (X : World) (P : Nat → Mo) : Ext X (setRow (X.alloc (.cells (lm mz) 63)) X.heap.size (lm P)) ∧ rowD (setRow (X.alloc (.cells (lm mz) 63)) X.heap.size (lm P)) X.heap.size = lm P ∧ Lt X.heap.size (setRow (X.alloc (.cells (lm mz) 63)) X.heap.size (lm P)) :=
  ⟨Ext.sr _ (Nat.le_refl _) (Ext.al (Ext.rf _) _), rowD_setRow_same _ _ _ (by rw [rowD_new]; simp), by unfold Lt; rw [size_setRow]; simp⟩

set_option maxRecDepth 100000 in
set_option maxHeartbeats 8000000 in
theorem deathAll_A (l : Nat → Mo) (dead : Int) (p : Option Addr) (ms : List Int) (c : Nat) (w : World) (hph : ∀ i, 0 ≤ (l i).ph) (hs : Sl w p ms) (hcap : ms.length ≤ c) (h40 : decide (40 < (ms.length : Int)) = true) :
    Calls Try.prog 10 #[.agg (lm l), .int .i64 dead, .slice p ms.length c] w fun e w' => e = .returned (.bool true) ∧ Ext w w' := by
  go_enter Try.func10, Try.ntmps10
  go_upto_region 2 with (fail)
  obtain ⟨W0, hW0⟩ : ∃ W0, (w.alloc (.cells (lm l) 63)).alloc (.cells #[.int .i64 0, .int .i64 0, .int .i64 0, .int .i64 0, .int .i64 0, .int .i64 0, .int .i64 0, .int .i64 0, .int .i64 0, .int .i64 0, .int .i64 0, .int .i64 0, .int .i64 0, .int .i64 0, .int .i64 0, .int .i64 0] 22) = W0 := ⟨_, rfl⟩
  have e0 : Ext w W0 := by rw [← hW0]; exact Ext.al (Ext.al (Ext.rf _) _) _
  have s0 := hs.ext e0
  have r : rowD W0 w.heap.size = lm l := by rw [← hW0]; simp [go_sem]
  have rz : rowD W0 (w.heap.size + 1) = ov (fun _ => 0) := by rw [← hW0, ← zeros16]; simp [go_sem]
  have lb : Lt w.heap.size W0 := by rw [← hW0]; simp [Lt]; try omega
  have lz : Lt (w.heap.size + 1) W0 := by rw [← hW0]; simp [Lt]; try omega
  rw [hW0]
  clear hW0 hs
  go_wp2_with (go_at_call 37; (with_reducible refine (dwakes_any _).mono ?_); rintro e w' ⟨rfl, hb⟩; obtain ⟨hc, hf, hl, hz, -⟩ := kept hb; (try simp at hz))
  go_ret
  exact ⟨rfl, e0.tr hb⟩

set_option maxRecDepth 100000 in
set_option maxHeartbeats 8000000 in
theorem deathAll_B (l : Nat → Mo) (dead : Int) (p : Option Addr) (ms : List Int) (c : Nat) (w : World) (hph : ∀ i, 0 ≤ (l i).ph) (hs : Sl w p ms) (hcap : ms.length ≤ c) (h40 : decide (40 < (ms.length : Int)) = false) (hlen : ms.length ≤ 1000) (HO : Hid (allM l dead ms = l)) (HR : Hid (rightP (fun _ => 0) ms = false)) :
    Calls Try.prog 10 #[.agg (lm l), .int .i64 dead, .slice p ms.length c] w fun e w' => e = .returned (.bool true) ∧ Ext w w' := by
  go_enter Try.func10, Try.ntmps10
  go_upto_region 2 with (fail)
  obtain ⟨W0, hW0⟩ : ∃ W0, (w.alloc (.cells (lm l) 63)).alloc (.cells #[.int .i64 0, .int .i64 0, .int .i64 0, .int .i64 0, .int .i64 0, .int .i64 0, .int .i64 0, .int .i64 0, .int .i64 0, .int .i64 0, .int .i64 0, .int .i64 0, .int .i64 0, .int .i64 0, .int .i64 0, .int .i64 0] 22) = W0 := ⟨_, rfl⟩
  have e0 : Ext w W0 := by rw [← hW0]; exact Ext.al (Ext.al (Ext.rf _) _) _
  have s0 := hs.ext e0
  have r : rowD W0 w.heap.size = lm l := by rw [← hW0]; simp [go_sem]
  have rz : rowD W0 (w.heap.size + 1) = ov (fun _ => 0) := by rw [← hW0, ← zeros16]; simp [go_sem]
  have lb : Lt w.heap.size W0 := by rw [← hW0]; simp [Lt]; try omega
  have lz : Lt (w.heap.size + 1) W0 := by rw [← hW0]; simp [Lt]; try omega
  rw [hW0]
  clear hW0 hs
  go_upto_region 5 with (go_at_call 41; (with_reducible refine (all_any l dead p ms c _ hph s0 hlen hcap).mono ?_); rw [HO.out]; rintro e X4 ⟨rfl, h4⟩)
  obtain ⟨W4, hV⟩ : ∃ V, setRow (X4.alloc (.cells (lm mz) 63)) X4.heap.size (lm l) = V := ⟨_, rfl⟩
  obtain ⟨gV, rO, lO⟩ : Ext X4 W4 ∧ rowD W4 X4.heap.size = lm l ∧ Lt X4.heap.size W4 := by rw [← hV]; exact boxm_own X4 l
  rw [hV]
  clear hV
  have h4 : Ext W0 W4 := h4.tr gV
  have s0 := s0.ext h4
  have r := row_ext h4 lb r
  have lb : Lt w.heap.size W4 := Nat.lt_of_lt_of_le lb h4.size
  have rz := row_ext h4 lz rz
  have lz : Lt (w.heap.size + 1) W4 := Nat.lt_of_lt_of_le lz h4.size
  have e4 := e0.tr h4
  clear gV e0 h4
  generalize X4.heap.size = BO at *
  go_upto_region 6 with ((go_at_call 24; (with_reducible refine (rright_any (fun _ => 0) p ms c _ s0 hlen).mono ?_); rw [HR.out]; rintro e W5 ⟨rfl, h5⟩))
  have s0 := s0.ext h5
  have r := row_ext h5 lb r
  have lb : Lt w.heap.size W5 := Nat.lt_of_lt_of_le lb h5.size
  have rO := row_ext h5 lO rO
  have lO : Lt BO W5 := Nat.lt_of_lt_of_le lO h5.size
  have e5 := e4.tr h5
  clear e4 h5 rz lz
  go_wp2_with (go_at_call 37; (with_reducible refine (dwakes_any _).mono ?_); rintro e w' ⟨rfl, hb⟩; obtain ⟨hc, hf, hl, hz, -⟩ := kept hb; (try simp at hz))
  go_ret
  exact ⟨rfl, e5.tr hb⟩

set_option maxRecDepth 100000 in
set_option maxHeartbeats 8000000 in
theorem deathAll_C (l : Nat → Mo) (dead : Int) (p : Option Addr) (ms : List Int) (c : Nat) (w : World) (hph : ∀ i, 0 ≤ (l i).ph) (hs : Sl w p ms) (hcap : ms.length ≤ c) (h40 : decide (40 < (ms.length : Int)) = false) (hlen : ms.length ≤ 1000) (HO : Hid (allM l dead ms = l)) (HR : Hid (rightP (fun _ => 0) ms = true)) (HC : Hid (ms.any (dead == ·) = true)) :
    Calls Try.prog 10 #[.agg (lm l), .int .i64 dead, .slice p ms.length c] w fun e w' => e = .returned (.bool true) ∧ Ext w w' := by
  go_enter Try.func10, Try.ntmps10
  go_upto_region 2 with (fail)
  obtain ⟨W0, hW0⟩ : ∃ W0, (w.alloc (.cells (lm l) 63)).alloc (.cells #[.int .i64 0, .int .i64 0, .int .i64 0, .int .i64 0, .int .i64 0, .int .i64 0, .int .i64 0, .int .i64 0, .int .i64 0, .int .i64 0, .int .i64 0, .int .i64 0, .int .i64 0, .int .i64 0, .int .i64 0, .int .i64 0] 22) = W0 := ⟨_, rfl⟩
  have e0 : Ext w W0 := by rw [← hW0]; exact Ext.al (Ext.al (Ext.rf _) _) _
  have s0 := hs.ext e0
  have r : rowD W0 w.heap.size = lm l := by rw [← hW0]; simp [go_sem]
  have rz : rowD W0 (w.heap.size + 1) = ov (fun _ => 0) := by rw [← hW0, ← zeros16]; simp [go_sem]
  have lb : Lt w.heap.size W0 := by rw [← hW0]; simp [Lt]; try omega
  have lz : Lt (w.heap.size + 1) W0 := by rw [← hW0]; simp [Lt]; try omega
  rw [hW0]
  clear hW0 hs
  go_upto_region 5 with (go_at_call 41; (with_reducible refine (all_any l dead p ms c _ hph s0 hlen hcap).mono ?_); rw [HO.out]; rintro e X4 ⟨rfl, h4⟩)
  obtain ⟨W4, hV⟩ : ∃ V, setRow (X4.alloc (.cells (lm mz) 63)) X4.heap.size (lm l) = V := ⟨_, rfl⟩
  obtain ⟨gV, rO, lO⟩ : Ext X4 W4 ∧ rowD W4 X4.heap.size = lm l ∧ Lt X4.heap.size W4 := by rw [← hV]; exact boxm_own X4 l
  rw [hV]
  clear hV
  have h4 : Ext W0 W4 := h4.tr gV
  have s0 := s0.ext h4
  have r := row_ext h4 lb r
  have lb : Lt w.heap.size W4 := Nat.lt_of_lt_of_le lb h4.size
  have rz := row_ext h4 lz rz
  have lz : Lt (w.heap.size + 1) W4 := Nat.lt_of_lt_of_le lz h4.size
  have e4 := e0.tr h4
  clear gV e0 h4
  generalize X4.heap.size = BO at *
  go_upto_region 6 with (first | (go_at_call 24; (with_reducible refine (rright_any (fun _ => 0) p ms c _ s0 hlen).mono ?_); rw [HR.out]; rintro e W5 ⟨rfl, h5⟩) | (go_at_call 32; (with_reducible refine (rin_any dead p ms c _ (s0.ext h5) hlen).mono ?_); rw [HC.out]; rintro e w' ⟨rfl, rfl⟩))
  have s0 := s0.ext h5
  have r := row_ext h5 lb r
  have lb : Lt w.heap.size W5 := Nat.lt_of_lt_of_le lb h5.size
  have rO := row_ext h5 lO rO
  have lO : Lt BO W5 := Nat.lt_of_lt_of_le lO h5.size
  have e5 := e4.tr h5
  clear e4 h5 rz lz
  go_wp2_with (go_at_call 37; (with_reducible refine (dwakes_any _).mono ?_); rintro e w' ⟨rfl, hb⟩; obtain ⟨hc, hf, hl, hz, -⟩ := kept hb; (try simp at hz))
  go_ret
  exact ⟨rfl, e5.tr hb⟩

end Go.Proofs.Ytlacidecomflkaa
