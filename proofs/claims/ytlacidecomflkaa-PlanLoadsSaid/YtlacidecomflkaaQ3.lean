/- PlanFills returns true: for any owners and members that are data. -/
import Derived.Test.YtlacidecomflkaaQ2
set_option linter.unusedSimpArgs false
set_option linter.unusedVariables false
namespace Go.Proofs.Ytlacidecomflkaa
open Go.ChangeShapes Go.WideShapes Go.ChangeAt Go.RowKit

theorem box_own (X : World) (o : Nat → Int) : Ext X (setRow (X.alloc (.cells #[Value.int IntKind.i64 0, Value.int IntKind.i64 0, Value.int IntKind.i64 0, Value.int IntKind.i64 0, Value.int IntKind.i64 0, Value.int IntKind.i64 0, Value.int IntKind.i64 0, Value.int IntKind.i64 0, Value.int IntKind.i64 0, Value.int IntKind.i64 0, Value.int IntKind.i64 0, Value.int IntKind.i64 0, Value.int IntKind.i64 0, Value.int IntKind.i64 0, Value.int IntKind.i64 0, Value.int IntKind.i64 0] 22)) X.heap.size (ov o)) ∧ rowD (setRow (X.alloc (.cells #[Value.int IntKind.i64 0, Value.int IntKind.i64 0, Value.int IntKind.i64 0, Value.int IntKind.i64 0, Value.int IntKind.i64 0, Value.int IntKind.i64 0, Value.int IntKind.i64 0, Value.int IntKind.i64 0, Value.int IntKind.i64 0, Value.int IntKind.i64 0, Value.int IntKind.i64 0, Value.int IntKind.i64 0, Value.int IntKind.i64 0, Value.int IntKind.i64 0, Value.int IntKind.i64 0, Value.int IntKind.i64 0] 22)) X.heap.size (ov o)) X.heap.size = ov o ∧ X.heap.size < (setRow (X.alloc (.cells #[Value.int IntKind.i64 0, Value.int IntKind.i64 0, Value.int IntKind.i64 0, Value.int IntKind.i64 0, Value.int IntKind.i64 0, Value.int IntKind.i64 0, Value.int IntKind.i64 0, Value.int IntKind.i64 0, Value.int IntKind.i64 0, Value.int IntKind.i64 0, Value.int IntKind.i64 0, Value.int IntKind.i64 0, Value.int IntKind.i64 0, Value.int IntKind.i64 0, Value.int IntKind.i64 0, Value.int IntKind.i64 0] 22)) X.heap.size (ov o)).heap.size :=
  ⟨Ext.sr _ (Nat.le_refl _) (Ext.al (Ext.rf _) _), rowD_setRow_same _ _ _ (by rw [rowD_new]; simp), by rw [size_setRow]; simp⟩

set_option maxRecDepth 20000 in
set_option maxHeartbeats 4000000 in
theorem planFills_A (o : Nat → Int) (p : Option Addr) (ms : List Int) (c : Nat) (w : World) (HG : Hid (decide (40 < (ms.length : Int)) = true)) :
    Calls Try.prog 6 #[.agg (ov o), .slice p ms.length c] w fun e w' => e = .returned (.bool true) ∧ Ext w w' := by
  have hE0 : Ext w (w.alloc (.cells (ov o) 22)) := Ext.al (Ext.rf _) _
  go_enter Try.func6, Try.ntmps6
  go_wp2_with (first | (go_at_call 13; (with_reducible refine (wakes_any _).mono ?_); rintro e w' ⟨rfl, hb⟩) | (go_at_call 12; (with_reducible refine (great_any _ _ _ _).mono ?_); rw [HG.out]; rintro e w' ⟨rfl, rfl⟩))
  all_goals (go_ret; exact ⟨rfl, hE0.tr hb⟩)

set_option maxRecDepth 20000 in
set_option maxHeartbeats 4000000 in
theorem planFills_B (o : Nat → Int) (p : Option Addr) (ms : List Int) (c : Nat) (w : World) (HG : Hid (decide (40 < (ms.length : Int)) = false)) (hlen : ms.length ≤ 1000) (hs : Sl w p ms) (hcap : ms.length ≤ c) (HR : Hid (rightP o ms = false)) :
    Calls Try.prog 6 #[.agg (ov o), .slice p ms.length c] w fun e w' => e = .returned (.bool true) ∧ Ext w w' := by
  have hE0 : Ext w (w.alloc (.cells (ov o) 22)) := Ext.al (Ext.rf _) _
  go_enter Try.func6, Try.ntmps6
  go_wp2_with (first | (go_at_call 13; (with_reducible refine (wakes_any _).mono ?_); rintro e w' ⟨rfl, hb⟩) | (go_at_call 12; (with_reducible refine (great_any _ _ _ _).mono ?_); rw [HG.out]; rintro e w' ⟨rfl, rfl⟩) | (go_at_call 24; (with_reducible refine (rright_any o p ms c _ (hs.ext hE0) hlen).mono ?_); rw [HR.out]; rintro e W1 ⟨rfl, h1⟩))
  all_goals (go_ret; exact ⟨rfl, (hE0.tr h1).tr hb⟩)

set_option maxRecDepth 20000 in
set_option maxHeartbeats 4000000 in
theorem planFills_C (o : Nat → Int) (p : Option Addr) (ms : List Int) (c : Nat) (w : World) (HG : Hid (decide (40 < (ms.length : Int)) = false)) (hlen : ms.length ≤ 1000) (hs : Sl w p ms) (hcap : ms.length ≤ c) (HR : Hid (rightP o ms = true)) (b0 : ((ms.length : Int) == 0) = true) :
    Calls Try.prog 6 #[.agg (ov o), .slice p ms.length c] w fun e w' => e = .returned (.bool true) ∧ Ext w w' := by
  have hE0 : Ext w (w.alloc (.cells (ov o) 22)) := Ext.al (Ext.rf _) _
  go_enter Try.func6, Try.ntmps6
  go_wp2_with (first | (go_at_call 13; (with_reducible refine (wakes_any _).mono ?_); rintro e w' ⟨rfl, hb⟩) | (go_at_call 12; (with_reducible refine (great_any _ _ _ _).mono ?_); rw [HG.out]; rintro e w' ⟨rfl, rfl⟩) | (go_at_call 24; (with_reducible refine (rright_any o p ms c _ (hs.ext hE0) hlen).mono ?_); rw [HR.out]; rintro e W1 ⟨rfl, h1⟩))
  all_goals (go_ret; exact ⟨rfl, (hE0.tr h1).tr hb⟩)

set_option maxRecDepth 20000 in
set_option maxHeartbeats 4000000 in
theorem planFills_D (o : Nat → Int) (p : Option Addr) (ms : List Int) (c : Nat) (w : World) (HG : Hid (decide (40 < (ms.length : Int)) = false)) (hlen : ms.length ≤ 1000) (hs : Sl w p ms) (hcap : ms.length ≤ c) (HR : Hid (rightP o ms = true)) (b0 : ((ms.length : Int) == 0) = false) (HF : Hid (fillE o ms = 0)) (hxl : (fillX o ms).length ≤ 1000) (P : Nat → Int) (HP : Hid (apply o (fillX o ms) = P)) (HPI : Hid (∀ i, i < 16 → P i ∈ ms)) (HPO : Hid (∀ i, i < 16 → o i ∈ ms → P i = o i)) (b1 : (((fillX o ms).length : Int) + (wasN o ms 16 : Int) == 16) = true) (hww : ((fillX o ms).length : Int) + (wasN o ms 16 : Int) = 16) (hw0 : 0 < (wasN o ms 16 : Int)) :
    Calls Try.prog 6 #[.agg (ov o), .slice p ms.length c] w fun e w' => e = .returned (.bool true) ∧ Ext w w' := by
  go_enter Try.func6, Try.ntmps6
  go_upto_region 1 with (fail)
  have e0 : Ext w (w.alloc (.cells (ov o) 22)) := Ext.al (Ext.rf _) _
  have s0 := hs.ext e0
  have r : rowD (w.alloc (.cells (ov o) 22)) w.heap.size = ov o := rowD_new _ _ _ _
  have l : w.heap.size < (w.alloc (.cells (ov o) 22)).heap.size := by simp
  clear hs
  generalize w.alloc (.cells (ov o) 22) = W0 at *
  go_upto_region 3 with (first | (go_at_call 12; (with_reducible refine (great_any _ _ _ _).mono ?_); rw [HG.out]; rintro e w' ⟨rfl, rfl⟩) | (go_at_call 24; (with_reducible refine (rright_any o p ms c _ s0 hlen).mono ?_); rw [HR.out]; rintro e W1 ⟨rfl, h1⟩))
  have e1 := e0.tr h1
  have s0 := s0.ext h1
  have r := row_ext h1 l r
  have l := Nat.lt_of_lt_of_le l h1.size
  clear e0 h1
  go_upto_region 4 with (go_at_call 18; go_must (with_reducible refine ((fill_sl o _ ms _ _ s0 hlen hcap).mono fun _ _ h => h.er HF.out).mono ?_); rintro e W2 ⟨p2, c2, rfl, -, x2, h2⟩)
  have e2 := e1.tr h2
  have s0 := s0.ext h2
  have r := row_ext h2 l r
  have l := Nat.lt_of_lt_of_le l h2.size
  clear e1 h2
  go_upto_region 5 with (go_at_call 29; go_must (with_reducible refine (apply_any o _ _ _ _ x2 hxl).mono ?_); rw [HP.out]; rintro e X3 ⟨rfl, h3⟩)
  obtain ⟨W3, hV⟩ : ∃ V, setRow (X3.alloc (.cells #[Value.int IntKind.i64 0, Value.int IntKind.i64 0, Value.int IntKind.i64 0, Value.int IntKind.i64 0, Value.int IntKind.i64 0, Value.int IntKind.i64 0, Value.int IntKind.i64 0, Value.int IntKind.i64 0, Value.int IntKind.i64 0, Value.int IntKind.i64 0, Value.int IntKind.i64 0, Value.int IntKind.i64 0, Value.int IntKind.i64 0, Value.int IntKind.i64 0, Value.int IntKind.i64 0, Value.int IntKind.i64 0] 22)) X3.heap.size (ov P) = V := ⟨_, rfl⟩
  obtain ⟨gV, rp, lp⟩ : Ext X3 W3 ∧ rowD W3 X3.heap.size = ov P ∧ X3.heap.size < W3.heap.size := by rw [← hV]; exact box_own X3 P
  rw [hV]
  clear hV
  have h3 : Ext W2 W3 := h3.tr gV
  have e3 := e2.tr h3
  have s0 := s0.ext h3
  have r := row_ext h3 l r
  have l := Nat.lt_of_lt_of_le l h3.size
  clear e2 h3
  clear gV x2
  have hne : X3.heap.size ≠ w.heap.size → True := fun _ => trivial
  generalize X3.heap.size = BP at *
  go_wp2
  go_loopw [8, 9] (fun v8 v9 wr => ∃ k : Nat, k ≤ 16 ∧ v8 = .int .i64 (wasN o ms k) ∧ v9 = .int .i64 k ∧ Ext W3 wr) (fun _ v9 _ => 16 - (intOf v9).toNat)
  case atStart => exact ⟨0, Nat.zero_le _, rfl, rfl, Ext.rf _⟩
  case round =>
    obtain ⟨k, hk, rfl, rfl, hE⟩ := hrel
    have hR := row_ext hE l r
    have hB := row_ext hE lp rp
    have hl : Lt w.heap.size wr := Nat.lt_of_lt_of_le l hE.size
    have hlp : Lt BP wr := Nat.lt_of_lt_of_le lp hE.size
    have s := s0.ext hE
    by_cases hlt : k < 16
    · have hjl : (k : Int) < 16 := by omega
      have hco := cell_row (i := k) hR hlt
      have hcp := cell_row (i := k) hB hlt
      have HR' := Lib.hid hR
      have HB' := Lib.hid hB
      clear hR hB
      have cP : ∀ W', Ext wr W' → Calls Try.prog 32 #[.slice p ms.length c, .int .i64 (P k)] W' fun e w' => e = .returned (.bool true) ∧ W' = w' := fun W' h => by
        have := rin_any (P k) p ms c W' (s.ext h) hlen
        rwa [(any_iff ms _).2 (HPI.out k hlt)] at this
      have hwk := wasN_le o ms k
      cases hb : ms.any (o k == ·)
      · have cO : ∀ W', Ext wr W' → Calls Try.prog 32 #[.slice p ms.length c, .int .i64 (o k)] W' fun e w' => e = .returned (.bool false) ∧ W' = w' := fun W' h => by
          have := rin_any (o k) p ms c W' (s.ext h) hlen
          rwa [hb] at this
        have HW := Lib.hid (show wasN o ms (k + 1) = wasN o ms k by rw [wasN, hb]; simp)
        clear hb
        go_wp2_with (fail)
        refine wp_region_later (by kernel_rfl) (by kernel_rfl) ?_; (repeat (go_big_quiet_step (first | (go_at_call 32; first | with_reducible exact calls_later_same (cP _ (later_ext _)) | with_reducible exact calls_later_same (cO _ (later_ext _)) | (refine calls_later_same (v := .bool true) ?_; with_reducible exact cP _ (later_ext _)))))); refine wpQuiet_nil ?_; intro d
        have hd := later_ext d
        generalize later d = w1 at *
        have hR := row_ext hd hl HR'.out
        have hco := cell_row (i := k) hR hlt
        clear hR
        go_wp2_with (go_at_call 32; (with_reducible refine (cO _ hd).mono ?_); rintro e w' ⟨rfl, rfl⟩)
        go_roundw
        case rel => exact ⟨k + 1, by omega, by rw [HW.out], by go_num, hE.tr hd⟩
        case measure => simp [intOf]; omega
      · have cO : ∀ W', Ext wr W' → Calls Try.prog 32 #[.slice p ms.length c, .int .i64 (o k)] W' fun e w' => e = .returned (.bool true) ∧ W' = w' := fun W' h => by
          have := rin_any (o k) p ms c W' (s.ext h) hlen
          rwa [hb] at this
        have HW := Lib.hid (show wasN o ms (k + 1) = wasN o ms k + 1 by rw [wasN, hb]; simp)
        have hPe : P k = o k := HPO.out k hlt ((any_iff ms _).1 hb)
        rw [hPe] at hcp cP
        clear hb hPe
        go_wp2_with (fail)
        refine wp_region_later (by kernel_rfl) (by kernel_rfl) ?_; (repeat (go_big_quiet_step (first | (go_at_call 32; first | with_reducible exact calls_later_same (cP _ (later_ext _)) | with_reducible exact calls_later_same (cO _ (later_ext _)) | (refine calls_later_same (v := .bool true) ?_; with_reducible exact cP _ (later_ext _)))))); refine wpQuiet_nil ?_; intro d
        have hd := later_ext d
        generalize later d = w1 at *
        have hR := row_ext hd hl HR'.out
        have hco := cell_row (i := k) hR hlt
        clear hR
        go_wp2_with (go_at_call 32; (with_reducible refine (cO _ hd).mono ?_); rintro e w' ⟨rfl, rfl⟩)
        go_roundw
        case rel => exact ⟨k + 1, by omega, by rw [HW.out]; go_num, by go_num, hE.tr hd⟩
        case measure => simp [intOf]; omega
    · obtain rfl : k = 16 := by omega
      clear hk hlt
      go_wp2_with (first | (go_at_call 13; (with_reducible refine (wakes_any _).mono ?_); rintro e W5 ⟨rfl, h5⟩; obtain ⟨hc5, hf5, hl5, hz5, -⟩ := kept h5; obtain ⟨hr5, hq5⟩ := keptR h5; (try simp at hz5)))
      go_ret
      exact ⟨rfl, (e3.tr hE).tr h5⟩

set_option maxRecDepth 20000 in
set_option maxHeartbeats 4000000 in
theorem planFills_E (o : Nat → Int) (p : Option Addr) (ms : List Int) (c : Nat) (w : World) (HG : Hid (decide (40 < (ms.length : Int)) = false)) (hlen : ms.length ≤ 1000) (hs : Sl w p ms) (hcap : ms.length ≤ c) (HR : Hid (rightP o ms = true)) (b0 : ((ms.length : Int) == 0) = false) (HF : Hid (fillE o ms = 0)) (hxl : (fillX o ms).length ≤ 1000) (P : Nat → Int) (HP : Hid (apply o (fillX o ms) = P)) (HPI : Hid (∀ i, i < 16 → P i ∈ ms)) (HPO : Hid (∀ i, i < 16 → o i ∈ ms → P i = o i)) (b1 : (((fillX o ms).length : Int) + (wasN o ms 16 : Int) == 16) = true) (hww : ((fillX o ms).length : Int) + (wasN o ms 16 : Int) = 16) (hw0 : (wasN o ms 16 : Int) = 0) (HV : Hid (evenP P ms = true)) :
    Calls Try.prog 6 #[.agg (ov o), .slice p ms.length c] w fun e w' => e = .returned (.bool true) ∧ Ext w w' := by
  go_enter Try.func6, Try.ntmps6
  go_upto_region 1 with (fail)
  have e0 : Ext w (w.alloc (.cells (ov o) 22)) := Ext.al (Ext.rf _) _
  have s0 := hs.ext e0
  have r : rowD (w.alloc (.cells (ov o) 22)) w.heap.size = ov o := rowD_new _ _ _ _
  have l : w.heap.size < (w.alloc (.cells (ov o) 22)).heap.size := by simp
  clear hs
  generalize w.alloc (.cells (ov o) 22) = W0 at *
  go_upto_region 3 with (first | (go_at_call 12; (with_reducible refine (great_any _ _ _ _).mono ?_); rw [HG.out]; rintro e w' ⟨rfl, rfl⟩) | (go_at_call 24; (with_reducible refine (rright_any o p ms c _ s0 hlen).mono ?_); rw [HR.out]; rintro e W1 ⟨rfl, h1⟩))
  have e1 := e0.tr h1
  have s0 := s0.ext h1
  have r := row_ext h1 l r
  have l := Nat.lt_of_lt_of_le l h1.size
  clear e0 h1
  go_upto_region 4 with (go_at_call 18; go_must (with_reducible refine ((fill_sl o _ ms _ _ s0 hlen hcap).mono fun _ _ h => h.er HF.out).mono ?_); rintro e W2 ⟨p2, c2, rfl, -, x2, h2⟩)
  have e2 := e1.tr h2
  have s0 := s0.ext h2
  have r := row_ext h2 l r
  have l := Nat.lt_of_lt_of_le l h2.size
  clear e1 h2
  go_upto_region 5 with (go_at_call 29; go_must (with_reducible refine (apply_any o _ _ _ _ x2 hxl).mono ?_); rw [HP.out]; rintro e X3 ⟨rfl, h3⟩)
  obtain ⟨W3, hV⟩ : ∃ V, setRow (X3.alloc (.cells #[Value.int IntKind.i64 0, Value.int IntKind.i64 0, Value.int IntKind.i64 0, Value.int IntKind.i64 0, Value.int IntKind.i64 0, Value.int IntKind.i64 0, Value.int IntKind.i64 0, Value.int IntKind.i64 0, Value.int IntKind.i64 0, Value.int IntKind.i64 0, Value.int IntKind.i64 0, Value.int IntKind.i64 0, Value.int IntKind.i64 0, Value.int IntKind.i64 0, Value.int IntKind.i64 0, Value.int IntKind.i64 0] 22)) X3.heap.size (ov P) = V := ⟨_, rfl⟩
  obtain ⟨gV, rp, lp⟩ : Ext X3 W3 ∧ rowD W3 X3.heap.size = ov P ∧ X3.heap.size < W3.heap.size := by rw [← hV]; exact box_own X3 P
  rw [hV]
  clear hV
  have h3 : Ext W2 W3 := h3.tr gV
  have e3 := e2.tr h3
  have s0 := s0.ext h3
  have r := row_ext h3 l r
  have l := Nat.lt_of_lt_of_le l h3.size
  clear e2 h3
  clear gV x2
  have hne : X3.heap.size ≠ w.heap.size → True := fun _ => trivial
  generalize X3.heap.size = BP at *
  go_wp2
  go_loopw [8, 9] (fun v8 v9 wr => ∃ k : Nat, k ≤ 16 ∧ v8 = .int .i64 (wasN o ms k) ∧ v9 = .int .i64 k ∧ Ext W3 wr) (fun _ v9 _ => 16 - (intOf v9).toNat)
  case atStart => exact ⟨0, Nat.zero_le _, rfl, rfl, Ext.rf _⟩
  case round =>
    obtain ⟨k, hk, rfl, rfl, hE⟩ := hrel
    have hR := row_ext hE l r
    have hB := row_ext hE lp rp
    have hl : Lt w.heap.size wr := Nat.lt_of_lt_of_le l hE.size
    have hlp : Lt BP wr := Nat.lt_of_lt_of_le lp hE.size
    have s := s0.ext hE
    by_cases hlt : k < 16
    · have hjl : (k : Int) < 16 := by omega
      have hco := cell_row (i := k) hR hlt
      have hcp := cell_row (i := k) hB hlt
      have HR' := Lib.hid hR
      have HB' := Lib.hid hB
      clear hR hB
      have cP : ∀ W', Ext wr W' → Calls Try.prog 32 #[.slice p ms.length c, .int .i64 (P k)] W' fun e w' => e = .returned (.bool true) ∧ W' = w' := fun W' h => by
        have := rin_any (P k) p ms c W' (s.ext h) hlen
        rwa [(any_iff ms _).2 (HPI.out k hlt)] at this
      have hwk := wasN_le o ms k
      cases hb : ms.any (o k == ·)
      · have cO : ∀ W', Ext wr W' → Calls Try.prog 32 #[.slice p ms.length c, .int .i64 (o k)] W' fun e w' => e = .returned (.bool false) ∧ W' = w' := fun W' h => by
          have := rin_any (o k) p ms c W' (s.ext h) hlen
          rwa [hb] at this
        have HW := Lib.hid (show wasN o ms (k + 1) = wasN o ms k by rw [wasN, hb]; simp)
        clear hb
        go_wp2_with (fail)
        refine wp_region_later (by kernel_rfl) (by kernel_rfl) ?_; (repeat (go_big_quiet_step (first | (go_at_call 32; first | with_reducible exact calls_later_same (cP _ (later_ext _)) | with_reducible exact calls_later_same (cO _ (later_ext _)) | (refine calls_later_same (v := .bool true) ?_; with_reducible exact cP _ (later_ext _)))))); refine wpQuiet_nil ?_; intro d
        have hd := later_ext d
        generalize later d = w1 at *
        have hR := row_ext hd hl HR'.out
        have hco := cell_row (i := k) hR hlt
        clear hR
        go_wp2_with (go_at_call 32; (with_reducible refine (cO _ hd).mono ?_); rintro e w' ⟨rfl, rfl⟩)
        go_roundw
        case rel => exact ⟨k + 1, by omega, by rw [HW.out], by go_num, hE.tr hd⟩
        case measure => simp [intOf]; omega
      · have cO : ∀ W', Ext wr W' → Calls Try.prog 32 #[.slice p ms.length c, .int .i64 (o k)] W' fun e w' => e = .returned (.bool true) ∧ W' = w' := fun W' h => by
          have := rin_any (o k) p ms c W' (s.ext h) hlen
          rwa [hb] at this
        have HW := Lib.hid (show wasN o ms (k + 1) = wasN o ms k + 1 by rw [wasN, hb]; simp)
        have hPe : P k = o k := HPO.out k hlt ((any_iff ms _).1 hb)
        rw [hPe] at hcp cP
        clear hb hPe
        go_wp2_with (fail)
        refine wp_region_later (by kernel_rfl) (by kernel_rfl) ?_; (repeat (go_big_quiet_step (first | (go_at_call 32; first | with_reducible exact calls_later_same (cP _ (later_ext _)) | with_reducible exact calls_later_same (cO _ (later_ext _)) | (refine calls_later_same (v := .bool true) ?_; with_reducible exact cP _ (later_ext _)))))); refine wpQuiet_nil ?_; intro d
        have hd := later_ext d
        generalize later d = w1 at *
        have hR := row_ext hd hl HR'.out
        have hco := cell_row (i := k) hR hlt
        clear hR
        go_wp2_with (go_at_call 32; (with_reducible refine (cO _ hd).mono ?_); rintro e w' ⟨rfl, rfl⟩)
        go_roundw
        case rel => exact ⟨k + 1, by omega, by rw [HW.out]; go_num, by go_num, hE.tr hd⟩
        case measure => simp [intOf]; omega
    · obtain rfl : k = 16 := by omega
      clear hk hlt
      go_wp2_with (first | (go_at_call 31; (with_reducible refine (even_any P _ _ _ _ s hlen hcap).mono ?_); rw [HV.out]; rintro e W4 ⟨rfl, h4⟩; obtain ⟨hc4, hf4, hl4, hz4, -⟩ := kept h4; obtain ⟨hr4, hq4⟩ := keptR h4; (try simp at hz4)) | (go_at_call 13; (with_reducible refine (wakes_any _).mono ?_); rintro e W5 ⟨rfl, h5⟩; obtain ⟨hc5, hf5, hl5, hz5, -⟩ := kept h5; obtain ⟨hr5, hq5⟩ := keptR h5; (try simp at hz5)))
      go_ret
      exact ⟨rfl, ((e3.tr hE).tr h4).tr h5⟩

theorem planFills_walk (o : Nat → Int) (p : Option Addr) (ms : List Int) (c : Nat) (w : World) (hs : Sl w p ms) (hcap : ms.length ≤ c) :
    Calls Try.prog 6 #[.agg (ov o), .slice p ms.length c] w fun e w' => e = .returned (.bool true) ∧ Ext w w' := by
  by_cases h1 : 40 < (ms.length : Int)
  · exact planFills_A o p ms c w (Lib.hid (decide_eq_true h1))
  have hlen : ms.length ≤ 1000 := by omega
  have HG := Lib.hid (decide_eq_false h1)
  cases hr : rightP o ms
  · exact planFills_B o p ms c w HG hlen hs hcap hr
  by_cases h0 : ms.length = 0
  · exact planFills_C o p ms c w HG hlen hs hcap hr (by rw [beq_iff_eq]; omega)
  have hx : (fillX o ms).length ≤ 1000 := Nat.le_trans (fillX_len _ _) (by omega)
  obtain ⟨h2, h3, h4, h5, h6⟩ := fills_law o ms hr (by omega)
  have b0 : ((ms.length : Int) == 0) = false := by rw [beq_eq_false_iff_ne]; omega
  have h7 : ((fillX o ms).length : Int) + (wasN o ms 16 : Int) = 16 := by omega
  by_cases hw : wasN o ms 16 = 0
  · exact planFills_E o p ms c w HG hlen hs hcap hr b0 h2 hx _ (Lib.hid rfl) (Lib.hid h3) (Lib.hid h4) (by rw [beq_iff_eq]; exact h7) h7 (by omega) (h6 hw)
  · exact planFills_D o p ms c w HG hlen hs hcap hr b0 h2 hx _ (Lib.hid rfl) (Lib.hid h3) (Lib.hid h4) (by rw [beq_iff_eq]; exact h7) h7 (by omega)

set_option maxRecDepth 100000 in
theorem planFills_lifted (os : Os) (started : os.Started) (H : Type) (enc : TypeId × Value → H) :
    ReturnsInHanded {} Try.checked os 6 .any (Rows.planFillsSpec.pre6 enc Try.prog Try.f6 Rows.planFillsRow.domain false) (Rows.planFillsSpec.post enc Try.prog Try.f6 false true false false) := by
  refine law_lift 4 ownKn started (by kernel_rfl) Try.func6 (ChangeSpec.witness6 (enc := enc) (C := Try.checked) false ⟨#[], #[.agg #[.int .i64 0, .int .i64 0, .int .i64 0, .int .i64 0, .int .i64 0, .int .i64 0, .int .i64 0, .int .i64 0, .int .i64 0, .int .i64 0, .int .i64 0, .int .i64 0, .int .i64 0, .int .i64 0, .int .i64 0, .int .i64 0], .slice none 0 0], []⟩ 8 (by kernel_rfl) (by kernel_rfl) (by kernel_rfl) (by kernel_rfl)) laidOut rfl (by kernel_rfl) Try.underlying4 ?_ (by kernel_rfl) ?_
  · intro ds h
    match ds, h with
    | [d0, d1], _ => rfl
  · intro W base args ds p hval hA hlt
    have hval' : ∀ (j : Nat) t v, Try.f6.params[j]? = some t → args[j]? = some v → Value.okWide Try.prog W .any base t v := hval
    have hA' : DataW.TrodAll enc Try.prog W 0 (fun _ => true) true Try.f6.params.toList args.toList ds p := hA
    rw [Try.params6] at hA' hval'
    obtain ⟨v0, vs0, d0, ds0, p0, q0, hargs, rfl, rfl, h0, r0⟩ := trodAll_cons hA'
    obtain ⟨v1, vs1, d1, ds1, p1, q1, rfl, rfl, rfl, h1, r1⟩ := trodAll_cons r0
    obtain ⟨rfl, rfl, rfl⟩ := trodAll_nil r1
    obtain rfl : args = #[v0, v1] := by cases args; simp_all
    obtain ⟨o, rfl⟩ := open_own (hval' 0 _ v0 rfl rfl) h0
    obtain ⟨p_, ms, c_, rfl, hs_, hcap_⟩ := open_mems (hval' 1 _ v1 rfl rfl) h1
    exact planFills_walk o p_ ms c_ W hs_ hcap_

theorem planFills_holds : Rows.PlanFillsSaid :=
  OpenClaim.holds_of_wide 6 Try.f6 rfl rfl rfl rfl rfl rfl rfl ⟨rfl, rfl, rfl, rfl, rfl⟩ rfl rfl rfl rfl rfl (by kernel_rfl) Try.func6 (by kernel_rfl)
    (of_decide_eq_true (by kernel_rfl)) (by unfold Func.isWrapper; first | (rw [if_pos (by decide +kernel)]; kernel_rfl) | (rw [if_neg (by decide +kernel)]; exact ⟨rfl, rfl⟩))
    (fun os started H enc _ => planFills_lifted os started H enc)
#print axioms planFills_holds

end Go.Proofs.Ytlacidecomflkaa
