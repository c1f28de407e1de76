/- PlanLoads returns true: for any owners, members and shift that are data. -/
import Derived.Test.YtlacidecomflkaaQ4
import Derived.Lib.SmallJoins
set_option linter.unusedSimpArgs false
set_option linter.unusedVariables false
namespace Go.Proofs.Ytlacidecomflkaa
open Go.ChangeShapes Go.WideShapes Go.ChangeAt Go.RowKit Go.Joins

set_option maxRecDepth 20000 in
set_option maxHeartbeats 4000000 in
theorem planLoads_A (o : Nat → Int) (p : Option Addr) (ms : List Int) (c : Nat) (sb st : Int) (w : World)  (HG : Hid (decide (40 < (ms.length : Int)) = true)) :
    Calls Try.prog 7 #[.agg (ov o), .slice p ms.length c, .agg #[.int .i64 sb, .int .i64 st]] w fun e w' => e = .returned (.bool true) ∧ Ext w w' := by
  have hE0 : Ext w ((w.alloc (.cells (ov o) 22)).alloc (.cells #[.int .i64 sb, .int .i64 st] 45)) := Ext.al (Ext.al (Ext.rf _) _) _
  go_enter Try.func7, Try.ntmps7
  go_wp2_with (first | (go_at_call 13; (with_reducible refine (wakes_any _).mono ?_); rintro e w' ⟨rfl, hb⟩) | (go_at_call 12; (with_reducible refine (great_any _ _ _ _).mono ?_); rw [HG.out]; rintro e w' ⟨rfl, rfl⟩))
  all_goals (go_ret; exact ⟨rfl, hE0.tr hb⟩)

set_option maxRecDepth 20000 in
set_option maxHeartbeats 4000000 in
theorem planLoads_B (o : Nat → Int) (p : Option Addr) (ms : List Int) (c : Nat) (sb st : Int) (w : World)  (HG : Hid (decide (40 < (ms.length : Int)) = false)) (hlen : ms.length ≤ 1000) (hs : Sl w p ms) (hcap : ms.length ≤ c) (HR : Hid (rightP o ms = false)) :
    Calls Try.prog 7 #[.agg (ov o), .slice p ms.length c, .agg #[.int .i64 sb, .int .i64 st]] w fun e w' => e = .returned (.bool true) ∧ Ext w w' := by
  have hE0 : Ext w ((w.alloc (.cells (ov o) 22)).alloc (.cells #[.int .i64 sb, .int .i64 st] 45)) := Ext.al (Ext.al (Ext.rf _) _) _
  go_enter Try.func7, Try.ntmps7
  go_wp2_with (first | (go_at_call 13; (with_reducible refine (wakes_any _).mono ?_); rintro e w' ⟨rfl, hb⟩) | (go_at_call 12; (with_reducible refine (great_any _ _ _ _).mono ?_); rw [HG.out]; rintro e w' ⟨rfl, rfl⟩) | (go_at_call 24; (with_reducible refine (rright_any o p ms c _ (hs.ext hE0) hlen).mono ?_); rw [HR.out]; rintro e W1 ⟨rfl, h1⟩))
  all_goals (go_ret; exact ⟨rfl, (hE0.tr h1).tr hb⟩)

theorem apply_one (o : Nat → Int) (b t : Int) (W : World) :
    Calls Try.prog 29 #[.agg (ov o), .slice (some ⟨W.heap.size, 0, none⟩) 1 1] (W.alloc (.cells #[.int .i64 b, .int .i64 t] 45)) fun e w' => e = .returned (.agg (ov (apply o [⟨b, t⟩]))) ∧ Ext (W.alloc (.cells #[.int .i64 b, .int .i64 t] 45)) w' :=
  apply_any o _ [⟨b, t⟩] 1 _ (slS_one W b t 45) (by simp)
attribute [local go_sem] beq_self_eq_true

set_option maxRecDepth 20000 in
set_option maxHeartbeats 4000000 in
theorem planLoads_Ta (o : Nat → Int) (p : Option Addr) (ms : List Int) (c : Nat) (sb st : Int) (w : World)  (HG : Hid (decide (40 < (ms.length : Int)) = false)) (hlen : ms.length ≤ 1000) (hs : Sl w p ms) (hcap : ms.length ≤ c) (HR : Hid (rightP o ms = true)) (HS : Hid (sumN o 6 = 16)) (HPB : Hid (pickB o ms = false)) (m0 : Hid (ms.length = 0)) (b0 : decide (0 < ms.length) = false) (b1 : decide (0 < (ms.length : Int)) = false) (P : Nat → Int) (HP : Hid (apply o [⟨sb, st⟩] = P)) (g0 : decide (sb < 0) = true) (HQ : eqO P o = true) :
    Calls Try.prog 7 #[.agg (ov o), .slice p ms.length c, .agg #[.int .i64 sb, .int .i64 st]] w fun e w' => e = .returned (.bool true) ∧ Ext w w' := by
  go_enter Try.func7, Try.ntmps7
  go_upto_region 1 with (fail)
  have e0 : Ext w ((w.alloc (.cells (ov o) 22)).alloc (.cells #[.int .i64 sb, .int .i64 st] 45)) := Ext.al (Ext.al (Ext.rf _) _) _
  have s0 := hs.ext e0
  have r : rowD ((w.alloc (.cells (ov o) 22)).alloc (.cells #[.int .i64 sb, .int .i64 st] 45)) w.heap.size = ov o := by simp [go_sem]
  have l : w.heap.size < ((w.alloc (.cells (ov o) 22)).alloc (.cells #[.int .i64 sb, .int .i64 st] 45)).heap.size := by simp; try omega
  have z : rowD ((w.alloc (.cells (ov o) 22)).alloc (.cells #[.int .i64 sb, .int .i64 st] 45)) (w.heap.size + 1) = #[.int .i64 sb, .int .i64 st] := by simp [go_sem]
  have lz : w.heap.size + 1 < ((w.alloc (.cells (ov o) 22)).alloc (.cells #[.int .i64 sb, .int .i64 st] 45)).heap.size := by simp; try omega
  clear hs
  generalize (w.alloc (.cells (ov o) 22)).alloc (.cells #[.int .i64 sb, .int .i64 st] 45) = W0 at *
  go_upto_region 3 with (first | (go_at_call 12; (with_reducible refine (great_any _ _ _ _).mono ?_); rw [HG.out]; rintro e w' ⟨rfl, rfl⟩) | (go_at_call 24; (with_reducible refine (rright_any o p ms c _ s0 hlen).mono ?_); rw [HR.out]; rintro e W1 ⟨rfl, h1⟩))
  have e1 := e0.tr h1
  have s0 := s0.ext h1
  have r := row_ext h1 l r
  have l := Nat.lt_of_lt_of_le l h1.size
  have z := row_ext h1 lz z
  have lz := Nat.lt_of_lt_of_le lz h1.size
  clear e0 h1
  go_upto_region 4 with (go_at_call 25; go_must (with_reducible refine (load_any o _ _).mono ?_); rintro e W2 ⟨rfl, h2⟩)
  have e2 := e1.tr h2
  have s0 := s0.ext h2
  have r := row_ext h2 l r
  have l := Nat.lt_of_lt_of_le l h2.size
  have z := row_ext h2 lz z
  have lz := Nat.lt_of_lt_of_le lz h2.size
  clear e1 h2
  go_wp2
  go_loopw [7, 8] (fun v i wr => ∃ k : Nat, k ≤ 6 ∧ v = .int .i64 (sumN o k) ∧ i = .int .i64 k ∧ Ext W2 wr) (fun _ i _ => 6 - (intOf i).toNat)
  case atStart => exact ⟨0, Nat.zero_le _, rfl, rfl, Ext.rf _⟩
  case round =>
    obtain ⟨k, hk, rfl, rfl, hE⟩ := hrel
    by_cases hlt : k < 6
    · have hjl : (k : Int) < 6 := by omega
      have hR := row_ext hE l r
      have hbd := sumN_bd o k
      have hld := load_bd o k
      have HN := Lib.hid (show sumN o (k + 1) = sumN o k + load o k from rfl)
      go_wp2_with (go_at_call 25; go_must (with_reducible refine (load_any o _ _).mono ?_); rintro e w1 ⟨rfl, hx⟩)
      go_roundw
      case rel => exact ⟨k + 1, by omega, by rw [HN.out], by go_num, hE.tr hx⟩
      case measure => simp [intOf]; omega
    · obtain rfl : k = 6 := by omega
      obtain ⟨W3, rfl⟩ : ∃ W3, wr = W3 := ⟨_, rfl⟩
      have h3 := hE
      rw [HS.out]
      clear hE hk hlt
      have e3 := e2.tr h3
      have s0 := s0.ext h3
      have r := row_ext h3 l r
      have l := Nat.lt_of_lt_of_le l h3.size
      have z := row_ext h3 lz z
      have lz := Nat.lt_of_lt_of_le lz h3.size
      clear e2 h3
      go_upto_region 13 with ((go_at_call 20; go_must (with_reducible refine (pick_any o p ms c _ s0 hlen hcap).mono ?_); rw [HPB.out]; rintro e W4 ⟨rfl, h4⟩))
      have e4 := e3.tr h4
      have s0 := s0.ext h4
      have r := row_ext h4 l r
      have l := Nat.lt_of_lt_of_le l h4.size
      have z := row_ext h4 lz z
      have lz := Nat.lt_of_lt_of_le lz h4.size
      clear e3 h4
      go_wp2
      go_loopw [11] (fun i wr => ∃ k : Nat, k ≤ ms.length ∧ i = .int .i64 k ∧ Ext W4 wr) (fun i _ => ms.length - (intOf i).toNat)
      case atStart => exact ⟨0, Nat.zero_le _, rfl, Ext.rf _⟩
      case round =>
        obtain ⟨k, hk, rfl, hE⟩ := hrel
        by_cases hlt : k < ms.length
        · (have := m0.out; omega)

        · obtain rfl : k = ms.length := by omega
          obtain ⟨W5, rfl⟩ : ∃ W5, wr = W5 := ⟨_, rfl⟩
          have h5 := hE
          clear hE hk hlt
          have e5 := e4.tr h5
          have s0 := s0.ext h5
          have r := row_ext h5 l r
          have l := Nat.lt_of_lt_of_le l h5.size
          have z := row_ext h5 lz z
          have lz := Nat.lt_of_lt_of_le lz h5.size
          clear e4 h5
          have z0 : wr.cell? ⟨w.heap.size + 1, 0, none⟩ = some (.int .i64 sb) := by rw [cell_rowD, z]; rfl
          have z1 : wr.cell? ⟨w.heap.size + 1, 1, none⟩ = some (.int .i64 st) := by rw [cell_rowD, z]; rfl
          go_upto_region 20 with (go_at_call 29; go_must (with_reducible refine (apply_one o sb st _).mono ?_); rw [HP.out]; rintro e X7 ⟨rfl, h7⟩)
          have h7 := (Ext.al (Ext.rf _) _).tr h7
          obtain ⟨W7, hV⟩ : ∃ V, setRow (X7.alloc (.cells #[Value.int IntKind.i64 0, Value.int IntKind.i64 0, Value.int IntKind.i64 0, Value.int IntKind.i64 0, Value.int IntKind.i64 0, Value.int IntKind.i64 0, Value.int IntKind.i64 0, Value.int IntKind.i64 0, Value.int IntKind.i64 0, Value.int IntKind.i64 0, Value.int IntKind.i64 0, Value.int IntKind.i64 0, Value.int IntKind.i64 0, Value.int IntKind.i64 0, Value.int IntKind.i64 0, Value.int IntKind.i64 0] 22)) X7.heap.size (ov P) = V := ⟨_, rfl⟩
          obtain ⟨gV, rp, lp⟩ : Ext X7 W7 ∧ rowD W7 X7.heap.size = ov P ∧ X7.heap.size < W7.heap.size := by rw [← hV]; exact box_own X7 P
          rw [hV]
          clear hV
          have h7 : Ext wr W7 := h7.tr gV
          have e7 := e5.tr h7
          have r := row_ext h7 l r
          have z := row_ext h7 lz z
          have l : Lt w.heap.size W7 := Nat.lt_of_lt_of_le l h7.size
          have lz : Lt (w.heap.size + 1) W7 := Nat.lt_of_lt_of_le lz h7.size
          have lp : Lt X7.heap.size W7 := lp
          have z0 : W7.cell? ⟨w.heap.size + 1, 0, none⟩ = some (.int .i64 sb) := by rw [cell_rowD, z]; rfl
          have z1 : W7.cell? ⟨w.heap.size + 1, 1, none⟩ = some (.int .i64 st) := by rw [cell_rowD, z]; rfl
          clear gV s0 e5 h7 z
          generalize X7.heap.size = BP at *
          refine wp_region_later (by kernel_rfl) (by kernel_rfl) ?_; (repeat (go_big_quiet_step (fail))); refine wpQuiet_nil ?_; intro d
          have hd := later_ext d
          generalize later d = w1 at *
          have r := row_ext hd l r
          have rp := row_ext hd lp rp
          clear l lp lz z0 z1
          go_wp2_with (go_at_call 13; (with_reducible refine (wakes_any _).mono ?_); rintro e W8 ⟨rfl, h8⟩)
          go_ret
          exact ⟨rfl, (e7.tr hd).tr h8⟩

set_option maxRecDepth 20000 in
set_option maxHeartbeats 4000000 in
theorem planLoads_Tb (o : Nat → Int) (p : Option Addr) (ms : List Int) (c : Nat) (sb st : Int) (w : World)  (HG : Hid (decide (40 < (ms.length : Int)) = false)) (hlen : ms.length ≤ 1000) (hs : Sl w p ms) (hcap : ms.length ≤ c) (HR : Hid (rightP o ms = true)) (HS : Hid (sumN o 6 = 16)) (HPB : Hid (pickB o ms = false)) (m0 : Hid (ms.length = 0)) (b0 : decide (0 < ms.length) = false) (b1 : decide (0 < (ms.length : Int)) = false) (P : Nat → Int) (HP : Hid (apply o [⟨sb, st⟩] = P)) (g0 : decide (sb < 0) = false) (g1 : decide (16 ≤ sb) = true) (HQ : eqO P o = true) :
    Calls Try.prog 7 #[.agg (ov o), .slice p ms.length c, .agg #[.int .i64 sb, .int .i64 st]] w fun e w' => e = .returned (.bool true) ∧ Ext w w' := by
  go_enter Try.func7, Try.ntmps7
  go_upto_region 1 with (fail)
  have e0 : Ext w ((w.alloc (.cells (ov o) 22)).alloc (.cells #[.int .i64 sb, .int .i64 st] 45)) := Ext.al (Ext.al (Ext.rf _) _) _
  have s0 := hs.ext e0
  have r : rowD ((w.alloc (.cells (ov o) 22)).alloc (.cells #[.int .i64 sb, .int .i64 st] 45)) w.heap.size = ov o := by simp [go_sem]
  have l : w.heap.size < ((w.alloc (.cells (ov o) 22)).alloc (.cells #[.int .i64 sb, .int .i64 st] 45)).heap.size := by simp; try omega
  have z : rowD ((w.alloc (.cells (ov o) 22)).alloc (.cells #[.int .i64 sb, .int .i64 st] 45)) (w.heap.size + 1) = #[.int .i64 sb, .int .i64 st] := by simp [go_sem]
  have lz : w.heap.size + 1 < ((w.alloc (.cells (ov o) 22)).alloc (.cells #[.int .i64 sb, .int .i64 st] 45)).heap.size := by simp; try omega
  clear hs
  generalize (w.alloc (.cells (ov o) 22)).alloc (.cells #[.int .i64 sb, .int .i64 st] 45) = W0 at *
  go_upto_region 3 with (first | (go_at_call 12; (with_reducible refine (great_any _ _ _ _).mono ?_); rw [HG.out]; rintro e w' ⟨rfl, rfl⟩) | (go_at_call 24; (with_reducible refine (rright_any o p ms c _ s0 hlen).mono ?_); rw [HR.out]; rintro e W1 ⟨rfl, h1⟩))
  have e1 := e0.tr h1
  have s0 := s0.ext h1
  have r := row_ext h1 l r
  have l := Nat.lt_of_lt_of_le l h1.size
  have z := row_ext h1 lz z
  have lz := Nat.lt_of_lt_of_le lz h1.size
  clear e0 h1
  go_upto_region 4 with (go_at_call 25; go_must (with_reducible refine (load_any o _ _).mono ?_); rintro e W2 ⟨rfl, h2⟩)
  have e2 := e1.tr h2
  have s0 := s0.ext h2
  have r := row_ext h2 l r
  have l := Nat.lt_of_lt_of_le l h2.size
  have z := row_ext h2 lz z
  have lz := Nat.lt_of_lt_of_le lz h2.size
  clear e1 h2
  go_wp2
  go_loopw [7, 8] (fun v i wr => ∃ k : Nat, k ≤ 6 ∧ v = .int .i64 (sumN o k) ∧ i = .int .i64 k ∧ Ext W2 wr) (fun _ i _ => 6 - (intOf i).toNat)
  case atStart => exact ⟨0, Nat.zero_le _, rfl, rfl, Ext.rf _⟩
  case round =>
    obtain ⟨k, hk, rfl, rfl, hE⟩ := hrel
    by_cases hlt : k < 6
    · have hjl : (k : Int) < 6 := by omega
      have hR := row_ext hE l r
      have hbd := sumN_bd o k
      have hld := load_bd o k
      have HN := Lib.hid (show sumN o (k + 1) = sumN o k + load o k from rfl)
      go_wp2_with (go_at_call 25; go_must (with_reducible refine (load_any o _ _).mono ?_); rintro e w1 ⟨rfl, hx⟩)
      go_roundw
      case rel => exact ⟨k + 1, by omega, by rw [HN.out], by go_num, hE.tr hx⟩
      case measure => simp [intOf]; omega
    · obtain rfl : k = 6 := by omega
      obtain ⟨W3, rfl⟩ : ∃ W3, wr = W3 := ⟨_, rfl⟩
      have h3 := hE
      rw [HS.out]
      clear hE hk hlt
      have e3 := e2.tr h3
      have s0 := s0.ext h3
      have r := row_ext h3 l r
      have l := Nat.lt_of_lt_of_le l h3.size
      have z := row_ext h3 lz z
      have lz := Nat.lt_of_lt_of_le lz h3.size
      clear e2 h3
      go_upto_region 13 with ((go_at_call 20; go_must (with_reducible refine (pick_any o p ms c _ s0 hlen hcap).mono ?_); rw [HPB.out]; rintro e W4 ⟨rfl, h4⟩))
      have e4 := e3.tr h4
      have s0 := s0.ext h4
      have r := row_ext h4 l r
      have l := Nat.lt_of_lt_of_le l h4.size
      have z := row_ext h4 lz z
      have lz := Nat.lt_of_lt_of_le lz h4.size
      clear e3 h4
      go_wp2
      go_loopw [11] (fun i wr => ∃ k : Nat, k ≤ ms.length ∧ i = .int .i64 k ∧ Ext W4 wr) (fun i _ => ms.length - (intOf i).toNat)
      case atStart => exact ⟨0, Nat.zero_le _, rfl, Ext.rf _⟩
      case round =>
        obtain ⟨k, hk, rfl, hE⟩ := hrel
        by_cases hlt : k < ms.length
        · (have := m0.out; omega)

        · obtain rfl : k = ms.length := by omega
          obtain ⟨W5, rfl⟩ : ∃ W5, wr = W5 := ⟨_, rfl⟩
          have h5 := hE
          clear hE hk hlt
          have e5 := e4.tr h5
          have s0 := s0.ext h5
          have r := row_ext h5 l r
          have l := Nat.lt_of_lt_of_le l h5.size
          have z := row_ext h5 lz z
          have lz := Nat.lt_of_lt_of_le lz h5.size
          clear e4 h5
          have z0 : wr.cell? ⟨w.heap.size + 1, 0, none⟩ = some (.int .i64 sb) := by rw [cell_rowD, z]; rfl
          have z1 : wr.cell? ⟨w.heap.size + 1, 1, none⟩ = some (.int .i64 st) := by rw [cell_rowD, z]; rfl
          go_upto_region 20 with (go_at_call 29; go_must (with_reducible refine (apply_one o sb st _).mono ?_); rw [HP.out]; rintro e X7 ⟨rfl, h7⟩)
          have h7 := (Ext.al (Ext.rf _) _).tr h7
          obtain ⟨W7, hV⟩ : ∃ V, setRow (X7.alloc (.cells #[Value.int IntKind.i64 0, Value.int IntKind.i64 0, Value.int IntKind.i64 0, Value.int IntKind.i64 0, Value.int IntKind.i64 0, Value.int IntKind.i64 0, Value.int IntKind.i64 0, Value.int IntKind.i64 0, Value.int IntKind.i64 0, Value.int IntKind.i64 0, Value.int IntKind.i64 0, Value.int IntKind.i64 0, Value.int IntKind.i64 0, Value.int IntKind.i64 0, Value.int IntKind.i64 0, Value.int IntKind.i64 0] 22)) X7.heap.size (ov P) = V := ⟨_, rfl⟩
          obtain ⟨gV, rp, lp⟩ : Ext X7 W7 ∧ rowD W7 X7.heap.size = ov P ∧ X7.heap.size < W7.heap.size := by rw [← hV]; exact box_own X7 P
          rw [hV]
          clear hV
          have h7 : Ext wr W7 := h7.tr gV
          have e7 := e5.tr h7
          have r := row_ext h7 l r
          have z := row_ext h7 lz z
          have l : Lt w.heap.size W7 := Nat.lt_of_lt_of_le l h7.size
          have lz : Lt (w.heap.size + 1) W7 := Nat.lt_of_lt_of_le lz h7.size
          have lp : Lt X7.heap.size W7 := lp
          have z0 : W7.cell? ⟨w.heap.size + 1, 0, none⟩ = some (.int .i64 sb) := by rw [cell_rowD, z]; rfl
          have z1 : W7.cell? ⟨w.heap.size + 1, 1, none⟩ = some (.int .i64 st) := by rw [cell_rowD, z]; rfl
          clear gV s0 e5 h7 z
          generalize X7.heap.size = BP at *
          refine wp_region_later (by kernel_rfl) (by kernel_rfl) ?_; (repeat (go_big_quiet_step (fail))); refine wpQuiet_nil ?_; intro d
          have hd := later_ext d
          generalize later d = w1 at *
          have r := row_ext hd l r
          have rp := row_ext hd lp rp
          clear l lp lz z0 z1
          go_wp2_with (go_at_call 13; (with_reducible refine (wakes_any _).mono ?_); rintro e W8 ⟨rfl, h8⟩)
          go_ret
          exact ⟨rfl, (e7.tr hd).tr h8⟩

set_option maxRecDepth 20000 in
set_option maxHeartbeats 4000000 in
theorem planLoads_Tc (o : Nat → Int) (p : Option Addr) (ms : List Int) (c : Nat) (sb st : Int) (w : World)  (HG : Hid (decide (40 < (ms.length : Int)) = false)) (hlen : ms.length ≤ 1000) (hs : Sl w p ms) (hcap : ms.length ≤ c) (HR : Hid (rightP o ms = true)) (HS : Hid (sumN o 6 = 16)) (HPB : Hid (pickB o ms = false)) (m0 : Hid (ms.length = 0)) (b0 : decide (0 < ms.length) = false) (b1 : decide (0 < (ms.length : Int)) = false) (P : Nat → Int) (HP : Hid (apply o [⟨sb, st⟩] = P)) (b : Nat) (hsb : Hid (sb = b)) (hb : b < 16) (HQ : eqO P o = true) (HE : (o b == st) = true) :
    Calls Try.prog 7 #[.agg (ov o), .slice p ms.length c, .agg #[.int .i64 sb, .int .i64 st]] w fun e w' => e = .returned (.bool true) ∧ Ext w w' := by
  go_enter Try.func7, Try.ntmps7
  go_upto_region 1 with (fail)
  have e0 : Ext w ((w.alloc (.cells (ov o) 22)).alloc (.cells #[.int .i64 sb, .int .i64 st] 45)) := Ext.al (Ext.al (Ext.rf _) _) _
  have s0 := hs.ext e0
  have r : rowD ((w.alloc (.cells (ov o) 22)).alloc (.cells #[.int .i64 sb, .int .i64 st] 45)) w.heap.size = ov o := by simp [go_sem]
  have l : w.heap.size < ((w.alloc (.cells (ov o) 22)).alloc (.cells #[.int .i64 sb, .int .i64 st] 45)).heap.size := by simp; try omega
  have z : rowD ((w.alloc (.cells (ov o) 22)).alloc (.cells #[.int .i64 sb, .int .i64 st] 45)) (w.heap.size + 1) = #[.int .i64 sb, .int .i64 st] := by simp [go_sem]
  have lz : w.heap.size + 1 < ((w.alloc (.cells (ov o) 22)).alloc (.cells #[.int .i64 sb, .int .i64 st] 45)).heap.size := by simp; try omega
  clear hs
  generalize (w.alloc (.cells (ov o) 22)).alloc (.cells #[.int .i64 sb, .int .i64 st] 45) = W0 at *
  go_upto_region 3 with (first | (go_at_call 12; (with_reducible refine (great_any _ _ _ _).mono ?_); rw [HG.out]; rintro e w' ⟨rfl, rfl⟩) | (go_at_call 24; (with_reducible refine (rright_any o p ms c _ s0 hlen).mono ?_); rw [HR.out]; rintro e W1 ⟨rfl, h1⟩))
  have e1 := e0.tr h1
  have s0 := s0.ext h1
  have r := row_ext h1 l r
  have l := Nat.lt_of_lt_of_le l h1.size
  have z := row_ext h1 lz z
  have lz := Nat.lt_of_lt_of_le lz h1.size
  clear e0 h1
  go_upto_region 4 with (go_at_call 25; go_must (with_reducible refine (load_any o _ _).mono ?_); rintro e W2 ⟨rfl, h2⟩)
  have e2 := e1.tr h2
  have s0 := s0.ext h2
  have r := row_ext h2 l r
  have l := Nat.lt_of_lt_of_le l h2.size
  have z := row_ext h2 lz z
  have lz := Nat.lt_of_lt_of_le lz h2.size
  clear e1 h2
  go_wp2
  go_loopw [7, 8] (fun v i wr => ∃ k : Nat, k ≤ 6 ∧ v = .int .i64 (sumN o k) ∧ i = .int .i64 k ∧ Ext W2 wr) (fun _ i _ => 6 - (intOf i).toNat)
  case atStart => exact ⟨0, Nat.zero_le _, rfl, rfl, Ext.rf _⟩
  case round =>
    obtain ⟨k, hk, rfl, rfl, hE⟩ := hrel
    by_cases hlt : k < 6
    · have hjl : (k : Int) < 6 := by omega
      have hR := row_ext hE l r
      have hbd := sumN_bd o k
      have hld := load_bd o k
      have HN := Lib.hid (show sumN o (k + 1) = sumN o k + load o k from rfl)
      go_wp2_with (go_at_call 25; go_must (with_reducible refine (load_any o _ _).mono ?_); rintro e w1 ⟨rfl, hx⟩)
      go_roundw
      case rel => exact ⟨k + 1, by omega, by rw [HN.out], by go_num, hE.tr hx⟩
      case measure => simp [intOf]; omega
    · obtain rfl : k = 6 := by omega
      obtain ⟨W3, rfl⟩ : ∃ W3, wr = W3 := ⟨_, rfl⟩
      have h3 := hE
      rw [HS.out]
      clear hE hk hlt
      have e3 := e2.tr h3
      have s0 := s0.ext h3
      have r := row_ext h3 l r
      have l := Nat.lt_of_lt_of_le l h3.size
      have z := row_ext h3 lz z
      have lz := Nat.lt_of_lt_of_le lz h3.size
      clear e2 h3
      go_upto_region 13 with ((go_at_call 20; go_must (with_reducible refine (pick_any o p ms c _ s0 hlen hcap).mono ?_); rw [HPB.out]; rintro e W4 ⟨rfl, h4⟩))
      have e4 := e3.tr h4
      have s0 := s0.ext h4
      have r := row_ext h4 l r
      have l := Nat.lt_of_lt_of_le l h4.size
      have z := row_ext h4 lz z
      have lz := Nat.lt_of_lt_of_le lz h4.size
      clear e3 h4
      go_wp2
      go_loopw [11] (fun i wr => ∃ k : Nat, k ≤ ms.length ∧ i = .int .i64 k ∧ Ext W4 wr) (fun i _ => ms.length - (intOf i).toNat)
      case atStart => exact ⟨0, Nat.zero_le _, rfl, Ext.rf _⟩
      case round =>
        obtain ⟨k, hk, rfl, hE⟩ := hrel
        by_cases hlt : k < ms.length
        · (have := m0.out; omega)

        · obtain rfl : k = ms.length := by omega
          obtain ⟨W5, rfl⟩ : ∃ W5, wr = W5 := ⟨_, rfl⟩
          have h5 := hE
          clear hE hk hlt
          have e5 := e4.tr h5
          have s0 := s0.ext h5
          have r := row_ext h5 l r
          have l := Nat.lt_of_lt_of_le l h5.size
          have z := row_ext h5 lz z
          have lz := Nat.lt_of_lt_of_le lz h5.size
          clear e4 h5
          have z0 : wr.cell? ⟨w.heap.size + 1, 0, none⟩ = some (.int .i64 sb) := by rw [cell_rowD, z]; rfl
          have z1 : wr.cell? ⟨w.heap.size + 1, 1, none⟩ = some (.int .i64 st) := by rw [cell_rowD, z]; rfl
          go_upto_region 20 with (go_at_call 29; go_must (with_reducible refine (apply_one o sb st _).mono ?_); rw [HP.out]; rintro e X7 ⟨rfl, h7⟩)
          have h7 := (Ext.al (Ext.rf _) _).tr h7
          obtain ⟨W7, hV⟩ : ∃ V, setRow (X7.alloc (.cells #[Value.int IntKind.i64 0, Value.int IntKind.i64 0, Value.int IntKind.i64 0, Value.int IntKind.i64 0, Value.int IntKind.i64 0, Value.int IntKind.i64 0, Value.int IntKind.i64 0, Value.int IntKind.i64 0, Value.int IntKind.i64 0, Value.int IntKind.i64 0, Value.int IntKind.i64 0, Value.int IntKind.i64 0, Value.int IntKind.i64 0, Value.int IntKind.i64 0, Value.int IntKind.i64 0, Value.int IntKind.i64 0] 22)) X7.heap.size (ov P) = V := ⟨_, rfl⟩
          obtain ⟨gV, rp, lp⟩ : Ext X7 W7 ∧ rowD W7 X7.heap.size = ov P ∧ X7.heap.size < W7.heap.size := by rw [← hV]; exact box_own X7 P
          rw [hV]
          clear hV
          have h7 : Ext wr W7 := h7.tr gV
          have e7 := e5.tr h7
          have r := row_ext h7 l r
          have z := row_ext h7 lz z
          have l : Lt w.heap.size W7 := Nat.lt_of_lt_of_le l h7.size
          have lz : Lt (w.heap.size + 1) W7 := Nat.lt_of_lt_of_le lz h7.size
          have lp : Lt X7.heap.size W7 := lp
          have z0 : W7.cell? ⟨w.heap.size + 1, 0, none⟩ = some (.int .i64 sb) := by rw [cell_rowD, z]; rfl
          have z1 : W7.cell? ⟨w.heap.size + 1, 1, none⟩ = some (.int .i64 st) := by rw [cell_rowD, z]; rfl
          clear gV s0 e5 h7 z
          generalize X7.heap.size = BP at *
          obtain rfl := hsb.out
          have hbl : (b : Int) < 16 := by omega
          have g1 : decide (16 ≤ (b : Int)) = false := decide_eq_false (by omega)
          have g0 : decide ((b : Int) < 0) = false := decide_eq_false (by omega)
          have cb := cell_row (i := b) r hb
          refine wp_region_later (by kernel_rfl) (by kernel_rfl) ?_; (repeat (go_big_quiet_step (fail))); refine wpQuiet_nil ?_; intro d
          have hd := later_ext d
          generalize later d = w1 at *
          have r := row_ext hd l r
          have rp := row_ext hd lp rp
          clear cb l lp lz z0 z1
          go_wp2_with (go_at_call 13; (with_reducible refine (wakes_any _).mono ?_); rintro e W8 ⟨rfl, h8⟩)
          go_ret
          exact ⟨rfl, (e7.tr hd).tr h8⟩

set_option maxRecDepth 20000 in
set_option maxHeartbeats 4000000 in
theorem planLoads_Td (o : Nat → Int) (p : Option Addr) (ms : List Int) (c : Nat) (sb st : Int) (w : World)  (HG : Hid (decide (40 < (ms.length : Int)) = false)) (hlen : ms.length ≤ 1000) (hs : Sl w p ms) (hcap : ms.length ≤ c) (HR : Hid (rightP o ms = true)) (HS : Hid (sumN o 6 = 16)) (HPB : Hid (pickB o ms = false)) (m0 : Hid (ms.length = 0)) (b0 : decide (0 < ms.length) = false) (b1 : decide (0 < (ms.length : Int)) = false) (P : Nat → Int) (HP : Hid (apply o [⟨sb, st⟩] = P)) (b : Nat) (hsb : Hid (sb = b)) (hb : b < 16) (HE : (o b == st) = false) (q1 : (load P st == load o st + 1) = true) (q2 : (load P (o b) == load o (o b) - 1) = true) :
    Calls Try.prog 7 #[.agg (ov o), .slice p ms.length c, .agg #[.int .i64 sb, .int .i64 st]] w fun e w' => e = .returned (.bool true) ∧ Ext w w' := by
  go_enter Try.func7, Try.ntmps7
  go_upto_region 1 with (fail)
  have e0 : Ext w ((w.alloc (.cells (ov o) 22)).alloc (.cells #[.int .i64 sb, .int .i64 st] 45)) := Ext.al (Ext.al (Ext.rf _) _) _
  have s0 := hs.ext e0
  have r : rowD ((w.alloc (.cells (ov o) 22)).alloc (.cells #[.int .i64 sb, .int .i64 st] 45)) w.heap.size = ov o := by simp [go_sem]
  have l : w.heap.size < ((w.alloc (.cells (ov o) 22)).alloc (.cells #[.int .i64 sb, .int .i64 st] 45)).heap.size := by simp; try omega
  have z : rowD ((w.alloc (.cells (ov o) 22)).alloc (.cells #[.int .i64 sb, .int .i64 st] 45)) (w.heap.size + 1) = #[.int .i64 sb, .int .i64 st] := by simp [go_sem]
  have lz : w.heap.size + 1 < ((w.alloc (.cells (ov o) 22)).alloc (.cells #[.int .i64 sb, .int .i64 st] 45)).heap.size := by simp; try omega
  clear hs
  generalize (w.alloc (.cells (ov o) 22)).alloc (.cells #[.int .i64 sb, .int .i64 st] 45) = W0 at *
  go_upto_region 3 with (first | (go_at_call 12; (with_reducible refine (great_any _ _ _ _).mono ?_); rw [HG.out]; rintro e w' ⟨rfl, rfl⟩) | (go_at_call 24; (with_reducible refine (rright_any o p ms c _ s0 hlen).mono ?_); rw [HR.out]; rintro e W1 ⟨rfl, h1⟩))
  have e1 := e0.tr h1
  have s0 := s0.ext h1
  have r := row_ext h1 l r
  have l := Nat.lt_of_lt_of_le l h1.size
  have z := row_ext h1 lz z
  have lz := Nat.lt_of_lt_of_le lz h1.size
  clear e0 h1
  go_upto_region 4 with (go_at_call 25; go_must (with_reducible refine (load_any o _ _).mono ?_); rintro e W2 ⟨rfl, h2⟩)
  have e2 := e1.tr h2
  have s0 := s0.ext h2
  have r := row_ext h2 l r
  have l := Nat.lt_of_lt_of_le l h2.size
  have z := row_ext h2 lz z
  have lz := Nat.lt_of_lt_of_le lz h2.size
  clear e1 h2
  go_wp2
  go_loopw [7, 8] (fun v i wr => ∃ k : Nat, k ≤ 6 ∧ v = .int .i64 (sumN o k) ∧ i = .int .i64 k ∧ Ext W2 wr) (fun _ i _ => 6 - (intOf i).toNat)
  case atStart => exact ⟨0, Nat.zero_le _, rfl, rfl, Ext.rf _⟩
  case round =>
    obtain ⟨k, hk, rfl, rfl, hE⟩ := hrel
    by_cases hlt : k < 6
    · have hjl : (k : Int) < 6 := by omega
      have hR := row_ext hE l r
      have hbd := sumN_bd o k
      have hld := load_bd o k
      have HN := Lib.hid (show sumN o (k + 1) = sumN o k + load o k from rfl)
      go_wp2_with (go_at_call 25; go_must (with_reducible refine (load_any o _ _).mono ?_); rintro e w1 ⟨rfl, hx⟩)
      go_roundw
      case rel => exact ⟨k + 1, by omega, by rw [HN.out], by go_num, hE.tr hx⟩
      case measure => simp [intOf]; omega
    · obtain rfl : k = 6 := by omega
      obtain ⟨W3, rfl⟩ : ∃ W3, wr = W3 := ⟨_, rfl⟩
      have h3 := hE
      rw [HS.out]
      clear hE hk hlt
      have e3 := e2.tr h3
      have s0 := s0.ext h3
      have r := row_ext h3 l r
      have l := Nat.lt_of_lt_of_le l h3.size
      have z := row_ext h3 lz z
      have lz := Nat.lt_of_lt_of_le lz h3.size
      clear e2 h3
      go_upto_region 13 with ((go_at_call 20; go_must (with_reducible refine (pick_any o p ms c _ s0 hlen hcap).mono ?_); rw [HPB.out]; rintro e W4 ⟨rfl, h4⟩))
      have e4 := e3.tr h4
      have s0 := s0.ext h4
      have r := row_ext h4 l r
      have l := Nat.lt_of_lt_of_le l h4.size
      have z := row_ext h4 lz z
      have lz := Nat.lt_of_lt_of_le lz h4.size
      clear e3 h4
      go_wp2
      go_loopw [11] (fun i wr => ∃ k : Nat, k ≤ ms.length ∧ i = .int .i64 k ∧ Ext W4 wr) (fun i _ => ms.length - (intOf i).toNat)
      case atStart => exact ⟨0, Nat.zero_le _, rfl, Ext.rf _⟩
      case round =>
        obtain ⟨k, hk, rfl, hE⟩ := hrel
        by_cases hlt : k < ms.length
        · (have := m0.out; omega)

        · obtain rfl : k = ms.length := by omega
          obtain ⟨W5, rfl⟩ : ∃ W5, wr = W5 := ⟨_, rfl⟩
          have h5 := hE
          clear hE hk hlt
          have e5 := e4.tr h5
          have s0 := s0.ext h5
          have r := row_ext h5 l r
          have l := Nat.lt_of_lt_of_le l h5.size
          have z := row_ext h5 lz z
          have lz := Nat.lt_of_lt_of_le lz h5.size
          clear e4 h5
          have z0 : wr.cell? ⟨w.heap.size + 1, 0, none⟩ = some (.int .i64 sb) := by rw [cell_rowD, z]; rfl
          have z1 : wr.cell? ⟨w.heap.size + 1, 1, none⟩ = some (.int .i64 st) := by rw [cell_rowD, z]; rfl
          go_upto_region 20 with (go_at_call 29; go_must (with_reducible refine (apply_one o sb st _).mono ?_); rw [HP.out]; rintro e X7 ⟨rfl, h7⟩)
          have h7 := (Ext.al (Ext.rf _) _).tr h7
          obtain ⟨W7, hV⟩ : ∃ V, setRow (X7.alloc (.cells #[Value.int IntKind.i64 0, Value.int IntKind.i64 0, Value.int IntKind.i64 0, Value.int IntKind.i64 0, Value.int IntKind.i64 0, Value.int IntKind.i64 0, Value.int IntKind.i64 0, Value.int IntKind.i64 0, Value.int IntKind.i64 0, Value.int IntKind.i64 0, Value.int IntKind.i64 0, Value.int IntKind.i64 0, Value.int IntKind.i64 0, Value.int IntKind.i64 0, Value.int IntKind.i64 0, Value.int IntKind.i64 0] 22)) X7.heap.size (ov P) = V := ⟨_, rfl⟩
          obtain ⟨gV, rp, lp⟩ : Ext X7 W7 ∧ rowD W7 X7.heap.size = ov P ∧ X7.heap.size < W7.heap.size := by rw [← hV]; exact box_own X7 P
          rw [hV]
          clear hV
          have h7 : Ext wr W7 := h7.tr gV
          have e7 := e5.tr h7
          have r := row_ext h7 l r
          have z := row_ext h7 lz z
          have l : Lt w.heap.size W7 := Nat.lt_of_lt_of_le l h7.size
          have lz : Lt (w.heap.size + 1) W7 := Nat.lt_of_lt_of_le lz h7.size
          have lp : Lt X7.heap.size W7 := lp
          have z0 : W7.cell? ⟨w.heap.size + 1, 0, none⟩ = some (.int .i64 sb) := by rw [cell_rowD, z]; rfl
          have z1 : W7.cell? ⟨w.heap.size + 1, 1, none⟩ = some (.int .i64 st) := by rw [cell_rowD, z]; rfl
          clear gV s0 e5 h7 z
          generalize X7.heap.size = BP at *
          obtain rfl := hsb.out
          have hbl : (b : Int) < 16 := by omega
          have g1 : decide (16 ≤ (b : Int)) = false := decide_eq_false (by omega)
          have g0 : decide ((b : Int) < 0) = false := decide_eq_false (by omega)
          have cb := cell_row (i := b) r hb
          have bd1 := load_bd o st
          have bd2 := load_bd o (o b)
          refine wp_region_later (by kernel_rfl) (by kernel_rfl) ?_; (repeat (go_big_quiet_step (fail))); refine wpQuiet_nil ?_; intro d
          have hd := later_ext d
          generalize later d = w1 at *
          have r := row_ext hd l r
          have rp := row_ext hd lp rp
          have cb := cell_row (i := b) r hb
          have l : Lt w.heap.size w1 := Nat.lt_of_lt_of_le l hd.size
          have lp : Lt BP w1 := Nat.lt_of_lt_of_le lp hd.size
          have ka := (kept hd).1
          have z0 : w1.cell? ⟨w.heap.size + 1, 0, none⟩ = some (.int .i64 (b : Int)) := by rw [ka, if_pos lz]; exact z0
          have z1 : w1.cell? ⟨w.heap.size + 1, 1, none⟩ = some (.int .i64 st) := by rw [ka, if_pos lz]; exact z1
          have lz : Lt (w.heap.size + 1) w1 := Nat.lt_of_lt_of_le lz hd.size
          clear ka
          go_wp2_with (fail)
          refine wp_region_later (by kernel_rfl) (by kernel_rfl) ?_; (repeat (go_big_quiet_step (first | (go_at_call 25; first | with_reducible exact calls_later (load_any P st _) | with_reducible exact calls_later (load_any o st _) | with_reducible exact calls_later (load_any P (o b) _) | with_reducible exact calls_later (load_any o (o b) _)) | (go_at_call 13; exact calls_later (wakes_any _))))); refine wpQuiet_nil ?_; intro d2
          go_wp2
          go_ret
          exact ⟨rfl, (e7.tr hd).tr (later_ext d2)⟩

set_option maxRecDepth 20000 in
set_option maxHeartbeats 4000000 in
theorem planLoads_Ua (o : Nat → Int) (p : Option Addr) (ms : List Int) (c : Nat) (sb st : Int) (w : World)  (HG : Hid (decide (40 < (ms.length : Int)) = false)) (hlen : ms.length ≤ 1000) (hs : Sl w p ms) (hcap : ms.length ≤ c) (HR : Hid (rightP o ms = true)) (HS : Hid (sumN o 6 = 16)) (HPB : Hid (pickB o ms = true)) (m0 : 0 < ms.length) (b0 : decide (0 < ms.length) = true) (b1 : decide (0 < (ms.length : Int)) = true) (HPI : Hid (ms.any (pick o ms == ·) = true)) (HPL : Hid (True ∧ ∀ m ∈ ms, load o (pick o ms) ≤ load o m ∧ (load o m = load o (pick o ms) → pick o ms ≤ m) ∧ load o m - load o (pick o ms) ≤ spread o ms)) (P : Nat → Int) (HP : Hid (apply o [⟨sb, st⟩] = P)) (g0 : decide (sb < 0) = true) (HQ : eqO P o = true) :
    Calls Try.prog 7 #[.agg (ov o), .slice p ms.length c, .agg #[.int .i64 sb, .int .i64 st]] w fun e w' => e = .returned (.bool true) ∧ Ext w w' := by
  go_enter Try.func7, Try.ntmps7
  go_upto_region 1 with (fail)
  have e0 : Ext w ((w.alloc (.cells (ov o) 22)).alloc (.cells #[.int .i64 sb, .int .i64 st] 45)) := Ext.al (Ext.al (Ext.rf _) _) _
  have s0 := hs.ext e0
  have r : rowD ((w.alloc (.cells (ov o) 22)).alloc (.cells #[.int .i64 sb, .int .i64 st] 45)) w.heap.size = ov o := by simp [go_sem]
  have l : w.heap.size < ((w.alloc (.cells (ov o) 22)).alloc (.cells #[.int .i64 sb, .int .i64 st] 45)).heap.size := by simp; try omega
  have z : rowD ((w.alloc (.cells (ov o) 22)).alloc (.cells #[.int .i64 sb, .int .i64 st] 45)) (w.heap.size + 1) = #[.int .i64 sb, .int .i64 st] := by simp [go_sem]
  have lz : w.heap.size + 1 < ((w.alloc (.cells (ov o) 22)).alloc (.cells #[.int .i64 sb, .int .i64 st] 45)).heap.size := by simp; try omega
  clear hs
  generalize (w.alloc (.cells (ov o) 22)).alloc (.cells #[.int .i64 sb, .int .i64 st] 45) = W0 at *
  go_upto_region 3 with (first | (go_at_call 12; (with_reducible refine (great_any _ _ _ _).mono ?_); rw [HG.out]; rintro e w' ⟨rfl, rfl⟩) | (go_at_call 24; (with_reducible refine (rright_any o p ms c _ s0 hlen).mono ?_); rw [HR.out]; rintro e W1 ⟨rfl, h1⟩))
  have e1 := e0.tr h1
  have s0 := s0.ext h1
  have r := row_ext h1 l r
  have l := Nat.lt_of_lt_of_le l h1.size
  have z := row_ext h1 lz z
  have lz := Nat.lt_of_lt_of_le lz h1.size
  clear e0 h1
  go_upto_region 4 with (go_at_call 25; go_must (with_reducible refine (load_any o _ _).mono ?_); rintro e W2 ⟨rfl, h2⟩)
  have e2 := e1.tr h2
  have s0 := s0.ext h2
  have r := row_ext h2 l r
  have l := Nat.lt_of_lt_of_le l h2.size
  have z := row_ext h2 lz z
  have lz := Nat.lt_of_lt_of_le lz h2.size
  clear e1 h2
  go_wp2
  go_loopw [7, 8] (fun v i wr => ∃ k : Nat, k ≤ 6 ∧ v = .int .i64 (sumN o k) ∧ i = .int .i64 k ∧ Ext W2 wr) (fun _ i _ => 6 - (intOf i).toNat)
  case atStart => exact ⟨0, Nat.zero_le _, rfl, rfl, Ext.rf _⟩
  case round =>
    obtain ⟨k, hk, rfl, rfl, hE⟩ := hrel
    by_cases hlt : k < 6
    · have hjl : (k : Int) < 6 := by omega
      have hR := row_ext hE l r
      have hbd := sumN_bd o k
      have hld := load_bd o k
      have HN := Lib.hid (show sumN o (k + 1) = sumN o k + load o k from rfl)
      go_wp2_with (go_at_call 25; go_must (with_reducible refine (load_any o _ _).mono ?_); rintro e w1 ⟨rfl, hx⟩)
      go_roundw
      case rel => exact ⟨k + 1, by omega, by rw [HN.out], by go_num, hE.tr hx⟩
      case measure => simp [intOf]; omega
    · obtain rfl : k = 6 := by omega
      obtain ⟨W3, rfl⟩ : ∃ W3, wr = W3 := ⟨_, rfl⟩
      have h3 := hE
      rw [HS.out]
      clear hE hk hlt
      have e3 := e2.tr h3
      have s0 := s0.ext h3
      have r := row_ext h3 l r
      have l := Nat.lt_of_lt_of_le l h3.size
      have z := row_ext h3 lz z
      have lz := Nat.lt_of_lt_of_le lz h3.size
      clear e2 h3
      go_upto_region 13 with (first | (go_at_call 20; go_must (with_reducible refine (pick_any o p ms c _ s0 hlen hcap).mono ?_); rw [HPB.out]; rintro e W4 ⟨rfl, h4⟩) | (go_at_call 32; (with_reducible refine (rin_any _ p ms c _ (s0.ext h4) hlen).mono ?_); rw [HPI.out]; rintro e w' ⟨rfl, rfl⟩))
      have e4 := e3.tr h4
      have s0 := s0.ext h4
      have r := row_ext h4 l r
      have l := Nat.lt_of_lt_of_le l h4.size
      have z := row_ext h4 lz z
      have lz := Nat.lt_of_lt_of_le lz h4.size
      clear e3 h4
      go_wp2
      go_loopw [11] (fun i wr => ∃ k : Nat, k ≤ ms.length ∧ i = .int .i64 k ∧ Ext W4 wr) (fun i _ => ms.length - (intOf i).toNat)
      case atStart => exact ⟨0, Nat.zero_le _, rfl, Ext.rf _⟩
      case round =>
        obtain ⟨k, hk, rfl, hE⟩ := hrel
        by_cases hlt : k < ms.length
        · have hjl : (k : Int) < ms.length := by omega
          have hR := row_ext hE l r
          have hl : Lt w.heap.size wr := Nat.lt_of_lt_of_le l hE.size
          obtain ⟨b, off, rfl, hb, hc1⟩ := (s0.ext hE) k hlt
          have hlb : Lt b wr := hb
          have hpl := (HPL.out).2 ms[k] (List.getElem_mem hlt)
          obtain ⟨m, hm⟩ : ∃ m, ms[k] = m := ⟨_, rfl⟩
          rw [show ms[k]?.getD 0 = ms[k] by simp [hlt]] at hc1
          rw [hm] at hc1 hpl
          clear hm
          obtain ⟨q1, q2, q3⟩ := hpl
          have bd1 := load_bd o m
          have bd2 := load_bd o (pick o ms)
          have HR' := Lib.hid hR
          have HC' := Lib.hid hc1
          clear hR
          have hR := HR'.out
          generalize hL1 : load o m = L1 at *
          generalize hL2 : load o (pick o ms) = L2 at *
          have d1 : decide (L1 < L2) = false := decide_eq_false (by omega)
          have d4 : decide (spread o ms < L1 - L2) = false := decide_eq_false (by omega)
          have HQ := Lib.hid q2
          clear q1 q2 q3
          go_wp2_with (fail)
          refine wp_region_later (by kernel_rfl) (by kernel_rfl) ?_; (repeat (go_big_quiet_step ((go_at_call 25; first | (refine calls_later (v := .int .i64 L1) ?_; rw [← hL1]; with_reducible exact load_any o m _) | (refine calls_later (v := .int .i64 L2) ?_; rw [← hL2]; with_reducible exact load_any o (pick o ms) _))))); refine wpQuiet_nil ?_; intro d
          have hd := later_ext d
          generalize later d = w1 at *
          have hR := row_ext hd hl HR'.out
          have hc1 : w1.cell? ⟨b, off + k, none⟩ = some (.int .i64 m) := by
            obtain ⟨ka, kb, kc, kd, -⟩ := kept hd
            rw [ka, if_pos hlb]; exact HC'.out
          clear hl hlb
          cases d2 : (L1 == L2)
          · go_wp2_with (go_at_call 27; go_must (with_reducible refine (spread_any o _ ms c _ ((s0.ext hE).ext hd) hlen hcap).mono ?_); rintro e w2 ⟨rfl, hy⟩)
            go_roundw
            case rel => exact ⟨k + 1, by omega, by go_num, (hE.tr hd).tr hy⟩
            case measure => simp [intOf]; omega
          · have d3 : decide (m < (pick o ms)) = false := decide_eq_false (by have := HQ.out (by simpa using d2); omega)
            go_wp2_with (go_at_call 27; go_must (with_reducible refine (spread_any o _ ms c _ ((s0.ext hE).ext hd) hlen hcap).mono ?_); rintro e w2 ⟨rfl, hy⟩)
            go_roundw
            case rel => exact ⟨k + 1, by omega, by go_num, (hE.tr hd).tr hy⟩
            case measure => simp [intOf]; omega

        · obtain rfl : k = ms.length := by omega
          obtain ⟨W5, rfl⟩ : ∃ W5, wr = W5 := ⟨_, rfl⟩
          have h5 := hE
          clear hE hk hlt
          have e5 := e4.tr h5
          have s0 := s0.ext h5
          have r := row_ext h5 l r
          have l := Nat.lt_of_lt_of_le l h5.size
          have z := row_ext h5 lz z
          have lz := Nat.lt_of_lt_of_le lz h5.size
          clear e4 h5
          have z0 : wr.cell? ⟨w.heap.size + 1, 0, none⟩ = some (.int .i64 sb) := by rw [cell_rowD, z]; rfl
          have z1 : wr.cell? ⟨w.heap.size + 1, 1, none⟩ = some (.int .i64 st) := by rw [cell_rowD, z]; rfl
          go_upto_region 20 with (go_at_call 29; go_must (with_reducible refine (apply_one o sb st _).mono ?_); rw [HP.out]; rintro e X7 ⟨rfl, h7⟩)
          have h7 := (Ext.al (Ext.rf _) _).tr h7
          obtain ⟨W7, hV⟩ : ∃ V, setRow (X7.alloc (.cells #[Value.int IntKind.i64 0, Value.int IntKind.i64 0, Value.int IntKind.i64 0, Value.int IntKind.i64 0, Value.int IntKind.i64 0, Value.int IntKind.i64 0, Value.int IntKind.i64 0, Value.int IntKind.i64 0, Value.int IntKind.i64 0, Value.int IntKind.i64 0, Value.int IntKind.i64 0, Value.int IntKind.i64 0, Value.int IntKind.i64 0, Value.int IntKind.i64 0, Value.int IntKind.i64 0, Value.int IntKind.i64 0] 22)) X7.heap.size (ov P) = V := ⟨_, rfl⟩
          obtain ⟨gV, rp, lp⟩ : Ext X7 W7 ∧ rowD W7 X7.heap.size = ov P ∧ X7.heap.size < W7.heap.size := by rw [← hV]; exact box_own X7 P
          rw [hV]
          clear hV
          have h7 : Ext wr W7 := h7.tr gV
          have e7 := e5.tr h7
          have r := row_ext h7 l r
          have z := row_ext h7 lz z
          have l : Lt w.heap.size W7 := Nat.lt_of_lt_of_le l h7.size
          have lz : Lt (w.heap.size + 1) W7 := Nat.lt_of_lt_of_le lz h7.size
          have lp : Lt X7.heap.size W7 := lp
          have z0 : W7.cell? ⟨w.heap.size + 1, 0, none⟩ = some (.int .i64 sb) := by rw [cell_rowD, z]; rfl
          have z1 : W7.cell? ⟨w.heap.size + 1, 1, none⟩ = some (.int .i64 st) := by rw [cell_rowD, z]; rfl
          clear gV s0 e5 h7 z
          generalize X7.heap.size = BP at *
          refine wp_region_later (by kernel_rfl) (by kernel_rfl) ?_; (repeat (go_big_quiet_step (fail))); refine wpQuiet_nil ?_; intro d
          have hd := later_ext d
          generalize later d = w1 at *
          have r := row_ext hd l r
          have rp := row_ext hd lp rp
          clear l lp lz z0 z1
          go_wp2_with (go_at_call 13; (with_reducible refine (wakes_any _).mono ?_); rintro e W8 ⟨rfl, h8⟩)
          go_ret
          exact ⟨rfl, (e7.tr hd).tr h8⟩

set_option maxRecDepth 20000 in
set_option maxHeartbeats 4000000 in
theorem planLoads_Ub (o : Nat → Int) (p : Option Addr) (ms : List Int) (c : Nat) (sb st : Int) (w : World)  (HG : Hid (decide (40 < (ms.length : Int)) = false)) (hlen : ms.length ≤ 1000) (hs : Sl w p ms) (hcap : ms.length ≤ c) (HR : Hid (rightP o ms = true)) (HS : Hid (sumN o 6 = 16)) (HPB : Hid (pickB o ms = true)) (m0 : 0 < ms.length) (b0 : decide (0 < ms.length) = true) (b1 : decide (0 < (ms.length : Int)) = true) (HPI : Hid (ms.any (pick o ms == ·) = true)) (HPL : Hid (True ∧ ∀ m ∈ ms, load o (pick o ms) ≤ load o m ∧ (load o m = load o (pick o ms) → pick o ms ≤ m) ∧ load o m - load o (pick o ms) ≤ spread o ms)) (P : Nat → Int) (HP : Hid (apply o [⟨sb, st⟩] = P)) (g0 : decide (sb < 0) = false) (g1 : decide (16 ≤ sb) = true) (HQ : eqO P o = true) :
    Calls Try.prog 7 #[.agg (ov o), .slice p ms.length c, .agg #[.int .i64 sb, .int .i64 st]] w fun e w' => e = .returned (.bool true) ∧ Ext w w' := by
  go_enter Try.func7, Try.ntmps7
  go_upto_region 1 with (fail)
  have e0 : Ext w ((w.alloc (.cells (ov o) 22)).alloc (.cells #[.int .i64 sb, .int .i64 st] 45)) := Ext.al (Ext.al (Ext.rf _) _) _
  have s0 := hs.ext e0
  have r : rowD ((w.alloc (.cells (ov o) 22)).alloc (.cells #[.int .i64 sb, .int .i64 st] 45)) w.heap.size = ov o := by simp [go_sem]
  have l : w.heap.size < ((w.alloc (.cells (ov o) 22)).alloc (.cells #[.int .i64 sb, .int .i64 st] 45)).heap.size := by simp; try omega
  have z : rowD ((w.alloc (.cells (ov o) 22)).alloc (.cells #[.int .i64 sb, .int .i64 st] 45)) (w.heap.size + 1) = #[.int .i64 sb, .int .i64 st] := by simp [go_sem]
  have lz : w.heap.size + 1 < ((w.alloc (.cells (ov o) 22)).alloc (.cells #[.int .i64 sb, .int .i64 st] 45)).heap.size := by simp; try omega
  clear hs
  generalize (w.alloc (.cells (ov o) 22)).alloc (.cells #[.int .i64 sb, .int .i64 st] 45) = W0 at *
  go_upto_region 3 with (first | (go_at_call 12; (with_reducible refine (great_any _ _ _ _).mono ?_); rw [HG.out]; rintro e w' ⟨rfl, rfl⟩) | (go_at_call 24; (with_reducible refine (rright_any o p ms c _ s0 hlen).mono ?_); rw [HR.out]; rintro e W1 ⟨rfl, h1⟩))
  have e1 := e0.tr h1
  have s0 := s0.ext h1
  have r := row_ext h1 l r
  have l := Nat.lt_of_lt_of_le l h1.size
  have z := row_ext h1 lz z
  have lz := Nat.lt_of_lt_of_le lz h1.size
  clear e0 h1
  go_upto_region 4 with (go_at_call 25; go_must (with_reducible refine (load_any o _ _).mono ?_); rintro e W2 ⟨rfl, h2⟩)
  have e2 := e1.tr h2
  have s0 := s0.ext h2
  have r := row_ext h2 l r
  have l := Nat.lt_of_lt_of_le l h2.size
  have z := row_ext h2 lz z
  have lz := Nat.lt_of_lt_of_le lz h2.size
  clear e1 h2
  go_wp2
  go_loopw [7, 8] (fun v i wr => ∃ k : Nat, k ≤ 6 ∧ v = .int .i64 (sumN o k) ∧ i = .int .i64 k ∧ Ext W2 wr) (fun _ i _ => 6 - (intOf i).toNat)
  case atStart => exact ⟨0, Nat.zero_le _, rfl, rfl, Ext.rf _⟩
  case round =>
    obtain ⟨k, hk, rfl, rfl, hE⟩ := hrel
    by_cases hlt : k < 6
    · have hjl : (k : Int) < 6 := by omega
      have hR := row_ext hE l r
      have hbd := sumN_bd o k
      have hld := load_bd o k
      have HN := Lib.hid (show sumN o (k + 1) = sumN o k + load o k from rfl)
      go_wp2_with (go_at_call 25; go_must (with_reducible refine (load_any o _ _).mono ?_); rintro e w1 ⟨rfl, hx⟩)
      go_roundw
      case rel => exact ⟨k + 1, by omega, by rw [HN.out], by go_num, hE.tr hx⟩
      case measure => simp [intOf]; omega
    · obtain rfl : k = 6 := by omega
      obtain ⟨W3, rfl⟩ : ∃ W3, wr = W3 := ⟨_, rfl⟩
      have h3 := hE
      rw [HS.out]
      clear hE hk hlt
      have e3 := e2.tr h3
      have s0 := s0.ext h3
      have r := row_ext h3 l r
      have l := Nat.lt_of_lt_of_le l h3.size
      have z := row_ext h3 lz z
      have lz := Nat.lt_of_lt_of_le lz h3.size
      clear e2 h3
      go_upto_region 13 with (first | (go_at_call 20; go_must (with_reducible refine (pick_any o p ms c _ s0 hlen hcap).mono ?_); rw [HPB.out]; rintro e W4 ⟨rfl, h4⟩) | (go_at_call 32; (with_reducible refine (rin_any _ p ms c _ (s0.ext h4) hlen).mono ?_); rw [HPI.out]; rintro e w' ⟨rfl, rfl⟩))
      have e4 := e3.tr h4
      have s0 := s0.ext h4
      have r := row_ext h4 l r
      have l := Nat.lt_of_lt_of_le l h4.size
      have z := row_ext h4 lz z
      have lz := Nat.lt_of_lt_of_le lz h4.size
      clear e3 h4
      go_wp2
      go_loopw [11] (fun i wr => ∃ k : Nat, k ≤ ms.length ∧ i = .int .i64 k ∧ Ext W4 wr) (fun i _ => ms.length - (intOf i).toNat)
      case atStart => exact ⟨0, Nat.zero_le _, rfl, Ext.rf _⟩
      case round =>
        obtain ⟨k, hk, rfl, hE⟩ := hrel
        by_cases hlt : k < ms.length
        · have hjl : (k : Int) < ms.length := by omega
          have hR := row_ext hE l r
          have hl : Lt w.heap.size wr := Nat.lt_of_lt_of_le l hE.size
          obtain ⟨b, off, rfl, hb, hc1⟩ := (s0.ext hE) k hlt
          have hlb : Lt b wr := hb
          have hpl := (HPL.out).2 ms[k] (List.getElem_mem hlt)
          obtain ⟨m, hm⟩ : ∃ m, ms[k] = m := ⟨_, rfl⟩
          rw [show ms[k]?.getD 0 = ms[k] by simp [hlt]] at hc1
          rw [hm] at hc1 hpl
          clear hm
          obtain ⟨q1, q2, q3⟩ := hpl
          have bd1 := load_bd o m
          have bd2 := load_bd o (pick o ms)
          have HR' := Lib.hid hR
          have HC' := Lib.hid hc1
          clear hR
          have hR := HR'.out
          generalize hL1 : load o m = L1 at *
          generalize hL2 : load o (pick o ms) = L2 at *
          have d1 : decide (L1 < L2) = false := decide_eq_false (by omega)
          have d4 : decide (spread o ms < L1 - L2) = false := decide_eq_false (by omega)
          have HQ := Lib.hid q2
          clear q1 q2 q3
          go_wp2_with (fail)
          refine wp_region_later (by kernel_rfl) (by kernel_rfl) ?_; (repeat (go_big_quiet_step ((go_at_call 25; first | (refine calls_later (v := .int .i64 L1) ?_; rw [← hL1]; with_reducible exact load_any o m _) | (refine calls_later (v := .int .i64 L2) ?_; rw [← hL2]; with_reducible exact load_any o (pick o ms) _))))); refine wpQuiet_nil ?_; intro d
          have hd := later_ext d
          generalize later d = w1 at *
          have hR := row_ext hd hl HR'.out
          have hc1 : w1.cell? ⟨b, off + k, none⟩ = some (.int .i64 m) := by
            obtain ⟨ka, kb, kc, kd, -⟩ := kept hd
            rw [ka, if_pos hlb]; exact HC'.out
          clear hl hlb
          cases d2 : (L1 == L2)
          · go_wp2_with (go_at_call 27; go_must (with_reducible refine (spread_any o _ ms c _ ((s0.ext hE).ext hd) hlen hcap).mono ?_); rintro e w2 ⟨rfl, hy⟩)
            go_roundw
            case rel => exact ⟨k + 1, by omega, by go_num, (hE.tr hd).tr hy⟩
            case measure => simp [intOf]; omega
          · have d3 : decide (m < (pick o ms)) = false := decide_eq_false (by have := HQ.out (by simpa using d2); omega)
            go_wp2_with (go_at_call 27; go_must (with_reducible refine (spread_any o _ ms c _ ((s0.ext hE).ext hd) hlen hcap).mono ?_); rintro e w2 ⟨rfl, hy⟩)
            go_roundw
            case rel => exact ⟨k + 1, by omega, by go_num, (hE.tr hd).tr hy⟩
            case measure => simp [intOf]; omega

        · obtain rfl : k = ms.length := by omega
          obtain ⟨W5, rfl⟩ : ∃ W5, wr = W5 := ⟨_, rfl⟩
          have h5 := hE
          clear hE hk hlt
          have e5 := e4.tr h5
          have s0 := s0.ext h5
          have r := row_ext h5 l r
          have l := Nat.lt_of_lt_of_le l h5.size
          have z := row_ext h5 lz z
          have lz := Nat.lt_of_lt_of_le lz h5.size
          clear e4 h5
          have z0 : wr.cell? ⟨w.heap.size + 1, 0, none⟩ = some (.int .i64 sb) := by rw [cell_rowD, z]; rfl
          have z1 : wr.cell? ⟨w.heap.size + 1, 1, none⟩ = some (.int .i64 st) := by rw [cell_rowD, z]; rfl
          go_upto_region 20 with (go_at_call 29; go_must (with_reducible refine (apply_one o sb st _).mono ?_); rw [HP.out]; rintro e X7 ⟨rfl, h7⟩)
          have h7 := (Ext.al (Ext.rf _) _).tr h7
          obtain ⟨W7, hV⟩ : ∃ V, setRow (X7.alloc (.cells #[Value.int IntKind.i64 0, Value.int IntKind.i64 0, Value.int IntKind.i64 0, Value.int IntKind.i64 0, Value.int IntKind.i64 0, Value.int IntKind.i64 0, Value.int IntKind.i64 0, Value.int IntKind.i64 0, Value.int IntKind.i64 0, Value.int IntKind.i64 0, Value.int IntKind.i64 0, Value.int IntKind.i64 0, Value.int IntKind.i64 0, Value.int IntKind.i64 0, Value.int IntKind.i64 0, Value.int IntKind.i64 0] 22)) X7.heap.size (ov P) = V := ⟨_, rfl⟩
          obtain ⟨gV, rp, lp⟩ : Ext X7 W7 ∧ rowD W7 X7.heap.size = ov P ∧ X7.heap.size < W7.heap.size := by rw [← hV]; exact box_own X7 P
          rw [hV]
          clear hV
          have h7 : Ext wr W7 := h7.tr gV
          have e7 := e5.tr h7
          have r := row_ext h7 l r
          have z := row_ext h7 lz z
          have l : Lt w.heap.size W7 := Nat.lt_of_lt_of_le l h7.size
          have lz : Lt (w.heap.size + 1) W7 := Nat.lt_of_lt_of_le lz h7.size
          have lp : Lt X7.heap.size W7 := lp
          have z0 : W7.cell? ⟨w.heap.size + 1, 0, none⟩ = some (.int .i64 sb) := by rw [cell_rowD, z]; rfl
          have z1 : W7.cell? ⟨w.heap.size + 1, 1, none⟩ = some (.int .i64 st) := by rw [cell_rowD, z]; rfl
          clear gV s0 e5 h7 z
          generalize X7.heap.size = BP at *
          refine wp_region_later (by kernel_rfl) (by kernel_rfl) ?_; (repeat (go_big_quiet_step (fail))); refine wpQuiet_nil ?_; intro d
          have hd := later_ext d
          generalize later d = w1 at *
          have r := row_ext hd l r
          have rp := row_ext hd lp rp
          clear l lp lz z0 z1
          go_wp2_with (go_at_call 13; (with_reducible refine (wakes_any _).mono ?_); rintro e W8 ⟨rfl, h8⟩)
          go_ret
          exact ⟨rfl, (e7.tr hd).tr h8⟩

set_option maxRecDepth 20000 in
set_option maxHeartbeats 4000000 in
theorem planLoads_Uc (o : Nat → Int) (p : Option Addr) (ms : List Int) (c : Nat) (sb st : Int) (w : World)  (HG : Hid (decide (40 < (ms.length : Int)) = false)) (hlen : ms.length ≤ 1000) (hs : Sl w p ms) (hcap : ms.length ≤ c) (HR : Hid (rightP o ms = true)) (HS : Hid (sumN o 6 = 16)) (HPB : Hid (pickB o ms = true)) (m0 : 0 < ms.length) (b0 : decide (0 < ms.length) = true) (b1 : decide (0 < (ms.length : Int)) = true) (HPI : Hid (ms.any (pick o ms == ·) = true)) (HPL : Hid (True ∧ ∀ m ∈ ms, load o (pick o ms) ≤ load o m ∧ (load o m = load o (pick o ms) → pick o ms ≤ m) ∧ load o m - load o (pick o ms) ≤ spread o ms)) (P : Nat → Int) (HP : Hid (apply o [⟨sb, st⟩] = P)) (b : Nat) (hsb : Hid (sb = b)) (hb : b < 16) (HQ : eqO P o = true) (HE : (o b == st) = true) :
    Calls Try.prog 7 #[.agg (ov o), .slice p ms.length c, .agg #[.int .i64 sb, .int .i64 st]] w fun e w' => e = .returned (.bool true) ∧ Ext w w' := by
  go_enter Try.func7, Try.ntmps7
  go_upto_region 1 with (fail)
  have e0 : Ext w ((w.alloc (.cells (ov o) 22)).alloc (.cells #[.int .i64 sb, .int .i64 st] 45)) := Ext.al (Ext.al (Ext.rf _) _) _
  have s0 := hs.ext e0
  have r : rowD ((w.alloc (.cells (ov o) 22)).alloc (.cells #[.int .i64 sb, .int .i64 st] 45)) w.heap.size = ov o := by simp [go_sem]
  have l : w.heap.size < ((w.alloc (.cells (ov o) 22)).alloc (.cells #[.int .i64 sb, .int .i64 st] 45)).heap.size := by simp; try omega
  have z : rowD ((w.alloc (.cells (ov o) 22)).alloc (.cells #[.int .i64 sb, .int .i64 st] 45)) (w.heap.size + 1) = #[.int .i64 sb, .int .i64 st] := by simp [go_sem]
  have lz : w.heap.size + 1 < ((w.alloc (.cells (ov o) 22)).alloc (.cells #[.int .i64 sb, .int .i64 st] 45)).heap.size := by simp; try omega
  clear hs
  generalize (w.alloc (.cells (ov o) 22)).alloc (.cells #[.int .i64 sb, .int .i64 st] 45) = W0 at *
  go_upto_region 3 with (first | (go_at_call 12; (with_reducible refine (great_any _ _ _ _).mono ?_); rw [HG.out]; rintro e w' ⟨rfl, rfl⟩) | (go_at_call 24; (with_reducible refine (rright_any o p ms c _ s0 hlen).mono ?_); rw [HR.out]; rintro e W1 ⟨rfl, h1⟩))
  have e1 := e0.tr h1
  have s0 := s0.ext h1
  have r := row_ext h1 l r
  have l := Nat.lt_of_lt_of_le l h1.size
  have z := row_ext h1 lz z
  have lz := Nat.lt_of_lt_of_le lz h1.size
  clear e0 h1
  go_upto_region 4 with (go_at_call 25; go_must (with_reducible refine (load_any o _ _).mono ?_); rintro e W2 ⟨rfl, h2⟩)
  have e2 := e1.tr h2
  have s0 := s0.ext h2
  have r := row_ext h2 l r
  have l := Nat.lt_of_lt_of_le l h2.size
  have z := row_ext h2 lz z
  have lz := Nat.lt_of_lt_of_le lz h2.size
  clear e1 h2
  go_wp2
  go_loopw [7, 8] (fun v i wr => ∃ k : Nat, k ≤ 6 ∧ v = .int .i64 (sumN o k) ∧ i = .int .i64 k ∧ Ext W2 wr) (fun _ i _ => 6 - (intOf i).toNat)
  case atStart => exact ⟨0, Nat.zero_le _, rfl, rfl, Ext.rf _⟩
  case round =>
    obtain ⟨k, hk, rfl, rfl, hE⟩ := hrel
    by_cases hlt : k < 6
    · have hjl : (k : Int) < 6 := by omega
      have hR := row_ext hE l r
      have hbd := sumN_bd o k
      have hld := load_bd o k
      have HN := Lib.hid (show sumN o (k + 1) = sumN o k + load o k from rfl)
      go_wp2_with (go_at_call 25; go_must (with_reducible refine (load_any o _ _).mono ?_); rintro e w1 ⟨rfl, hx⟩)
      go_roundw
      case rel => exact ⟨k + 1, by omega, by rw [HN.out], by go_num, hE.tr hx⟩
      case measure => simp [intOf]; omega
    · obtain rfl : k = 6 := by omega
      obtain ⟨W3, rfl⟩ : ∃ W3, wr = W3 := ⟨_, rfl⟩
      have h3 := hE
      rw [HS.out]
      clear hE hk hlt
      have e3 := e2.tr h3
      have s0 := s0.ext h3
      have r := row_ext h3 l r
      have l := Nat.lt_of_lt_of_le l h3.size
      have z := row_ext h3 lz z
      have lz := Nat.lt_of_lt_of_le lz h3.size
      clear e2 h3
      go_upto_region 13 with (first | (go_at_call 20; go_must (with_reducible refine (pick_any o p ms c _ s0 hlen hcap).mono ?_); rw [HPB.out]; rintro e W4 ⟨rfl, h4⟩) | (go_at_call 32; (with_reducible refine (rin_any _ p ms c _ (s0.ext h4) hlen).mono ?_); rw [HPI.out]; rintro e w' ⟨rfl, rfl⟩))
      have e4 := e3.tr h4
      have s0 := s0.ext h4
      have r := row_ext h4 l r
      have l := Nat.lt_of_lt_of_le l h4.size
      have z := row_ext h4 lz z
      have lz := Nat.lt_of_lt_of_le lz h4.size
      clear e3 h4
      go_wp2
      go_loopw [11] (fun i wr => ∃ k : Nat, k ≤ ms.length ∧ i = .int .i64 k ∧ Ext W4 wr) (fun i _ => ms.length - (intOf i).toNat)
      case atStart => exact ⟨0, Nat.zero_le _, rfl, Ext.rf _⟩
      case round =>
        obtain ⟨k, hk, rfl, hE⟩ := hrel
        by_cases hlt : k < ms.length
        · have hjl : (k : Int) < ms.length := by omega
          have hR := row_ext hE l r
          have hl : Lt w.heap.size wr := Nat.lt_of_lt_of_le l hE.size
          obtain ⟨b, off, rfl, hb, hc1⟩ := (s0.ext hE) k hlt
          have hlb : Lt b wr := hb
          have hpl := (HPL.out).2 ms[k] (List.getElem_mem hlt)
          obtain ⟨m, hm⟩ : ∃ m, ms[k] = m := ⟨_, rfl⟩
          rw [show ms[k]?.getD 0 = ms[k] by simp [hlt]] at hc1
          rw [hm] at hc1 hpl
          clear hm
          obtain ⟨q1, q2, q3⟩ := hpl
          have bd1 := load_bd o m
          have bd2 := load_bd o (pick o ms)
          have HR' := Lib.hid hR
          have HC' := Lib.hid hc1
          clear hR
          have hR := HR'.out
          generalize hL1 : load o m = L1 at *
          generalize hL2 : load o (pick o ms) = L2 at *
          have d1 : decide (L1 < L2) = false := decide_eq_false (by omega)
          have d4 : decide (spread o ms < L1 - L2) = false := decide_eq_false (by omega)
          have HQ := Lib.hid q2
          clear q1 q2 q3
          go_wp2_with (fail)
          refine wp_region_later (by kernel_rfl) (by kernel_rfl) ?_; (repeat (go_big_quiet_step ((go_at_call 25; first | (refine calls_later (v := .int .i64 L1) ?_; rw [← hL1]; with_reducible exact load_any o m _) | (refine calls_later (v := .int .i64 L2) ?_; rw [← hL2]; with_reducible exact load_any o (pick o ms) _))))); refine wpQuiet_nil ?_; intro d
          have hd := later_ext d
          generalize later d = w1 at *
          have hR := row_ext hd hl HR'.out
          have hc1 : w1.cell? ⟨b, off + k, none⟩ = some (.int .i64 m) := by
            obtain ⟨ka, kb, kc, kd, -⟩ := kept hd
            rw [ka, if_pos hlb]; exact HC'.out
          clear hl hlb
          cases d2 : (L1 == L2)
          · go_wp2_with (go_at_call 27; go_must (with_reducible refine (spread_any o _ ms c _ ((s0.ext hE).ext hd) hlen hcap).mono ?_); rintro e w2 ⟨rfl, hy⟩)
            go_roundw
            case rel => exact ⟨k + 1, by omega, by go_num, (hE.tr hd).tr hy⟩
            case measure => simp [intOf]; omega
          · have d3 : decide (m < (pick o ms)) = false := decide_eq_false (by have := HQ.out (by simpa using d2); omega)
            go_wp2_with (go_at_call 27; go_must (with_reducible refine (spread_any o _ ms c _ ((s0.ext hE).ext hd) hlen hcap).mono ?_); rintro e w2 ⟨rfl, hy⟩)
            go_roundw
            case rel => exact ⟨k + 1, by omega, by go_num, (hE.tr hd).tr hy⟩
            case measure => simp [intOf]; omega

        · obtain rfl : k = ms.length := by omega
          obtain ⟨W5, rfl⟩ : ∃ W5, wr = W5 := ⟨_, rfl⟩
          have h5 := hE
          clear hE hk hlt
          have e5 := e4.tr h5
          have s0 := s0.ext h5
          have r := row_ext h5 l r
          have l := Nat.lt_of_lt_of_le l h5.size
          have z := row_ext h5 lz z
          have lz := Nat.lt_of_lt_of_le lz h5.size
          clear e4 h5
          have z0 : wr.cell? ⟨w.heap.size + 1, 0, none⟩ = some (.int .i64 sb) := by rw [cell_rowD, z]; rfl
          have z1 : wr.cell? ⟨w.heap.size + 1, 1, none⟩ = some (.int .i64 st) := by rw [cell_rowD, z]; rfl
          go_upto_region 20 with (go_at_call 29; go_must (with_reducible refine (apply_one o sb st _).mono ?_); rw [HP.out]; rintro e X7 ⟨rfl, h7⟩)
          have h7 := (Ext.al (Ext.rf _) _).tr h7
          obtain ⟨W7, hV⟩ : ∃ V, setRow (X7.alloc (.cells #[Value.int IntKind.i64 0, Value.int IntKind.i64 0, Value.int IntKind.i64 0, Value.int IntKind.i64 0, Value.int IntKind.i64 0, Value.int IntKind.i64 0, Value.int IntKind.i64 0, Value.int IntKind.i64 0, Value.int IntKind.i64 0, Value.int IntKind.i64 0, Value.int IntKind.i64 0, Value.int IntKind.i64 0, Value.int IntKind.i64 0, Value.int IntKind.i64 0, Value.int IntKind.i64 0, Value.int IntKind.i64 0] 22)) X7.heap.size (ov P) = V := ⟨_, rfl⟩
          obtain ⟨gV, rp, lp⟩ : Ext X7 W7 ∧ rowD W7 X7.heap.size = ov P ∧ X7.heap.size < W7.heap.size := by rw [← hV]; exact box_own X7 P
          rw [hV]
          clear hV
          have h7 : Ext wr W7 := h7.tr gV
          have e7 := e5.tr h7
          have r := row_ext h7 l r
          have z := row_ext h7 lz z
          have l : Lt w.heap.size W7 := Nat.lt_of_lt_of_le l h7.size
          have lz : Lt (w.heap.size + 1) W7 := Nat.lt_of_lt_of_le lz h7.size
          have lp : Lt X7.heap.size W7 := lp
          have z0 : W7.cell? ⟨w.heap.size + 1, 0, none⟩ = some (.int .i64 sb) := by rw [cell_rowD, z]; rfl
          have z1 : W7.cell? ⟨w.heap.size + 1, 1, none⟩ = some (.int .i64 st) := by rw [cell_rowD, z]; rfl
          clear gV s0 e5 h7 z
          generalize X7.heap.size = BP at *
          obtain rfl := hsb.out
          have hbl : (b : Int) < 16 := by omega
          have g1 : decide (16 ≤ (b : Int)) = false := decide_eq_false (by omega)
          have g0 : decide ((b : Int) < 0) = false := decide_eq_false (by omega)
          have cb := cell_row (i := b) r hb
          refine wp_region_later (by kernel_rfl) (by kernel_rfl) ?_; (repeat (go_big_quiet_step (fail))); refine wpQuiet_nil ?_; intro d
          have hd := later_ext d
          generalize later d = w1 at *
          have r := row_ext hd l r
          have rp := row_ext hd lp rp
          clear cb l lp lz z0 z1
          go_wp2_with (go_at_call 13; (with_reducible refine (wakes_any _).mono ?_); rintro e W8 ⟨rfl, h8⟩)
          go_ret
          exact ⟨rfl, (e7.tr hd).tr h8⟩

set_option maxRecDepth 20000 in
set_option maxHeartbeats 4000000 in
theorem planLoads_Ud (o : Nat → Int) (p : Option Addr) (ms : List Int) (c : Nat) (sb st : Int) (w : World)  (HG : Hid (decide (40 < (ms.length : Int)) = false)) (hlen : ms.length ≤ 1000) (hs : Sl w p ms) (hcap : ms.length ≤ c) (HR : Hid (rightP o ms = true)) (HS : Hid (sumN o 6 = 16)) (HPB : Hid (pickB o ms = true)) (m0 : 0 < ms.length) (b0 : decide (0 < ms.length) = true) (b1 : decide (0 < (ms.length : Int)) = true) (HPI : Hid (ms.any (pick o ms == ·) = true)) (HPL : Hid (True ∧ ∀ m ∈ ms, load o (pick o ms) ≤ load o m ∧ (load o m = load o (pick o ms) → pick o ms ≤ m) ∧ load o m - load o (pick o ms) ≤ spread o ms)) (P : Nat → Int) (HP : Hid (apply o [⟨sb, st⟩] = P)) (b : Nat) (hsb : Hid (sb = b)) (hb : b < 16) (HE : (o b == st) = false) (q1 : (load P st == load o st + 1) = true) (q2 : (load P (o b) == load o (o b) - 1) = true) :
    Calls Try.prog 7 #[.agg (ov o), .slice p ms.length c, .agg #[.int .i64 sb, .int .i64 st]] w fun e w' => e = .returned (.bool true) ∧ Ext w w' := by
  go_enter Try.func7, Try.ntmps7
  go_upto_region 1 with (fail)
  have e0 : Ext w ((w.alloc (.cells (ov o) 22)).alloc (.cells #[.int .i64 sb, .int .i64 st] 45)) := Ext.al (Ext.al (Ext.rf _) _) _
  have s0 := hs.ext e0
  have r : rowD ((w.alloc (.cells (ov o) 22)).alloc (.cells #[.int .i64 sb, .int .i64 st] 45)) w.heap.size = ov o := by simp [go_sem]
  have l : w.heap.size < ((w.alloc (.cells (ov o) 22)).alloc (.cells #[.int .i64 sb, .int .i64 st] 45)).heap.size := by simp; try omega
  have z : rowD ((w.alloc (.cells (ov o) 22)).alloc (.cells #[.int .i64 sb, .int .i64 st] 45)) (w.heap.size + 1) = #[.int .i64 sb, .int .i64 st] := by simp [go_sem]
  have lz : w.heap.size + 1 < ((w.alloc (.cells (ov o) 22)).alloc (.cells #[.int .i64 sb, .int .i64 st] 45)).heap.size := by simp; try omega
  clear hs
  generalize (w.alloc (.cells (ov o) 22)).alloc (.cells #[.int .i64 sb, .int .i64 st] 45) = W0 at *
  go_upto_region 3 with (first | (go_at_call 12; (with_reducible refine (great_any _ _ _ _).mono ?_); rw [HG.out]; rintro e w' ⟨rfl, rfl⟩) | (go_at_call 24; (with_reducible refine (rright_any o p ms c _ s0 hlen).mono ?_); rw [HR.out]; rintro e W1 ⟨rfl, h1⟩))
  have e1 := e0.tr h1
  have s0 := s0.ext h1
  have r := row_ext h1 l r
  have l := Nat.lt_of_lt_of_le l h1.size
  have z := row_ext h1 lz z
  have lz := Nat.lt_of_lt_of_le lz h1.size
  clear e0 h1
  go_upto_region 4 with (go_at_call 25; go_must (with_reducible refine (load_any o _ _).mono ?_); rintro e W2 ⟨rfl, h2⟩)
  have e2 := e1.tr h2
  have s0 := s0.ext h2
  have r := row_ext h2 l r
  have l := Nat.lt_of_lt_of_le l h2.size
  have z := row_ext h2 lz z
  have lz := Nat.lt_of_lt_of_le lz h2.size
  clear e1 h2
  go_wp2
  go_loopw [7, 8] (fun v i wr => ∃ k : Nat, k ≤ 6 ∧ v = .int .i64 (sumN o k) ∧ i = .int .i64 k ∧ Ext W2 wr) (fun _ i _ => 6 - (intOf i).toNat)
  case atStart => exact ⟨0, Nat.zero_le _, rfl, rfl, Ext.rf _⟩
  case round =>
    obtain ⟨k, hk, rfl, rfl, hE⟩ := hrel
    by_cases hlt : k < 6
    · have hjl : (k : Int) < 6 := by omega
      have hR := row_ext hE l r
      have hbd := sumN_bd o k
      have hld := load_bd o k
      have HN := Lib.hid (show sumN o (k + 1) = sumN o k + load o k from rfl)
      go_wp2_with (go_at_call 25; go_must (with_reducible refine (load_any o _ _).mono ?_); rintro e w1 ⟨rfl, hx⟩)
      go_roundw
      case rel => exact ⟨k + 1, by omega, by rw [HN.out], by go_num, hE.tr hx⟩
      case measure => simp [intOf]; omega
    · obtain rfl : k = 6 := by omega
      obtain ⟨W3, rfl⟩ : ∃ W3, wr = W3 := ⟨_, rfl⟩
      have h3 := hE
      rw [HS.out]
      clear hE hk hlt
      have e3 := e2.tr h3
      have s0 := s0.ext h3
      have r := row_ext h3 l r
      have l := Nat.lt_of_lt_of_le l h3.size
      have z := row_ext h3 lz z
      have lz := Nat.lt_of_lt_of_le lz h3.size
      clear e2 h3
      go_upto_region 13 with (first | (go_at_call 20; go_must (with_reducible refine (pick_any o p ms c _ s0 hlen hcap).mono ?_); rw [HPB.out]; rintro e W4 ⟨rfl, h4⟩) | (go_at_call 32; (with_reducible refine (rin_any _ p ms c _ (s0.ext h4) hlen).mono ?_); rw [HPI.out]; rintro e w' ⟨rfl, rfl⟩))
      have e4 := e3.tr h4
      have s0 := s0.ext h4
      have r := row_ext h4 l r
      have l := Nat.lt_of_lt_of_le l h4.size
      have z := row_ext h4 lz z
      have lz := Nat.lt_of_lt_of_le lz h4.size
      clear e3 h4
      go_wp2
      go_loopw [11] (fun i wr => ∃ k : Nat, k ≤ ms.length ∧ i = .int .i64 k ∧ Ext W4 wr) (fun i _ => ms.length - (intOf i).toNat)
      case atStart => exact ⟨0, Nat.zero_le _, rfl, Ext.rf _⟩
      case round =>
        obtain ⟨k, hk, rfl, hE⟩ := hrel
        by_cases hlt : k < ms.length
        · have hjl : (k : Int) < ms.length := by omega
          have hR := row_ext hE l r
          have hl : Lt w.heap.size wr := Nat.lt_of_lt_of_le l hE.size
          obtain ⟨b, off, rfl, hb, hc1⟩ := (s0.ext hE) k hlt
          have hlb : Lt b wr := hb
          have hpl := (HPL.out).2 ms[k] (List.getElem_mem hlt)
          obtain ⟨m, hm⟩ : ∃ m, ms[k] = m := ⟨_, rfl⟩
          rw [show ms[k]?.getD 0 = ms[k] by simp [hlt]] at hc1
          rw [hm] at hc1 hpl
          clear hm
          obtain ⟨q1, q2, q3⟩ := hpl
          have bd1 := load_bd o m
          have bd2 := load_bd o (pick o ms)
          have HR' := Lib.hid hR
          have HC' := Lib.hid hc1
          clear hR
          have hR := HR'.out
          generalize hL1 : load o m = L1 at *
          generalize hL2 : load o (pick o ms) = L2 at *
          have d1 : decide (L1 < L2) = false := decide_eq_false (by omega)
          have d4 : decide (spread o ms < L1 - L2) = false := decide_eq_false (by omega)
          have HQ := Lib.hid q2
          clear q1 q2 q3
          go_wp2_with (fail)
          refine wp_region_later (by kernel_rfl) (by kernel_rfl) ?_; (repeat (go_big_quiet_step ((go_at_call 25; first | (refine calls_later (v := .int .i64 L1) ?_; rw [← hL1]; with_reducible exact load_any o m _) | (refine calls_later (v := .int .i64 L2) ?_; rw [← hL2]; with_reducible exact load_any o (pick o ms) _))))); refine wpQuiet_nil ?_; intro d
          have hd := later_ext d
          generalize later d = w1 at *
          have hR := row_ext hd hl HR'.out
          have hc1 : w1.cell? ⟨b, off + k, none⟩ = some (.int .i64 m) := by
            obtain ⟨ka, kb, kc, kd, -⟩ := kept hd
            rw [ka, if_pos hlb]; exact HC'.out
          clear hl hlb
          cases d2 : (L1 == L2)
          · go_wp2_with (go_at_call 27; go_must (with_reducible refine (spread_any o _ ms c _ ((s0.ext hE).ext hd) hlen hcap).mono ?_); rintro e w2 ⟨rfl, hy⟩)
            go_roundw
            case rel => exact ⟨k + 1, by omega, by go_num, (hE.tr hd).tr hy⟩
            case measure => simp [intOf]; omega
          · have d3 : decide (m < (pick o ms)) = false := decide_eq_false (by have := HQ.out (by simpa using d2); omega)
            go_wp2_with (go_at_call 27; go_must (with_reducible refine (spread_any o _ ms c _ ((s0.ext hE).ext hd) hlen hcap).mono ?_); rintro e w2 ⟨rfl, hy⟩)
            go_roundw
            case rel => exact ⟨k + 1, by omega, by go_num, (hE.tr hd).tr hy⟩
            case measure => simp [intOf]; omega

        · obtain rfl : k = ms.length := by omega
          obtain ⟨W5, rfl⟩ : ∃ W5, wr = W5 := ⟨_, rfl⟩
          have h5 := hE
          clear hE hk hlt
          have e5 := e4.tr h5
          have s0 := s0.ext h5
          have r := row_ext h5 l r
          have l := Nat.lt_of_lt_of_le l h5.size
          have z := row_ext h5 lz z
          have lz := Nat.lt_of_lt_of_le lz h5.size
          clear e4 h5
          have z0 : wr.cell? ⟨w.heap.size + 1, 0, none⟩ = some (.int .i64 sb) := by rw [cell_rowD, z]; rfl
          have z1 : wr.cell? ⟨w.heap.size + 1, 1, none⟩ = some (.int .i64 st) := by rw [cell_rowD, z]; rfl
          go_upto_region 20 with (go_at_call 29; go_must (with_reducible refine (apply_one o sb st _).mono ?_); rw [HP.out]; rintro e X7 ⟨rfl, h7⟩)
          have h7 := (Ext.al (Ext.rf _) _).tr h7
          obtain ⟨W7, hV⟩ : ∃ V, setRow (X7.alloc (.cells #[Value.int IntKind.i64 0, Value.int IntKind.i64 0, Value.int IntKind.i64 0, Value.int IntKind.i64 0, Value.int IntKind.i64 0, Value.int IntKind.i64 0, Value.int IntKind.i64 0, Value.int IntKind.i64 0, Value.int IntKind.i64 0, Value.int IntKind.i64 0, Value.int IntKind.i64 0, Value.int IntKind.i64 0, Value.int IntKind.i64 0, Value.int IntKind.i64 0, Value.int IntKind.i64 0, Value.int IntKind.i64 0] 22)) X7.heap.size (ov P) = V := ⟨_, rfl⟩
          obtain ⟨gV, rp, lp⟩ : Ext X7 W7 ∧ rowD W7 X7.heap.size = ov P ∧ X7.heap.size < W7.heap.size := by rw [← hV]; exact box_own X7 P
          rw [hV]
          clear hV
          have h7 : Ext wr W7 := h7.tr gV
          have e7 := e5.tr h7
          have r := row_ext h7 l r
          have z := row_ext h7 lz z
          have l : Lt w.heap.size W7 := Nat.lt_of_lt_of_le l h7.size
          have lz : Lt (w.heap.size + 1) W7 := Nat.lt_of_lt_of_le lz h7.size
          have lp : Lt X7.heap.size W7 := lp
          have z0 : W7.cell? ⟨w.heap.size + 1, 0, none⟩ = some (.int .i64 sb) := by rw [cell_rowD, z]; rfl
          have z1 : W7.cell? ⟨w.heap.size + 1, 1, none⟩ = some (.int .i64 st) := by rw [cell_rowD, z]; rfl
          clear gV s0 e5 h7 z
          generalize X7.heap.size = BP at *
          obtain rfl := hsb.out
          have hbl : (b : Int) < 16 := by omega
          have g1 : decide (16 ≤ (b : Int)) = false := decide_eq_false (by omega)
          have g0 : decide ((b : Int) < 0) = false := decide_eq_false (by omega)
          have cb := cell_row (i := b) r hb
          have bd1 := load_bd o st
          have bd2 := load_bd o (o b)
          refine wp_region_later (by kernel_rfl) (by kernel_rfl) ?_; (repeat (go_big_quiet_step (fail))); refine wpQuiet_nil ?_; intro d
          have hd := later_ext d
          generalize later d = w1 at *
          have r := row_ext hd l r
          have rp := row_ext hd lp rp
          have cb := cell_row (i := b) r hb
          have l : Lt w.heap.size w1 := Nat.lt_of_lt_of_le l hd.size
          have lp : Lt BP w1 := Nat.lt_of_lt_of_le lp hd.size
          have ka := (kept hd).1
          have z0 : w1.cell? ⟨w.heap.size + 1, 0, none⟩ = some (.int .i64 (b : Int)) := by rw [ka, if_pos lz]; exact z0
          have z1 : w1.cell? ⟨w.heap.size + 1, 1, none⟩ = some (.int .i64 st) := by rw [ka, if_pos lz]; exact z1
          have lz : Lt (w.heap.size + 1) w1 := Nat.lt_of_lt_of_le lz hd.size
          clear ka
          go_wp2_with (fail)
          refine wp_region_later (by kernel_rfl) (by kernel_rfl) ?_; (repeat (go_big_quiet_step (first | (go_at_call 25; first | with_reducible exact calls_later (load_any P st _) | with_reducible exact calls_later (load_any o st _) | with_reducible exact calls_later (load_any P (o b) _) | with_reducible exact calls_later (load_any o (o b) _)) | (go_at_call 13; exact calls_later (wakes_any _))))); refine wpQuiet_nil ?_; intro d2
          go_wp2
          go_ret
          exact ⟨rfl, (e7.tr hd).tr (later_ext d2)⟩

theorem planLoads_walk (o : Nat → Int) (p : Option Addr) (ms : List Int) (c : Nat) (sb st : Int) (w : World) (hs : Sl w p ms) (hcap : ms.length ≤ c) :
    Calls Try.prog 7 #[.agg (ov o), .slice p ms.length c, .agg #[.int .i64 sb, .int .i64 st]] w fun e w' => e = .returned (.bool true) ∧ Ext w w' := by
  by_cases h1 : 40 < (ms.length : Int)
  · exact planLoads_A o p ms c sb st w (Lib.hid (decide_eq_true h1))
  have hlen : ms.length ≤ 1000 := by omega
  have HG := Lib.hid (decide_eq_false h1)
  cases hr : rightP o ms
  · exact planLoads_B o p ms c sb st w HG hlen hs hcap hr
  have hS := Lib.hid (sumN_all o ((right_iff o ms).1 hr).1)
  have HR := Lib.hid hr
  by_cases h0 : ms.length = 0
  · have hp := Lib.hid (pick_none o ms h0)
    have b1 : decide (0 < (ms.length : Int)) = false := decide_eq_false (by omega)
    by_cases e1 : sb < 0
    · exact planLoads_Ta o p ms c _ st w HG hlen hs hcap HR hS hp (Lib.hid h0) (decide_eq_false (by omega)) b1 _ (Lib.hid rfl) (decide_eq_true e1) (by rw [apply_none o ⟨sb, st⟩ (.inl e1)]; exact (eqO_iff o o).2 fun _ _ => rfl)
    by_cases e2 : 16 ≤ sb
    · exact planLoads_Tb o p ms c _ st w HG hlen hs hcap HR hS hp (Lib.hid h0) (decide_eq_false (by omega)) b1 _ (Lib.hid rfl) (decide_eq_false e1) (decide_eq_true e2) (by rw [apply_none o ⟨sb, st⟩ (.inr e2)]; exact (eqO_iff o o).2 fun _ _ => rfl)
    obtain ⟨b, hb⟩ : ∃ b : Nat, sb = b := ⟨sb.toNat, by omega⟩
    subst hb
    have hb : b < 16 := by omega
    by_cases e3 : o b = st
    · exact planLoads_Tc o p ms c _ st w HG hlen hs hcap HR hS hp (Lib.hid h0) (decide_eq_false (by omega)) b1 _ (Lib.hid rfl) b (Lib.hid rfl) hb (apply_same o b st hb e3) (beq_iff_eq.2 e3)
    · obtain ⟨l1, l2⟩ := apply_loads o b st hb e3
      exact planLoads_Td o p ms c _ st w HG hlen hs hcap HR hS hp (Lib.hid h0) (decide_eq_false (by omega)) b1 _ (Lib.hid rfl) b (Lib.hid rfl) hb (beq_eq_false_iff_ne.2 e3) (beq_iff_eq.2 l1) (beq_iff_eq.2 l2)
  · obtain ⟨k1, k2, k3⟩ := pick_law o ms hr (by omega)
    have hp := Lib.hid k1
    have hi := Lib.hid ((any_iff ms _).2 k2)
    have hl := Lib.hid (And.intro trivial k3)
    have b1 : decide (0 < (ms.length : Int)) = true := decide_eq_true (by omega)
    by_cases e1 : sb < 0
    · exact planLoads_Ua o p ms c _ st w HG hlen hs hcap HR hS hp (by omega) (decide_eq_true (by omega)) b1 hi hl _ (Lib.hid rfl) (decide_eq_true e1) (by rw [apply_none o ⟨sb, st⟩ (.inl e1)]; exact (eqO_iff o o).2 fun _ _ => rfl)
    by_cases e2 : 16 ≤ sb
    · exact planLoads_Ub o p ms c _ st w HG hlen hs hcap HR hS hp (by omega) (decide_eq_true (by omega)) b1 hi hl _ (Lib.hid rfl) (decide_eq_false e1) (decide_eq_true e2) (by rw [apply_none o ⟨sb, st⟩ (.inr e2)]; exact (eqO_iff o o).2 fun _ _ => rfl)
    obtain ⟨b, hb⟩ : ∃ b : Nat, sb = b := ⟨sb.toNat, by omega⟩
    subst hb
    have hb : b < 16 := by omega
    by_cases e3 : o b = st
    · exact planLoads_Uc o p ms c _ st w HG hlen hs hcap HR hS hp (by omega) (decide_eq_true (by omega)) b1 hi hl _ (Lib.hid rfl) b (Lib.hid rfl) hb (apply_same o b st hb e3) (beq_iff_eq.2 e3)
    · obtain ⟨l1, l2⟩ := apply_loads o b st hb e3
      exact planLoads_Ud o p ms c _ st w HG hlen hs hcap HR hS hp (by omega) (decide_eq_true (by omega)) b1 hi hl _ (Lib.hid rfl) b (Lib.hid rfl) hb (beq_eq_false_iff_ne.2 e3) (beq_iff_eq.2 l1) (beq_iff_eq.2 l2)

theorem cellsQ5 : Try.prog.cellsOf 45 = 2 := by kernel_rfl
set_option maxRecDepth 100000 in
theorem open_sh {H : Type} {enc : TypeId × Value → H} {w : World} {base b0 : Nat} {spare : Nat → Bool} {held : Bool} {v : Value} {d : DataW H} {p : List MemPlace}
    (hv : Value.okWide Try.prog w .any b0 45 v) (h : DataW.Trod enc Try.prog w base spare held 45 v d p) :
    ∃ (a b : Int), v = .agg #[.int .i64 a, .int .i64 b] := by
  obtain ⟨c0, c1, y0, y1, m, rfl, rfl, rfl, h0, h1⟩ := open_agg2 Try.underlying45 (by kernel_rfl) cellsQ5 hv h
  obtain ⟨a, e0, _, _⟩ := DataW.trod_int Try.underlying3 h0
  obtain ⟨b, e1, _, _⟩ := DataW.trod_int Try.underlying3 h1
  simp at e0 e1
  subst e0 e1
  exact ⟨a, b, rfl⟩

set_option maxRecDepth 100000 in
theorem planLoads_lifted (os : Os) (started : os.Started) (H : Type) (enc : TypeId × Value → H) :
    ReturnsInHanded {} Try.checked os 7 .any (Rows.planLoadsSpec.pre6 enc Try.prog Try.f7 Rows.planLoadsRow.domain false) (Rows.planLoadsSpec.post enc Try.prog Try.f7 false true false false) := by
  refine law_lift 4 ownKn started (by kernel_rfl) Try.func7 (ChangeSpec.witness6 (enc := enc) (C := Try.checked) false ⟨#[], #[.agg #[.int .i64 0, .int .i64 0, .int .i64 0, .int .i64 0, .int .i64 0, .int .i64 0, .int .i64 0, .int .i64 0, .int .i64 0, .int .i64 0, .int .i64 0, .int .i64 0, .int .i64 0, .int .i64 0, .int .i64 0, .int .i64 0], .slice none 0 0, .agg #[.int .i64 0, .int .i64 0]], []⟩ 8 (by kernel_rfl) (by kernel_rfl) (by kernel_rfl) (by kernel_rfl)) laidOut rfl (by kernel_rfl) Try.underlying4 ?_ (by kernel_rfl) ?_
  · intro ds h
    match ds, h with
    | [d0, d1, d2], _ => rfl
  · intro W base args ds p hval hA hlt
    have hval' : ∀ (j : Nat) t v, Try.f7.params[j]? = some t → args[j]? = some v → Value.okWide Try.prog W .any base t v := hval
    have hA' : DataW.TrodAll enc Try.prog W 0 (fun _ => true) true Try.f7.params.toList args.toList ds p := hA
    rw [Try.params7] at hA' hval'
    obtain ⟨v0, vs0, d0, ds0, p0, q0, hargs, rfl, rfl, h0, r0⟩ := trodAll_cons hA'
    obtain ⟨v1, vs1, d1, ds1, p1, q1, rfl, rfl, rfl, h1, r1⟩ := trodAll_cons r0
    obtain ⟨v2, vs2, d2, ds2, p2, q2, rfl, rfl, rfl, h2, r2⟩ := trodAll_cons r1
    obtain ⟨rfl, rfl, rfl⟩ := trodAll_nil r2
    obtain rfl : args = #[v0, v1, v2] := by cases args; simp_all
    obtain ⟨o, rfl⟩ := open_own (hval' 0 _ v0 rfl rfl) h0
    obtain ⟨p_, ms, c_, rfl, hs_, hcap_⟩ := open_mems (hval' 1 _ v1 rfl rfl) h1
    obtain ⟨sb, st, rfl⟩ := open_sh (hval' 2 _ v2 rfl rfl) h2
    exact planLoads_walk o p_ ms c_ sb st W hs_ hcap_

theorem planLoads_holds : Rows.PlanLoadsSaid :=
  OpenClaim.holds_of_wide 7 Try.f7 rfl rfl rfl rfl rfl rfl rfl ⟨rfl, rfl, rfl, rfl, rfl⟩ rfl rfl rfl rfl rfl (by kernel_rfl) Try.func7 (by kernel_rfl)
    (of_decide_eq_true (by kernel_rfl)) (by unfold Func.isWrapper; first | (rw [if_pos (by decide +kernel)]; kernel_rfl) | (rw [if_neg (by decide +kernel)]; exact ⟨rfl, rfl⟩))
    (fun os started H enc _ => planLoads_lifted os started H enc)
#print axioms planLoads_holds

end Go.Proofs.Ytlacidecomflkaa
