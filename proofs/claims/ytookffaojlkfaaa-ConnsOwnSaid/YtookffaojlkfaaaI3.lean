/- The document's bytes of a tuple. -/
import Derived.Test.YtookffaojlkfaaaI2
set_option linter.unusedSimpArgs false
set_option linter.unusedVariables false
namespace Go.Proofs.Ytookffaojlkfaaa
open Go.RowKit

def SchQ1 (ops : Array Oper) : Prop := Region.noSelect ops = true ∧ takesB ops 10 [0, 1, 2, 4, 5, 6] [] = true ∧ Region.ready .any ops (don 10 [6, 5, 4, 2, 1, 0]) = [3] ∧ Region.ready .any ops (don 10 [3, 6, 5, 4, 2, 1, 0]) = [7] ∧ Region.ready .any ops (don 10 [7, 3, 6, 5, 4, 2, 1, 0]) = [8] ∧ Region.ready .any ops (don 10 [8, 7, 3, 6, 5, 4, 2, 1, 0]) = [9] ∧ Region.ready .any ops (don 10 [9, 8, 7, 3, 6, 5, 4, 2, 1, 0]) = []
theorem schSchQ1 : SchQ1 ((Try.f90.body.bind (findR 1)).getD #[]) := ⟨by kernel_rfl, by kernel_rfl, by kernel_rfl, by kernel_rfl, by kernel_rfl, by kernel_rfl, by kernel_rfl⟩

def SchQ2 (ops : Array Oper) : Prop := Region.noSelect ops = true ∧ takesB ops 12 [0, 1, 2, 3, 6, 7, 8] [] = true ∧ Region.ready .any ops (don 12 [8, 7, 6, 3, 2, 1, 0]) = [4] ∧ Region.ready .any ops (don 12 [4, 8, 7, 6, 3, 2, 1, 0]) = [5] ∧ Region.ready .any ops (don 12 [5, 4, 8, 7, 6, 3, 2, 1, 0]) = [9] ∧ Region.ready .any ops (don 12 [9, 5, 4, 8, 7, 6, 3, 2, 1, 0]) = [10] ∧ Region.ready .any ops (don 12 [10, 9, 5, 4, 8, 7, 6, 3, 2, 1, 0]) = [11] ∧ Region.ready .any ops (don 12 [11, 10, 9, 5, 4, 8, 7, 6, 3, 2, 1, 0]) = []
theorem schSchQ2 : SchQ2 ((Try.f90.body.bind (findR 2)).getD #[]) := ⟨by kernel_rfl, by kernel_rfl, by kernel_rfl, by kernel_rfl, by kernel_rfl, by kernel_rfl, by kernel_rfl, by kernel_rfl⟩

theorem loadK {C : Nat → Prop} {w : World} {B k : Nat} {n : Int} {kd : IntKind} (h0 : w.cell? ⟨B, k, none⟩ = some (.int kd n)) (hl : Lt B w) (hC : ¬ C B) (ρ : Operand → Value) (o : Oper)
    (hr : ∀ w' : World, w'.cell? ⟨B, k, none⟩ = some (.int kd n) → (execOp ρ o).run Try.prog w' = .ok (.value (.int kd n)) w') : ∀ w', Mv C w w' → (execOp ρ o).run Try.prog w' = .ok (.value (.int kd n)) w' := by
  intro w' hE
  exact hr w' (by rw [cell_rowD, rowD_same (hE.same B hl hC), ← cell_rowD]; exact h0)
theorem ld32_run {w : World} {B k : Nat} {n : Int} (h0 : w.cell? ⟨B, k, none⟩ = some (.int .u32 n)) (ρ : Operand → Value) (dst : Option Tmp) (x : Operand) (ty : TypeId) (pos : String) (after : Array Edge) (g : Option (Nat × Bool)) (hx : ρ x = .pointer (some ⟨B, k, none⟩)) :
    (execOp ρ ⟨dst, .load 23 x, ty, pos, after, g⟩).run Try.prog w = .ok (.value (.int .u32 n)) w := by
  simp only [execOp, hx]
  go_simp
theorem ld16_run {w : World} {B k : Nat} {n : Int} (h0 : w.cell? ⟨B, k, none⟩ = some (.int .u16 n)) (ρ : Operand → Value) (dst : Option Tmp) (x : Operand) (ty : TypeId) (pos : String) (after : Array Edge) (g : Option (Nat × Bool)) (hx : ρ x = .pointer (some ⟨B, k, none⟩)) :
    (execOp ρ ⟨dst, .load 24 x, ty, pos, after, g⟩).run Try.prog w = .ok (.value (.int .u16 n)) w := by
  simp only [execOp, hx]
  go_simp
theorem cv32_run {n : Int} (hn : IntKind.i64.wrap n = n) (ρ : Operand → Value) (dst : Option Tmp) (x : Operand) (ty : TypeId) (pos : String) (after : Array Edge) (g : Option (Nat × Bool)) (hx : ρ x = .int .u32 n) (w : World) :
    (execOp ρ ⟨dst, .convert 23 3 x, ty, pos, after, g⟩).run Try.prog w = .ok (.value (.int .i64 n)) w := by
  simp only [execOp, hx]
  go_simp
  try simp [hn]
theorem cv16_run {n : Int} (hn : IntKind.i64.wrap n = n) (ρ : Operand → Value) (dst : Option Tmp) (x : Operand) (ty : TypeId) (pos : String) (after : Array Edge) (g : Option (Nat × Bool)) (hx : ρ x = .int .u16 n) (w : World) :
    (execOp ρ ⟨dst, .convert 24 3 x, ty, pos, after, g⟩).run Try.prog w = .ok (.value (.int .i64 n)) w := by
  simp only [execOp, hx]
  go_simp
  try simp [hn]
theorem rb_any (n : Int) (m : Nat) (hm : m ≤ 4) (h0 : 0 ≤ n) (h1 : n < 4294967296) (w : World) :
    Calls Try.prog 113 #[.int .i64 n, .int .i64 m] w fun e w' => ∃ v, e = .returned v ∧ OB w' w.heap.size v (byN n m) ∧ Ext w w' :=
  (rbytes_any n m hm h0 h1 w).mono fun e w' ⟨v, h1, h2, h3⟩ => ⟨v, h1, by unfold OB; rw [byN_len]; exact h2, h3⟩

set_option maxRecDepth 100000 in
set_option maxHeartbeats 8000000 in
theorem rBytes_any (t : Tu) (hr : TuR t) (w : World) :
    Calls Try.prog 90 #[tu t.a t.b t.c t.d] w fun e w' => ∃ v, e = .returned v ∧ OB w' w.heap.size v (tb t) ∧ Ext w w' := by
  obtain ⟨⟨a0, a1⟩, ⟨b0, b1⟩, ⟨c0, c1⟩, ⟨d0, d1⟩⟩ := hr
  have wa : IntKind.i64.wrap t.a = t.a := by rw [IntKind.wrap_i64]; omega
  have wb : IntKind.i64.wrap t.b = t.b := by rw [IntKind.wrap_i64]; omega
  have wc : IntKind.i64.wrap t.c = t.c := by rw [IntKind.wrap_i64]; omega
  have wd : IntKind.i64.wrap t.d = t.d := by rw [IntKind.wrap_i64]; omega
  go_enter Try.func90, Try.ntmps90
  go_upto_region 1 with (fail)
  obtain ⟨W0, hW⟩ : ∃ W0, w.alloc (.cells #[.int .u32 t.a, .int .u32 t.b, .int .u16 t.c, .int .u16 t.d] 26) = W0 := ⟨_, rfl⟩
  have g0 : Ext w W0 := by rw [← hW]; exact Ext.al (Ext.rf _) _
  have x0 : W0.cell? ⟨w.heap.size, 0, none⟩ = some (.int .u32 t.a) := by rw [← hW]; simp [go_sem]
  have x1 : W0.cell? ⟨w.heap.size, 1, none⟩ = some (.int .u32 t.b) := by rw [← hW]; simp [go_sem]
  have x2 : W0.cell? ⟨w.heap.size, 2, none⟩ = some (.int .u16 t.c) := by rw [← hW]; simp [go_sem]
  have x3 : W0.cell? ⟨w.heap.size, 3, none⟩ = some (.int .u16 t.d) := by rw [← hW]; simp [go_sem]
  have hsz : W0.heap.size = w.heap.size + 1 := by rw [← hW]; simp
  have lB : Lt w.heap.size W0 := by unfold Lt; omega
  rw [hW]
  clear hW
  refine wp_region_K (fun k => W0.heap.size ≤ k) (by kernel_rfl) ?_
  obtain ⟨W1, hW1⟩ : ∃ W1, W0.drew = W1 := ⟨_, rfl⟩
  have g1 : Ext W0 W1 := by rw [← hW1]; exact Ext.dr (Ext.rf _)
  rw [hW1]
  clear hW1
  have hnC : ¬ (W0.heap.size ≤ w.heap.size) := by omega
  have y0 := (g1.cell (p := ⟨w.heap.size, 0, none⟩) lB).trans x0
  have y1 := (g1.cell (p := ⟨w.heap.size, 1, none⟩) lB).trans x1
  have lB1 : Lt w.heap.size W1 := Nat.lt_of_lt_of_le lB g1.size
  refine withK (N := 10) (R := SchQ1) (E := ((Try.f90.body.bind (findR 1)).getD #[])) (by kernel_rfl) schSchQ1 (by kernel_rfl) fun hS => ?_
  have hT := hS.2.1
  refine takeD (N := 10) (k := 0) (v := .pointer (some ⟨w.heap.size, 0, none⟩)) hS.1 hT rfl (by kernel_rfl) (fun _ _ => by kernel_rfl) fun hT => ?_
  refine takeD (N := 10) (k := 1) (v := .int .u32 t.a) hS.1 hT rfl (by kernel_rfl) (loadK y0 lB1 hnC _ _ fun w' h => ld32_run h _ _ _ _ _ _ _ (by kernel_rfl)) fun hT => ?_
  refine takeD (N := 10) (k := 2) (v := .int .i64 t.a) hS.1 hT rfl (by kernel_rfl) (fun w' _ => cv32_run wa _ _ _ _ _ _ _ (by kernel_rfl) w') fun hT => ?_
  refine takeD (N := 10) (k := 4) (v := .pointer (some ⟨w.heap.size, 1, none⟩)) hS.1 hT rfl (by kernel_rfl) (fun _ _ => by kernel_rfl) fun hT => ?_
  refine takeD (N := 10) (k := 5) (v := .int .u32 t.b) hS.1 hT rfl (by kernel_rfl) (loadK y1 lB1 hnC _ _ fun w' h => ld32_run h _ _ _ _ _ _ _ (by kernel_rfl)) fun hT => ?_
  refine takeD (N := 10) (k := 6) (v := .int .i64 t.b) hS.1 hT rfl (by kernel_rfl) (fun w' _ => cv32_run wb _ _ _ _ _ _ _ (by kernel_rfl) w') fun hT => ?_
  refine soleD hS.2.2.1 (callD (R := fun v w' => OB w' W1.heap.size v (byN t.a 4)) rfl rfl (by kernel_rfl) (rb_any t.a 4 (by omega) a0 a1 W1) fun v1 W2 g2 o1 => ?_)
  refine soleD hS.2.2.2.1 (callD (R := fun v w' => OB w' W2.heap.size v (byN t.b 4)) rfl rfl (by kernel_rfl) (rb_any t.b 4 (by omega) b0 b1 W2) fun v2 W3 g3 o2 => ?_)
  have hb2 : W0.heap.size ≤ W3.heap.size := (g1.tr (g2.tr g3)).size
  refine soleD hS.2.2.2.2.1 (appD rfl (by kernel_rfl) (by kernel_rfl) ((o1.ext g3).le g1.size) o2 (by rw [byN_len]; omega) (by rw [byN_len, byN_len]; omega) hb2 fun v3 W4 m4 o3 => ?_)
  refine soleD hS.2.2.2.2.2.1 (makeD (v := v3) rfl rfl (by kernel_rfl) (Mv.refl _ _) ?_)
  refine doneK hS.2.2.2.2.2.2 ?_
  have M4 : Mv (fun k => W0.heap.size ≤ k) W0 W4 := (Mv.of_ext (g1.tr (g2.tr g3))).trans m4
  have hO := Lib.hid o3
  have z2 : W4.cell? ⟨w.heap.size, 2, none⟩ = some (.int .u16 t.c) := by rw [cell_rowD, rowD_same (M4.same _ lB hnC), ← cell_rowD]; exact x2
  have z3 : W4.cell? ⟨w.heap.size, 3, none⟩ = some (.int .u16 t.d) := by rw [cell_rowD, rowD_same (M4.same _ lB hnC), ← cell_rowD]; exact x3
  have lB4 : Lt w.heap.size W4 := Nat.lt_of_lt_of_le lB M4.size
  have hb4 := M4.size
  clear hS hT m4 o1 o2 o3 y0 y1 x0 x1 x2 x3
  go_simp
  go_upto_region 2 with (fail)
  refine wp_region_K (fun k => W0.heap.size ≤ k) (by kernel_rfl) ?_
  obtain ⟨W5, hW5⟩ : ∃ W5, W4.drew = W5 := ⟨_, rfl⟩
  have g5 : Ext W4 W5 := by rw [← hW5]; exact Ext.dr (Ext.rf _)
  rw [hW5]
  clear hW5
  have y2 := (g5.cell (p := ⟨w.heap.size, 2, none⟩) lB4).trans z2
  have y3 := (g5.cell (p := ⟨w.heap.size, 3, none⟩) lB4).trans z3
  have lB5 : Lt w.heap.size W5 := Nat.lt_of_lt_of_le lB4 g5.size
  have hO5 := hO.out.ext g5
  have hb5 := Nat.le_trans hb4 g5.size
  refine withK (N := 12) (R := SchQ2) (E := ((Try.f90.body.bind (findR 2)).getD #[])) (by kernel_rfl) schSchQ2 (by kernel_rfl) fun hS => ?_
  have hT := hS.2.1
  refine takeD (N := 12) (k := 0) (v := v3) hS.1 hT rfl (by kernel_rfl) (fun _ _ => by kernel_rfl) fun hT => ?_
  refine takeD (N := 12) (k := 1) (v := .pointer (some ⟨w.heap.size, 2, none⟩)) hS.1 hT rfl (by kernel_rfl) (fun _ _ => by kernel_rfl) fun hT => ?_
  refine takeD (N := 12) (k := 2) (v := .int .u16 t.c) hS.1 hT rfl (by kernel_rfl) (loadK y2 lB5 hnC _ _ fun w' h => ld16_run h _ _ _ _ _ _ _ (by kernel_rfl)) fun hT => ?_
  refine takeD (N := 12) (k := 3) (v := .int .i64 t.c) hS.1 hT rfl (by kernel_rfl) (fun w' _ => cv16_run wc _ _ _ _ _ _ _ (by kernel_rfl) w') fun hT => ?_
  refine takeD (N := 12) (k := 6) (v := .pointer (some ⟨w.heap.size, 3, none⟩)) hS.1 hT rfl (by kernel_rfl) (fun _ _ => by kernel_rfl) fun hT => ?_
  refine takeD (N := 12) (k := 7) (v := .int .u16 t.d) hS.1 hT rfl (by kernel_rfl) (loadK y3 lB5 hnC _ _ fun w' h => ld16_run h _ _ _ _ _ _ _ (by kernel_rfl)) fun hT => ?_
  refine takeD (N := 12) (k := 8) (v := .int .i64 t.d) hS.1 hT rfl (by kernel_rfl) (fun w' _ => cv16_run wd _ _ _ _ _ _ _ (by kernel_rfl) w') fun hT => ?_
  refine soleD hS.2.2.1 (callD (R := fun v w' => OB w' W5.heap.size v (byN t.c 2)) rfl rfl (by kernel_rfl) (rb_any t.c 2 (by omega) c0 (by omega) W5) fun v4 W6 g6 o4 => ?_)
  refine soleD hS.2.2.2.1 (appD rfl (by kernel_rfl) (by kernel_rfl) (hO5.ext g6) o4 (by rw [byN_len]; omega) (by simp only [List.length_append, byN_len]; omega) (Nat.le_trans hb5 g6.size) fun v5 W7 m7 o5 => ?_)
  refine soleD hS.2.2.2.2.1 (callD (R := fun v w' => OB w' W7.heap.size v (byN t.d 2)) rfl rfl (by kernel_rfl) (rb_any t.d 2 (by omega) d0 (by omega) W7) fun v6 W8 g8 o6 => ?_)
  refine soleD hS.2.2.2.2.2.1 (appD rfl (by kernel_rfl) (by kernel_rfl) (o5.ext g8) o6 (by rw [byN_len]; omega) (by simp only [List.length_append, byN_len]; omega) (Nat.le_trans (Nat.le_trans hb5 g6.size) (Nat.le_trans m7.size g8.size)) fun v7 W9 m9 o7 => ?_)
  refine soleD hS.2.2.2.2.2.2.1 (makeD (v := v7) rfl rfl (by kernel_rfl) (Mv.refl _ _) ?_)
  refine doneK hS.2.2.2.2.2.2.2 ?_
  have M9 : Mv (fun k => W0.heap.size ≤ k) W4 W9 := (((Mv.of_ext (g5.tr g6)).trans m7).tr g8).trans m9
  clear hS hT
  go_simp
  go_wp2
  refine bodyPost_ret (v := v7) (by simp [results, Try.results90, go_sem]) rfl ⟨v7, rfl, ?_, ?_⟩
  · have h := o7.le (b' := w.heap.size) (by omega)
    have e : byN t.a 4 ++ byN t.b 4 ++ byN t.c 2 ++ byN t.d 2 = tb t := rfl
    rw [e] at h
    exact h
  · exact Mv.ext_of g0 (M4.trans M9) (fun k h => by omega)

end Go.Proofs.Ytookffaojlkfaaa
