/- wakes of law 15: it answers true. -/
import Derived.Test.YtookffaojlkfaaaW1
import Derived.Test.YtookffaojlkfaaaW2
import Derived.Test.YtookffaojlkfaaaJ7
set_option linter.unusedSimpArgs false
set_option linter.unusedVariables false
namespace Go.Proofs.Ytookffaojlkfaaa
open Go.RowKit

theorem callLE {P : Program} {ops : Array Oper} {R : Value → World → Prop} {Q : Act → World → Prop} {n k : Nat} {oi : Oper} {f : FuncId} {args : Array Value} {fuel : Nat} {a : Act} {w : World} (hr : Region.ready .any ops (lst n k) = [k]) (hi : ops[k]? = some oi) (hw : Region.wanted oi (yielded ops a.tmps) = true)
    (he : (execOp a.eval oi).run P w = .ok (.enter f args) w) (hc : Calls P f args w fun e w' => ∃ v, e = .returned v ∧ R v w' ∧ Ext w w')
    (H : ∀ v w', Ext w w' → R v w' → wpAnyX P .any ops Q fuel (lst n (k + 1)) (a.put oi.dst v) w') : wpAnyX P .any ops Q (fuel + 1) (lst n k) a w := by
  refine soleX hi hr hw ?_
  rw [he]
  exact hc.mono fun e w' ⟨v, h1, h2, h3⟩ => ⟨v, h1, h3, by rw [lst_set]; exact H v w' h3 h2⟩
theorem ldI_X {w : World} {B O : Nat} {n : Int} (h0 : w.cell? ⟨B, O, none⟩ = some (.int .i64 n)) (hl : Lt B w) (ρ : Operand → Value) (dst : Option Tmp) (x : Operand) (ty : TypeId) (pos : String) (after : Array Edge) (g : Option (Nat × Bool))
    (hx : ρ x = .pointer (some ⟨B, O, none⟩)) : ∀ w', Ext w w' → (execOp ρ ⟨dst, .load 3 x, ty, pos, after, g⟩).run Try.prog w' = .ok (.value (.int .i64 n)) w' := by
  intro w' hE
  have h0 := (hE.cell (p := ⟨B, _, none⟩) hl).trans h0
  simp only [execOp, hx]
  go_simp
theorem ldTU_X {w : World} {B O : Nat} {t : Tu} (h0 : w.cell? ⟨B, O, none⟩ = some (.int .u32 t.a)) (h1 : w.cell? ⟨B, O + 1, none⟩ = some (.int .u32 t.b)) (h2 : w.cell? ⟨B, O + 2, none⟩ = some (.int .u16 t.c)) (h3 : w.cell? ⟨B, O + 3, none⟩ = some (.int .u16 t.d)) (hl : Lt B w) (ρ : Operand → Value) (dst : Option Tmp) (x : Operand) (ty : TypeId) (pos : String) (after : Array Edge) (g : Option (Nat × Bool))
    (hx : ρ x = .pointer (some ⟨B, O, none⟩)) : ∀ w', Ext w w' → (execOp ρ ⟨dst, .load 26 x, ty, pos, after, g⟩).run Try.prog w' = .ok (.value (tu t.a t.b t.c t.d)) w' := by
  intro w' hE
  have h0 := (hE.cell (p := ⟨B, _, none⟩) hl).trans h0
  have h1 := (hE.cell (p := ⟨B, _, none⟩) hl).trans h1
  have h2 := (hE.cell (p := ⟨B, _, none⟩) hl).trans h2
  have h3 := (hE.cell (p := ⟨B, _, none⟩) hl).trans h3
  simp only [execOp, hx]
  go_simp
def z32 : Array Value := (List.replicate 32 ([.int .u32 0, .int .u32 0, .int .u16 0, .int .u16 0, .int .i64 0, .int .i64 0] : List Value)).flatten.toArray
theorem mks_run (ρ : Operand → Value) (dst : Option Tmp) (ty : TypeId) (pos : String) (after : Array Edge) (g : Option (Nat × Bool)) (w : World) (hk : ρ (.const (.int .i64 32)) = .int .i64 32) :
    (execOp ρ ⟨dst, .makeSlice 22 (.const (.int .i64 32)) (.const (.int .i64 32)), ty, pos, after, g⟩).run Try.prog w = .ok (.value (.slice (some ⟨w.heap.size, 0, none⟩) 32 32)) (w.alloc (.cells z32 43)) := by
  simp only [execOp, hk]
  kernel_rfl
theorem bld_run (ρ : Operand → Value) (dst : Option Tmp) (x : Operand) (ty : TypeId) (pos : String) (after : Array Edge) (g : Option (Nat × Bool)) (hx : ρ x = .agg #[.int .u32 0, .int .u32 0, .int .u16 0, .int .u16 0, .int .i64 2, .int .i64 1]) (w : World) :
    (execOp ρ ⟨dst, .buildSlice 22 1 #[(0, x)], ty, pos, after, g⟩).run Try.prog w = .ok (.value (.slice (some ⟨w.heap.size, 0, none⟩) 1 1)) (w.alloc (.cells #[.int .u32 0, .int .u32 0, .int .u16 0, .int .u16 0, .int .i64 2, .int .i64 1] 43)) := by
  simp only [execOp]
  go_simp
theorem wa1 (W : World) : Calls Try.prog 15 #[.slice none 0 0, tu 1 2 7 80, .int .i64 5] W (GetsC L1 1 (.int .i64 0) W) := add_g (t := T7) (xs := []) (SlC.nil W none) rfl (by simp) k1.1 rfl k1.2
theorem wt2 {p : Option Addr} (c : Nat) (W : World) (hs : SlC W p L1) : Calls Try.prog 17 #[.slice p 1 c, tu 1 2 7 80, .int .i64 9] W (GetsC L2 1 (.bool true) W) := touch_g (t := T7) hs rfl (by simp [L1]) k2.1 rfl k2.2
theorem wa3 {p : Option Addr} (c : Nat) (W : World) (hs : SlC W p L2) : Calls Try.prog 15 #[.slice p 1 c, tu 1 2 3 80, .int .i64 10] W (GetsC M2 2 (.int .i64 0) W) := add_g (t := T3) hs rfl (by simp [L2]) k3.1 rfl k3.2
theorem wa4 {p : Option Addr} (c : Nat) (W : World) (hs : SlC W p L2) : Calls Try.prog 15 #[.slice p 1 c, tu 1 2 7 80, .int .i64 11] W (GetsC L2 1 (.int .i64 201) W) := add_g (t := T7) hs rfl (by simp [L2]) k4.1 rfl k4.2
theorem wa5 {p : Option Addr} (c : Nat) (W : World) (hs : SlC W p L2) : Calls Try.prog 15 #[.slice p 1 c, tu 1 2 8 80, .int .i64 (-1)] W (GetsC L2 1 (.int .i64 2) W) := add_g (t := T8) hs rfl (by simp [L2]) k5.1 rfl k5.2
theorem wi6 {p : Option Addr} (c : Nat) (W : World) (hs : SlC W p L2) : Calls Try.prog 21 #[.slice p 1 c, .int .i64 4, .int .i64 12] W (TwoG [] L2 0 1 W) := idle_g hs rfl (by simp [L2]) (by omega) k6.1 k6.2 rfl rfl
theorem wi7 {p : Option Addr} (c : Nat) (W : World) (hs : SlC W p L2) : Calls Try.prog 21 #[.slice p 1 c, .int .i64 4, .int .i64 13] W (TwoG L2 [] 1 0 W) := idle_g hs rfl (by simp [L2]) (by omega) k7.1 k7.2 rfl rfl
theorem wc8 {p : Option Addr} (c : Nat) (W : World) (hs : SlC W p M2) : Calls Try.prog 19 #[.slice p 2 c, tu 1 2 7 80] W (GetsC C2 1 (.bool true) W) := close_g (t := T7) hs rfl (by simp [M2]) k8.1 rfl k8.2
theorem wc9 {p : Option Addr} (c : Nat) (W : World) (hs : SlC W p C2) : Calls Try.prog 19 #[.slice p 1 c, tu 1 2 7 80] W (GetsC C2 1 (.bool false) W) := close_g (t := T7) hs rfl (by simp [C2]) k9.1 rfl k9.2
theorem wf10 {p : Option Addr} (c : Nat) (W : World) (hs : SlC W p M2) : Calls Try.prog 24 #[.slice p 2 c, tu 1 2 7 80] W fun e w' => e = .returned (.tuple #[.int .i64 1, .bool true]) ∧ Ext W w' := find_g (t := T7) hs rfl (by simp [M2]) k10.1 k10.2
theorem wr11 (W : World) : Calls Try.prog 51 #[tu 1 2 7 80] W fun e w' => e = .returned (.int .i64 (ofT T7)) ∧ Ext W w' := rof_any T7 r7 W
theorem wo12 {p : Option Addr} (c : Nat) (W : World) (hs : SlC W p L2) : Calls Try.prog 30 #[.slice p 1 c, .int .i64 (ofT T7)] W (OneG L2 1 W) := of_g hs rfl (by simp [L2]) (by intro x hx; simp [L2] at hx; subst hx; exact r7) k11.1 rfl
theorem ww13 {p : Option Addr} (c : Nat) (W : World) (hs : SlC W p L2) : Calls Try.prog 32 #[.slice p 1 c, .int .i64 (ofT T7)] W (OneG [] 0 W) := wo_g hs rfl (by simp [L2]) (by intro x hx; simp [L2] at hx; subst hx; exact r7) k11.2 rfl
theorem wr14 {p : Option Addr} (c : Nat) (W : World) (hs : SlC W p M2) : Calls Try.prog 26 #[.slice p 2 c] W fun e w' => e = .returned (.bool true) ∧ Ext W w' := right_g hs rfl (by simp [M2]) k12
theorem wr15 {p : Option Addr} (c : Nat) (W : World) (hs : SlC W p [⟨⟨0, 0, 0, 0⟩, 2, 1⟩]) : Calls Try.prog 26 #[.slice p 1 c] W fun e w' => e = .returned (.bool false) ∧ Ext W w' := right_g hs rfl (by simp) k13
theorem wm16 (p : Option Addr) (c : Nat) (W : World) : Calls Try.prog 28 #[.slice p 2 c] W fun e w' => e = .returned (.bool true) ∧ Ext W w' := (room_any p 2 c W).mono fun e w' ⟨h1, h2⟩ => ⟨h1, by subst h2; exact Ext.rf _⟩
theorem wm17 (p : Option Addr) (c : Nat) (W : World) : Calls Try.prog 28 #[.slice p 32 c] W fun e w' => e = .returned (.bool false) ∧ Ext W w' := (room_any p 32 c W).mono fun e w' ⟨h1, h2⟩ => ⟨h1, by subst h2; exact Ext.rf _⟩
theorem up_co {w W : World} {p : Option Addr} {xs : List Co} (h : SlC w p xs) (e : Ext w W) : SlC W p xs := h.ext e

set_option maxRecDepth 100000 in
set_option maxHeartbeats 16000000 in
theorem wakes_any (w : World) : Calls Try.prog 14 #[] w fun e w' => e = .returned (.bool true) ∧ Ext w w' := by
  go_enter Try.func14, Try.ntmps14
  go_upto_region 2 with (first | (go_at_call 50; go_must (with_reducible refine (tuple7_any _).mono ?_); rintro e WT ⟨rfl, gT⟩) | (go_at_call 15; go_must (with_reducible refine (wa1 _).mono ?_); rintro e WC ⟨p1, c1, rfl, s1, gC⟩))
  have E := (gT.tr gC)
  clear gC gT
  go_upto_region 3 with (first | (go_at_call 50; go_must (with_reducible refine (tuple7_any _).mono ?_); rintro e WT ⟨rfl, gT⟩) | (go_at_call 17; go_must (with_reducible refine (wt2 _ _ (s1.ext gT)).mono ?_); rintro e WC ⟨p2, c2, rfl, s2, gC⟩))
  have E := E.tr (gT.tr gC)
  clear gC gT
  clear s1
  go_upto_region 4 with (first | (go_at_call 50; go_must (with_reducible refine (tuple3_any _).mono ?_); rintro e WT ⟨rfl, gT⟩) | (go_at_call 15; go_must (with_reducible refine (wa3 _ _ (s2.ext gT)).mono ?_); rintro e WC ⟨p3, c3, rfl, s3, gC⟩))
  have E := E.tr (gT.tr gC)
  have s2 := s2.ext (gT.tr gC)
  clear gC gT
  go_upto_region 5 with (first | (go_at_call 50; go_must (with_reducible refine (tuple7_any _).mono ?_); rintro e WT ⟨rfl, gT⟩) | (go_at_call 15; go_must (with_reducible refine (wa4 _ _ (s2.ext gT)).mono ?_); rintro e WC ⟨p4, c4, rfl, s4, gC⟩))
  have E := E.tr (gT.tr gC)
  have s2 := s2.ext (gT.tr gC)
  have s3 := s3.ext (gT.tr gC)
  clear gC gT
  clear s4
  go_upto_region 6 with (first | (go_at_call 50; go_must (with_reducible refine (tuple8_any _).mono ?_); rintro e WT ⟨rfl, gT⟩) | (go_at_call 15; go_must (with_reducible refine (wa5 _ _ (s2.ext gT)).mono ?_); rintro e WC ⟨p5, c5, rfl, s5, gC⟩))
  have E := E.tr (gT.tr gC)
  have s2 := s2.ext (gT.tr gC)
  have s3 := s3.ext (gT.tr gC)
  clear gC gT
  clear s5
  go_upto_region 7 with (first | (go_at_call 21; go_must (with_reducible refine (wi6 _ _ s2).mono ?_); rintro e WC ⟨p6, c6, q6, d6, rfl, s6, r6, gC⟩))
  have E := E.tr (gC)
  have s2 := s2.ext (gC)
  have s3 := s3.ext (gC)
  clear gC
  clear s6 r6
  go_upto_region 8 with (first | (go_at_call 21; go_must (with_reducible refine (wi7 _ _ s2).mono ?_); rintro e WC ⟨p7, c7, q7, d7, rfl, s7, r77, gC⟩))
  have E := E.tr (gC)
  have s2 := s2.ext (gC)
  have s3 := s3.ext (gC)
  clear gC
  clear s7 r77
  go_upto_region 9 with (first | (go_at_call 50; go_must (with_reducible refine (tuple7_any _).mono ?_); rintro e WT ⟨rfl, gT⟩) | (go_at_call 19; go_must (with_reducible refine (wc8 _ _ (s3.ext gT)).mono ?_); rintro e WC ⟨p8, c8, rfl, s8, gC⟩))
  have E := E.tr (gT.tr gC)
  have s2 := s2.ext (gT.tr gC)
  have s3 := s3.ext (gT.tr gC)
  clear gC gT
  go_upto_region 10 with (first | (go_at_call 50; go_must (with_reducible refine (tuple7_any _).mono ?_); rintro e WT ⟨rfl, gT⟩) | (go_at_call 19; go_must (with_reducible refine (wc9 _ _ (s8.ext gT)).mono ?_); rintro e WC ⟨p9, c9, rfl, s9, gC⟩))
  have E := E.tr (gT.tr gC)
  have s2 := s2.ext (gT.tr gC)
  have s3 := s3.ext (gT.tr gC)
  clear gC gT
  clear s8 s9
  go_upto_region 11 with (first | (go_at_call 50; go_must (with_reducible refine (tuple7_any _).mono ?_); rintro e WT ⟨rfl, gT⟩) | (go_at_call 24; go_must (with_reducible refine (wf10 _ _ (s3.ext gT)).mono ?_); rintro e WC ⟨rfl, gC⟩))
  have E := E.tr (gT.tr gC)
  have s2 := s2.ext (gT.tr gC)
  have s3 := s3.ext (gT.tr gC)
  clear gC gT
  go_upto_region 12 with (first | (go_at_call 50; go_must (with_reducible refine (tuple7_any _).mono ?_); rintro e WT ⟨rfl, gT⟩) | (go_at_call 51; go_must (with_reducible refine (wr11 _).mono ?_); rintro e WC ⟨rfl, gC⟩))
  have E := E.tr (gT.tr gC)
  have s2 := s2.ext (gT.tr gC)
  have s3 := s3.ext (gT.tr gC)
  clear gC gT
  go_upto_region 14 with (fail)
  refine wp_region_X (by kernel_rfl) ?_
  obtain ⟨W, hW⟩ : ∃ W, World.drew WC = W := ⟨_, rfl⟩
  rw [hW]
  have gD := Ext.dr (Ext.rf WC)
  rw [hW] at gD
  have E := E.tr gD
  have s2 := s2.ext gD
  have s3 := s3.ext gD
  clear hW gD
  obtain ⟨b2, o2, rfl, lb2, x0, x1, x2, x3, x4, x5⟩ := id s2 0 (by simp [L2])
  obtain ⟨b3, o3, rfl, lb3, y0, y1, y2, y3, y4, y5⟩ := id s3 0 (by simp [M2])
  refine withL (n := 112) (R := SchWk) (E := ((Try.f14.body.bind (findR 14)).getD #[])) (by kernel_rfl) schWk (by kernel_rfl) fun hS => ?_
  refine takeL (n := 112) (k := 0) (v := .int .i64 0) hS.1 (hS.2.1 0 (by decide) (by decide)) rfl (by kernel_rfl) (fun _ _ => by kernel_rfl) ?_
  refine takeL (n := 112) (k := 1) (v := .bool true) hS.1 (hS.2.1 1 (by decide) (by decide)) rfl (by kernel_rfl) (fun _ _ => by kernel_rfl) ?_
  refine takeL (n := 112) (k := 2) (v := .bool true) hS.1 (hS.2.1 2 (by decide) (by decide)) rfl (by kernel_rfl) (fun _ _ => by kernel_rfl) ?_
  refine takeL (n := 112) (k := 3) (v := .bool true) hS.1 (hS.2.1 3 (by decide) (by decide)) rfl (by kernel_rfl) (fun _ _ => by kernel_rfl) ?_
  refine takeL (n := 112) (k := 4) (v := .bool true) hS.1 (hS.2.1 4 (by decide) (by decide)) rfl (by kernel_rfl) (fun _ _ => by kernel_rfl) ?_
  refine takeL (n := 112) (k := 5) (v := .bool true) hS.1 (hS.2.1 5 (by decide) (by decide)) rfl (by kernel_rfl) (fun _ _ => by kernel_rfl) ?_
  refine takeL (n := 112) (k := 6) (v := .slice (some ⟨b2, o2, none⟩) 1 c2) hS.1 (hS.2.1 6 (by decide) (by decide)) rfl (by kernel_rfl) (fun _ _ => by kernel_rfl) ?_
  refine takeL (n := 112) (k := 7) (v := .pointer (some ⟨b2, o2 + 0 * 6, none⟩)) hS.1 (hS.2.1 7 (by decide) (by decide)) rfl (by kernel_rfl) (index_C_X (i := 0) (m := 1) (c := c2) (by omega) _ _ _ _ _ _ _ _ (by kernel_rfl) (by kernel_rfl)) ?_
  refine takeL (n := 112) (k := 8) (v := .pointer (some ⟨b2, o2 + 0 * 6 + 4, none⟩)) hS.1 (hS.2.1 8 (by decide) (by decide)) rfl (by kernel_rfl) (fun _ _ => by kernel_rfl) ?_
  refine takeL (n := 112) (k := 9) (v := .int .i64 5) hS.1 (hS.2.1 9 (by decide) (by decide)) rfl (by kernel_rfl) (ldI_X x4 lb2 _ _ _ _ _ _ _ (by kernel_rfl)) ?_
  refine takeL (n := 112) (k := 10) (v := .bool true) hS.1 (hS.2.1 10 (by decide) (by decide)) rfl (by kernel_rfl) (fun _ _ => by kernel_rfl) ?_
  refine takeL (n := 112) (k := 11) (v := .bool true) hS.1 (hS.2.1 11 (by decide) (by decide)) rfl (by kernel_rfl) (fun _ _ => by kernel_rfl) ?_
  refine takeL (n := 112) (k := 12) (v := .bool true) hS.1 (hS.2.1 12 (by decide) (by decide)) rfl (by kernel_rfl) (fun _ _ => by kernel_rfl) ?_
  refine takeL (n := 112) (k := 13) (v := .slice (some ⟨b2, o2, none⟩) 1 c2) hS.1 (hS.2.1 13 (by decide) (by decide)) rfl (by kernel_rfl) (fun _ _ => by kernel_rfl) ?_
  refine takeL (n := 112) (k := 14) (v := .pointer (some ⟨b2, o2 + 0 * 6, none⟩)) hS.1 (hS.2.1 14 (by decide) (by decide)) rfl (by kernel_rfl) (index_C_X (i := 0) (m := 1) (c := c2) (by omega) _ _ _ _ _ _ _ _ (by kernel_rfl) (by kernel_rfl)) ?_
  refine takeL (n := 112) (k := 15) (v := .pointer (some ⟨b2, o2 + 0 * 6 + 5, none⟩)) hS.1 (hS.2.1 15 (by decide) (by decide)) rfl (by kernel_rfl) (fun _ _ => by kernel_rfl) ?_
  refine takeL (n := 112) (k := 16) (v := .int .i64 9) hS.1 (hS.2.1 16 (by decide) (by decide)) rfl (by kernel_rfl) (ldI_X x5 lb2 _ _ _ _ _ _ _ (by kernel_rfl)) ?_
  refine takeL (n := 112) (k := 17) (v := .bool true) hS.1 (hS.2.1 17 (by decide) (by decide)) rfl (by kernel_rfl) (fun _ _ => by kernel_rfl) ?_
  refine takeL (n := 112) (k := 18) (v := .bool true) hS.1 (hS.2.1 18 (by decide) (by decide)) rfl (by kernel_rfl) (fun _ _ => by kernel_rfl) ?_
  refine takeL (n := 112) (k := 19) (v := .bool true) hS.1 (hS.2.1 19 (by decide) (by decide)) rfl (by kernel_rfl) (fun _ _ => by kernel_rfl) ?_
  refine takeL (n := 112) (k := 20) (v := .int .i64 0) hS.1 (hS.2.1 20 (by decide) (by decide)) rfl (by kernel_rfl) (fun _ _ => by kernel_rfl) ?_
  refine takeL (n := 112) (k := 21) (v := .bool true) hS.1 (hS.2.1 21 (by decide) (by decide)) rfl (by kernel_rfl) (fun _ _ => by kernel_rfl) ?_
  refine takeL (n := 112) (k := 22) (v := .bool true) hS.1 (hS.2.1 22 (by decide) (by decide)) rfl (by kernel_rfl) (fun _ _ => by kernel_rfl) ?_
  refine takeL (n := 112) (k := 23) (v := .bool true) hS.1 (hS.2.1 23 (by decide) (by decide)) rfl (by kernel_rfl) (fun _ _ => by kernel_rfl) ?_
  refine takeL (n := 112) (k := 24) (v := .slice (some ⟨b3, o3, none⟩) 2 c3) hS.1 (hS.2.1 24 (by decide) (by decide)) rfl (by kernel_rfl) (fun _ _ => by kernel_rfl) ?_
  refine takeL (n := 112) (k := 25) (v := .pointer (some ⟨b3, o3 + 0 * 6, none⟩)) hS.1 (hS.2.1 25 (by decide) (by decide)) rfl (by kernel_rfl) (index_C_X (i := 0) (m := 2) (c := c3) (by omega) _ _ _ _ _ _ _ _ (by kernel_rfl) (by kernel_rfl)) ?_
  refine takeL (n := 112) (k := 26) (v := .pointer (some ⟨b3, o3 + 0 * 6, none⟩)) hS.1 (hS.2.1 26 (by decide) (by decide)) rfl (by kernel_rfl) (fun _ _ => by kernel_rfl) ?_
  refine takeL (n := 112) (k := 27) (v := (tu 1 2 3 80)) hS.1 (hS.2.1 27 (by decide) (by decide)) rfl (by kernel_rfl) (ldTU_X (t := T3) y0 y1 y2 y3 lb3 _ _ _ _ _ _ _ (by kernel_rfl)) ?_
  refine callL (n := 112) (k := 28) (v := (tu 1 2 3 80)) (hS.2.2.1 28 (by decide)) rfl (by kernel_rfl) (by kernel_rfl) (tuple3_any W) ?_
  intro W1 gW1
  have E := E.tr gW1
  have s2 := s2.ext gW1
  have s3 := s3.ext gW1
  refine takeL (n := 112) (k := 29) (v := .bool true) hS.1 (hS.2.1 29 (by decide) (by decide)) rfl (by kernel_rfl) (fun _ _ => by kernel_rfl) ?_
  refine takeL (n := 112) (k := 30) (v := .bool true) hS.1 (hS.2.1 30 (by decide) (by decide)) rfl (by kernel_rfl) (fun _ _ => by kernel_rfl) ?_
  refine takeL (n := 112) (k := 31) (v := .bool true) hS.1 (hS.2.1 31 (by decide) (by decide)) rfl (by kernel_rfl) (fun _ _ => by kernel_rfl) ?_
  refine takeL (n := 112) (k := 32) (v := .int .i64 201) hS.1 (hS.2.1 32 (by decide) (by decide)) rfl (by kernel_rfl) (fun _ _ => by kernel_rfl) ?_
  refine takeL (n := 112) (k := 33) (v := .bool true) hS.1 (hS.2.1 33 (by decide) (by decide)) rfl (by kernel_rfl) (fun _ _ => by kernel_rfl) ?_
  refine takeL (n := 112) (k := 34) (v := .bool true) hS.1 (hS.2.1 34 (by decide) (by decide)) rfl (by kernel_rfl) (fun _ _ => by kernel_rfl) ?_
  refine takeL (n := 112) (k := 35) (v := .bool true) hS.1 (hS.2.1 35 (by decide) (by decide)) rfl (by kernel_rfl) (fun _ _ => by kernel_rfl) ?_
  refine takeL (n := 112) (k := 36) (v := .int .i64 2) hS.1 (hS.2.1 36 (by decide) (by decide)) rfl (by kernel_rfl) (fun _ _ => by kernel_rfl) ?_
  refine takeL (n := 112) (k := 37) (v := .bool true) hS.1 (hS.2.1 37 (by decide) (by decide)) rfl (by kernel_rfl) (fun _ _ => by kernel_rfl) ?_
  refine takeL (n := 112) (k := 38) (v := .bool true) hS.1 (hS.2.1 38 (by decide) (by decide)) rfl (by kernel_rfl) (fun _ _ => by kernel_rfl) ?_
  refine takeL (n := 112) (k := 39) (v := .bool true) hS.1 (hS.2.1 39 (by decide) (by decide)) rfl (by kernel_rfl) (fun _ _ => by kernel_rfl) ?_
  refine takeL (n := 112) (k := 40) (v := .slice p6 0 c6) hS.1 (hS.2.1 40 (by decide) (by decide)) rfl (by kernel_rfl) (fun _ _ => by kernel_rfl) ?_
  refine takeL (n := 112) (k := 41) (v := .int .i64 0) hS.1 (hS.2.1 41 (by decide) (by decide)) rfl (by kernel_rfl) (fun _ _ => by kernel_rfl) ?_
  refine takeL (n := 112) (k := 42) (v := .bool true) hS.1 (hS.2.1 42 (by decide) (by decide)) rfl (by kernel_rfl) (fun _ _ => by kernel_rfl) ?_
  refine takeL (n := 112) (k := 43) (v := .bool true) hS.1 (hS.2.1 43 (by decide) (by decide)) rfl (by kernel_rfl) (fun _ _ => by kernel_rfl) ?_
  refine takeL (n := 112) (k := 44) (v := .bool true) hS.1 (hS.2.1 44 (by decide) (by decide)) rfl (by kernel_rfl) (fun _ _ => by kernel_rfl) ?_
  refine takeL (n := 112) (k := 45) (v := .slice q6 1 d6) hS.1 (hS.2.1 45 (by decide) (by decide)) rfl (by kernel_rfl) (fun _ _ => by kernel_rfl) ?_
  refine takeL (n := 112) (k := 46) (v := .int .i64 1) hS.1 (hS.2.1 46 (by decide) (by decide)) rfl (by kernel_rfl) (fun _ _ => by kernel_rfl) ?_
  refine takeL (n := 112) (k := 47) (v := .bool true) hS.1 (hS.2.1 47 (by decide) (by decide)) rfl (by kernel_rfl) (fun _ _ => by kernel_rfl) ?_
  refine takeL (n := 112) (k := 48) (v := .bool true) hS.1 (hS.2.1 48 (by decide) (by decide)) rfl (by kernel_rfl) (fun _ _ => by kernel_rfl) ?_
  refine takeL (n := 112) (k := 49) (v := .bool true) hS.1 (hS.2.1 49 (by decide) (by decide)) rfl (by kernel_rfl) (fun _ _ => by kernel_rfl) ?_
  refine takeL (n := 112) (k := 50) (v := .slice p7 1 c7) hS.1 (hS.2.1 50 (by decide) (by decide)) rfl (by kernel_rfl) (fun _ _ => by kernel_rfl) ?_
  refine takeL (n := 112) (k := 51) (v := .int .i64 1) hS.1 (hS.2.1 51 (by decide) (by decide)) rfl (by kernel_rfl) (fun _ _ => by kernel_rfl) ?_
  refine takeL (n := 112) (k := 52) (v := .bool true) hS.1 (hS.2.1 52 (by decide) (by decide)) rfl (by kernel_rfl) (fun _ _ => by kernel_rfl) ?_
  refine takeL (n := 112) (k := 53) (v := .bool true) hS.1 (hS.2.1 53 (by decide) (by decide)) rfl (by kernel_rfl) (fun _ _ => by kernel_rfl) ?_
  refine takeL (n := 112) (k := 54) (v := .bool true) hS.1 (hS.2.1 54 (by decide) (by decide)) rfl (by kernel_rfl) (fun _ _ => by kernel_rfl) ?_
  refine takeL (n := 112) (k := 55) (v := .slice q7 0 d7) hS.1 (hS.2.1 55 (by decide) (by decide)) rfl (by kernel_rfl) (fun _ _ => by kernel_rfl) ?_
  refine takeL (n := 112) (k := 56) (v := .int .i64 0) hS.1 (hS.2.1 56 (by decide) (by decide)) rfl (by kernel_rfl) (fun _ _ => by kernel_rfl) ?_
  refine takeL (n := 112) (k := 57) (v := .bool true) hS.1 (hS.2.1 57 (by decide) (by decide)) rfl (by kernel_rfl) (fun _ _ => by kernel_rfl) ?_
  refine takeL (n := 112) (k := 58) (v := .bool true) hS.1 (hS.2.1 58 (by decide) (by decide)) rfl (by kernel_rfl) (fun _ _ => by kernel_rfl) ?_
  refine takeL (n := 112) (k := 59) (v := .bool true) hS.1 (hS.2.1 59 (by decide) (by decide)) rfl (by kernel_rfl) (fun _ _ => by kernel_rfl) ?_
  refine takeL (n := 112) (k := 60) (v := .bool true) hS.1 (hS.2.1 60 (by decide) (by decide)) rfl (by kernel_rfl) (fun _ _ => by kernel_rfl) ?_
  refine takeL (n := 112) (k := 61) (v := .bool true) hS.1 (hS.2.1 61 (by decide) (by decide)) rfl (by kernel_rfl) (fun _ _ => by kernel_rfl) ?_
  refine takeL (n := 112) (k := 62) (v := .bool true) hS.1 (hS.2.1 62 (by decide) (by decide)) rfl (by kernel_rfl) (fun _ _ => by kernel_rfl) ?_
  refine takeL (n := 112) (k := 63) (v := .bool false) hS.1 (hS.2.1 63 (by decide) (by decide)) rfl (by kernel_rfl) (fun _ _ => by kernel_rfl) ?_
  refine takeL (n := 112) (k := 64) (v := .bool true) hS.1 (hS.2.1 64 (by decide) (by decide)) rfl (by kernel_rfl) (fun _ _ => by kernel_rfl) ?_
  refine takeL (n := 112) (k := 65) (v := .bool true) hS.1 (hS.2.1 65 (by decide) (by decide)) rfl (by kernel_rfl) (fun _ _ => by kernel_rfl) ?_
  refine takeL (n := 112) (k := 66) (v := .bool true) hS.1 (hS.2.1 66 (by decide) (by decide)) rfl (by kernel_rfl) (fun _ _ => by kernel_rfl) ?_
  refine takeL (n := 112) (k := 67) (v := .slice p8 1 c8) hS.1 (hS.2.1 67 (by decide) (by decide)) rfl (by kernel_rfl) (fun _ _ => by kernel_rfl) ?_
  refine takeL (n := 112) (k := 68) (v := .int .i64 1) hS.1 (hS.2.1 68 (by decide) (by decide)) rfl (by kernel_rfl) (fun _ _ => by kernel_rfl) ?_
  refine takeL (n := 112) (k := 69) (v := .bool true) hS.1 (hS.2.1 69 (by decide) (by decide)) rfl (by kernel_rfl) (fun _ _ => by kernel_rfl) ?_
  refine takeL (n := 112) (k := 70) (v := .bool true) hS.1 (hS.2.1 70 (by decide) (by decide)) rfl (by kernel_rfl) (fun _ _ => by kernel_rfl) ?_
  refine takeL (n := 112) (k := 71) (v := .bool true) hS.1 (hS.2.1 71 (by decide) (by decide)) rfl (by kernel_rfl) (fun _ _ => by kernel_rfl) ?_
  refine takeL (n := 112) (k := 72) (v := .int .i64 1) hS.1 (hS.2.1 72 (by decide) (by decide)) rfl (by kernel_rfl) (fun _ _ => by kernel_rfl) ?_
  refine takeL (n := 112) (k := 73) (v := .bool true) hS.1 (hS.2.1 73 (by decide) (by decide)) rfl (by kernel_rfl) (fun _ _ => by kernel_rfl) ?_
  refine takeL (n := 112) (k := 74) (v := .bool true) hS.1 (hS.2.1 74 (by decide) (by decide)) rfl (by kernel_rfl) (fun _ _ => by kernel_rfl) ?_
  refine takeL (n := 112) (k := 75) (v := .bool true) hS.1 (hS.2.1 75 (by decide) (by decide)) rfl (by kernel_rfl) (fun _ _ => by kernel_rfl) ?_
  refine takeL (n := 112) (k := 76) (v := .bool true) hS.1 (hS.2.1 76 (by decide) (by decide)) rfl (by kernel_rfl) (fun _ _ => by kernel_rfl) ?_
  refine takeL (n := 112) (k := 77) (v := .bool true) hS.1 (hS.2.1 77 (by decide) (by decide)) rfl (by kernel_rfl) (fun _ _ => by kernel_rfl) ?_
  refine takeL (n := 112) (k := 78) (v := .bool true) hS.1 (hS.2.1 78 (by decide) (by decide)) rfl (by kernel_rfl) (fun _ _ => by kernel_rfl) ?_
  refine takeL (n := 112) (k := 79) (v := .slice (some ⟨b2, o2, none⟩) 1 c2) hS.1 (hS.2.1 79 (by decide) (by decide)) rfl (by kernel_rfl) (fun _ _ => by kernel_rfl) ?_
  refine takeL (n := 112) (k := 80) (v := .int .i64 (ofT T7)) hS.1 (hS.2.1 80 (by decide) (by decide)) rfl (by kernel_rfl) (fun _ _ => by kernel_rfl) ?_
  refine callLE (n := 112) (k := 81) (R := fun v _ => ∃ p c, v = .slice p 1 c) (hS.2.2.1 81 (by decide)) rfl (by kernel_rfl) (by kernel_rfl) ((wo12 c2 W1 s2).mono fun e w' ⟨p, c, h1, _, h3⟩ => ⟨_, h1, ⟨p, c, rfl⟩, h3⟩) ?_
  rintro _ W2 gW2 ⟨pa, ca, rfl⟩
  have E := E.tr gW2
  have s2 := s2.ext gW2
  have s3 := s3.ext gW2
  refine takeL (n := 112) (k := 82) (v := .int .i64 1) hS.1 (hS.2.1 82 (by decide) (by decide)) rfl (by kernel_rfl) (fun _ _ => by kernel_rfl) ?_
  refine takeL (n := 112) (k := 83) (v := .bool true) hS.1 (hS.2.1 83 (by decide) (by decide)) rfl (by kernel_rfl) (fun _ _ => by kernel_rfl) ?_
  refine takeL (n := 112) (k := 84) (v := .bool true) hS.1 (hS.2.1 84 (by decide) (by decide)) rfl (by kernel_rfl) (fun _ _ => by kernel_rfl) ?_
  refine takeL (n := 112) (k := 85) (v := .bool true) hS.1 (hS.2.1 85 (by decide) (by decide)) rfl (by kernel_rfl) (fun _ _ => by kernel_rfl) ?_
  refine takeL (n := 112) (k := 86) (v := .slice (some ⟨b2, o2, none⟩) 1 c2) hS.1 (hS.2.1 86 (by decide) (by decide)) rfl (by kernel_rfl) (fun _ _ => by kernel_rfl) ?_
  refine takeL (n := 112) (k := 87) (v := .int .i64 (ofT T7)) hS.1 (hS.2.1 87 (by decide) (by decide)) rfl (by kernel_rfl) (fun _ _ => by kernel_rfl) ?_
  refine callLE (n := 112) (k := 88) (R := fun v _ => ∃ p c, v = .slice p 0 c) (hS.2.2.1 88 (by decide)) rfl (by kernel_rfl) (by kernel_rfl) ((ww13 c2 W2 s2).mono fun e w' ⟨p, c, h1, _, h3⟩ => ⟨_, h1, ⟨p, c, rfl⟩, h3⟩) ?_
  rintro _ W3 gW3 ⟨pb, cb, rfl⟩
  have E := E.tr gW3
  have s2 := s2.ext gW3
  have s3 := s3.ext gW3
  refine takeL (n := 112) (k := 89) (v := .int .i64 0) hS.1 (hS.2.1 89 (by decide) (by decide)) rfl (by kernel_rfl) (fun _ _ => by kernel_rfl) ?_
  refine takeL (n := 112) (k := 90) (v := .bool true) hS.1 (hS.2.1 90 (by decide) (by decide)) rfl (by kernel_rfl) (fun _ _ => by kernel_rfl) ?_
  refine takeL (n := 112) (k := 91) (v := .bool true) hS.1 (hS.2.1 91 (by decide) (by decide)) rfl (by kernel_rfl) (fun _ _ => by kernel_rfl) ?_
  refine takeL (n := 112) (k := 92) (v := .bool true) hS.1 (hS.2.1 92 (by decide) (by decide)) rfl (by kernel_rfl) (fun _ _ => by kernel_rfl) ?_
  refine takeL (n := 112) (k := 93) (v := .slice (some ⟨b3, o3, none⟩) 2 c3) hS.1 (hS.2.1 93 (by decide) (by decide)) rfl (by kernel_rfl) (fun _ _ => by kernel_rfl) ?_
  refine callL (n := 112) (k := 94) (v := .bool true) (hS.2.2.1 94 (by decide)) rfl (by kernel_rfl) (by kernel_rfl) (wr14 c3 W3 s3) ?_
  intro W4 gW4
  have E := E.tr gW4
  have s2 := s2.ext gW4
  have s3 := s3.ext gW4
  refine takeL (n := 112) (k := 95) (v := .bool true) hS.1 (hS.2.1 95 (by decide) (by decide)) rfl (by kernel_rfl) (fun _ _ => by kernel_rfl) ?_
  refine takeL (n := 112) (k := 96) (v := .bool true) hS.1 (hS.2.1 96 (by decide) (by decide)) rfl (by kernel_rfl) (fun _ _ => by kernel_rfl) ?_
  refine takeL (n := 112) (k := 97) (v := .slice (some ⟨b3, o3, none⟩) 2 c3) hS.1 (hS.2.1 97 (by decide) (by decide)) rfl (by kernel_rfl) (fun _ _ => by kernel_rfl) ?_
  refine callL (n := 112) (k := 98) (v := .bool true) (hS.2.2.1 98 (by decide)) rfl (by kernel_rfl) (by kernel_rfl) (wm16 (some ⟨b3, o3, none⟩) c3 W4) ?_
  intro W5 gW5
  have E := E.tr gW5
  have s2 := s2.ext gW5
  have s3 := s3.ext gW5
  refine takeL (n := 112) (k := 99) (v := .bool true) hS.1 (hS.2.1 99 (by decide) (by decide)) rfl (by kernel_rfl) (fun _ _ => by kernel_rfl) ?_
  refine takeL (n := 112) (k := 100) (v := .bool true) hS.1 (hS.2.1 100 (by decide) (by decide)) rfl (by kernel_rfl) (fun _ _ => by kernel_rfl) ?_
  refine takeL (n := 112) (k := 101) (v := .agg #[.int .u32 0, .int .u32 0, .int .u16 0, .int .u16 0, .int .i64 2, .int .i64 1]) hS.1 (hS.2.1 101 (by decide) (by decide)) rfl (by kernel_rfl) (fun _ _ => by kernel_rfl) ?_
  refine makeL (n := 112) (k := 102) (hS.2.2.1 102 (by decide)) rfl (by kernel_rfl) (bld_run _ _ _ _ _ _ _ (by kernel_rfl) W5) (Ext.al (Ext.rf _) _) ?_
  obtain ⟨WB, hWB⟩ : ∃ WB, W5.alloc (.cells #[.int .u32 0, .int .u32 0, .int .u16 0, .int .u16 0, .int .i64 2, .int .i64 1] 43) = WB := ⟨_, rfl⟩
  have hbx := World.alloc_heap_new W5 (.cells #[.int .u32 0, .int .u32 0, .int .u16 0, .int .u16 0, .int .i64 2, .int .i64 1] 43)
  have gB : Ext W5 WB := by rw [← hWB]; exact Ext.al (Ext.rf _) _
  rw [hWB] at hbx ⊢
  have E := E.tr gB
  have s2 := s2.ext gB
  have s3 := s3.ext gB
  refine callL (n := 112) (k := 103) (v := .bool false) (hS.2.2.1 103 (by decide)) rfl (by kernel_rfl) (by kernel_rfl) (wr15 1 WB (SlC.one hbx)) ?_
  intro W6 gW6
  have E := E.tr gW6
  have s2 := s2.ext gW6
  have s3 := s3.ext gW6
  refine takeL (n := 112) (k := 104) (v := .bool true) hS.1 (hS.2.1 104 (by decide) (by decide)) rfl (by kernel_rfl) (fun _ _ => by kernel_rfl) ?_
  refine takeL (n := 112) (k := 105) (v := .bool true) hS.1 (hS.2.1 105 (by decide) (by decide)) rfl (by kernel_rfl) (fun _ _ => by kernel_rfl) ?_
  refine takeL (n := 112) (k := 106) (v := .bool true) hS.1 (hS.2.1 106 (by decide) (by decide)) rfl (by kernel_rfl) (fun _ _ => by kernel_rfl) ?_
  refine makeL (n := 112) (k := 107) (hS.2.2.1 107 (by decide)) rfl (by kernel_rfl) (mks_run _ _ _ _ _ _ W6 (by kernel_rfl)) (Ext.al (Ext.rf _) _) ?_
  obtain ⟨WC, hWC⟩ : ∃ WC, W6.alloc (.cells z32 43) = WC := ⟨_, rfl⟩
  have gC : Ext W6 WC := by rw [← hWC]; exact Ext.al (Ext.rf _) _
  rw [hWC]
  have E := E.tr gC
  have s2 := s2.ext gC
  have s3 := s3.ext gC
  refine callL (n := 112) (k := 108) (v := .bool false) (hS.2.2.1 108 (by decide)) rfl (by kernel_rfl) (by kernel_rfl) (wm17 (some ⟨W6.heap.size, 0, none⟩) 32 WC) ?_
  intro W7 gW7
  have E := E.tr gW7
  have s2 := s2.ext gW7
  have s3 := s3.ext gW7
  refine takeL (n := 112) (k := 109) (v := .bool true) hS.1 (hS.2.1 109 (by decide) (by decide)) rfl (by kernel_rfl) (fun _ _ => by kernel_rfl) ?_
  refine takeL (n := 112) (k := 110) (v := .bool true) hS.1 (hS.2.1 110 (by decide) (by decide)) rfl (by kernel_rfl) (fun _ _ => by kernel_rfl) ?_
  refine takeL (n := 112) (k := 111) (v := .bool true) hS.1 (hS.2.1 111 (by decide) (by decide)) rfl (by kernel_rfl) (fun _ _ => by kernel_rfl) ?_
  refine doneX hS.2.2.2 ?_
  clear hS
  go_simp
  go_wp2
  exact bodyPost_ret (v := .bool true) (by simp [results, Try.results14, go_sem]) rfl ⟨rfl, E⟩

end Go.Proofs.Ytookffaojlkfaaa
