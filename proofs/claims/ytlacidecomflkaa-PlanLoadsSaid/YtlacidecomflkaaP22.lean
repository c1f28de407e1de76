/- wakes of law 21: it answers true. -/
import Derived.Test.YtlacidecomflkaaP21
import Derived.Test.YtlacidecomflkaaXS
set_option linter.unusedSimpArgs false
set_option linter.unusedVariables false
namespace Go.Proofs.Ytlacidecomflkaa
open Go.RowKit

def PlanN (xs : List Sh) (n : Nat) (er : Int) (w : World) (e : Ending) (w' : World) : Prop := ∃ p c, e = .returned (.tuple #[.slice p n c, .int .i64 er]) ∧ n ≤ c ∧ SlS w' p xs ∧ Ext w w'
theorem PlanSl.n {xs : List Sh} {n : Nat} {er r : Int} {w : World} {e : Ending} {w' : World} (h : PlanSl xs er w e w') (hn : xs.length = n) (he : er = r) : PlanN xs n r w e w' := by
  subst hn; subst he; exact h
theorem y0 : xs16[0]? = some ⟨0, 2⟩ := by kernel_rfl
theorem y1 : xs16[1]? = some ⟨1, 4⟩ := by kernel_rfl
theorem SlS.at {W : World} {p : Option Addr} {xs : List Sh} (h : SlS W p xs) (k : Nat) (s : Sh) (hx : xs[k]? = some s) : ∃ b off, p = some ⟨b, off, none⟩ ∧ Lt b W ∧ W.cell? ⟨b, off + k * 2, none⟩ = some (.int .i64 s.b) ∧ W.cell? ⟨b, off + k * 2 + 1, none⟩ = some (.int .i64 s.t) := by
  obtain ⟨hk, e⟩ := List.getElem?_eq_some_iff.1 hx
  obtain ⟨b, off, h1, h2, h3, h4⟩ := h k hk
  rw [e] at h3 h4
  exact ⟨b, off, h1, h2, h3, h4⟩
theorem c1 (W : World) : Calls Try.prog 14 #[.agg (ov z0), .slice (some ⟨W.heap.size, 0, none⟩) 1 1, .int .i64 1] (W.alloc (.cells #[.int .i64 0] 3)) (PlanN xs8 8 0 (W.alloc (.cells #[.int .i64 0] 3))) := (w_add z0 0 1 W).mono fun _ _ h => h.n k_xs8 k_add
theorem c2 (W : World) : Calls Try.prog 14 #[.agg (ov z0), .slice (some ⟨W.heap.size, 0, none⟩) 1 1, .int .i64 0] (W.alloc (.cells #[.int .i64 0] 3)) (PlanN (addX z0 [0] 0) 0 201 (W.alloc (.cells #[.int .i64 0] 3))) := (w_add z0 0 0 W).mono fun _ _ h => h.n (by kernel_rfl) k_add0
theorem c3 (W : World) : Calls Try.prog 16 #[.agg (ov z0), .slice (some ⟨W.heap.size, 0, none⟩) 1 1, .int .i64 0] (W.alloc (.cells #[.int .i64 0] 3)) (PlanN (remX z0 [0] 0) 0 200 (W.alloc (.cells #[.int .i64 0] 3))) := (w_rem1 z0 0 0 W).mono fun _ _ h => h.n (by kernel_rfl) k_rem0
theorem c4 (W : World) : Calls Try.prog 16 #[.agg (ov z0), .slice (some ⟨W.heap.size, 0, none⟩) 1 1, .int .i64 2] (W.alloc (.cells #[.int .i64 0] 3)) (PlanN (remX z0 [0] 2) 0 202 (W.alloc (.cells #[.int .i64 0] 3))) := (w_rem1 z0 0 2 W).mono fun _ _ h => h.n (by kernel_rfl) k_rem2
theorem c5 (W : World) : Calls Try.prog 18 #[.agg (ov z0), .slice none 0 0] W (PlanN (fillX z0 []) 0 200 W) := (w_fill0 z0 W).mono fun _ _ h => h.n (by kernel_rfl) k_fill0
theorem c6 (W : World) : Calls Try.prog 18 #[.agg (ov mn), .slice (some ⟨W.heap.size, 0, none⟩) 2 2] (W.alloc (.cells #[.int .i64 2, .int .i64 4] 3)) (PlanN xs16 16 0 (W.alloc (.cells #[.int .i64 2, .int .i64 4] 3))) := (w_fill2 mn 2 4 W).mono fun _ _ h => h.n k_xs16 k_fill
theorem c7 (o : Nat → Int) (xs : List Sh) (n c : Nat) (p : Option Addr) (W : World) (hn : xs.length = n) (hs : SlS W p xs) (h : n ≤ 1000) : Calls Try.prog 29 #[.agg (ov o), .slice p n c] W fun e w' => e = .returned (.agg (ov (apply o xs))) ∧ Ext W w' := by
  subst hn; exact apply_any o p xs c W hs h
theorem c7a (c : Nat) (p : Option Addr) (W : World) (hs : SlS W p xs8) : Calls Try.prog 29 #[.agg (ov z0), .slice p 8 c] W fun e w' => e = .returned (.agg (ov pr)) ∧ Ext W w' := c7 z0 xs8 8 c p W k_xs8 hs (by omega)
theorem c7b (c : Nat) (p : Option Addr) (W : World) (hs : SlS W p xb8) : Calls Try.prog 29 #[.agg (ov pr), .slice p 8 c] W fun e w' => e = .returned (.agg (ov (apply pr xb8))) ∧ Ext W w' := c7 pr xb8 8 c p W k_xb8 hs (by omega)
theorem c8 (W : World) : Calls Try.prog 16 #[.agg (ov pr), .slice (some ⟨W.heap.size, 0, none⟩) 2 2, .int .i64 1] (W.alloc (.cells #[.int .i64 0, .int .i64 1] 3)) (PlanN xb8 8 0 (W.alloc (.cells #[.int .i64 0, .int .i64 1] 3))) := (w_rem2 pr 0 1 1 W).mono fun _ _ h => h.n k_xb8 k_rem
theorem c9 (W : World) : Calls Try.prog 20 #[.agg (ov pr), .slice (some ⟨W.heap.size, 0, none⟩) 2 2] (W.alloc (.cells #[.int .i64 0, .int .i64 1] 3)) fun e w' => e = .returned (.tuple #[.int .i64 0, .bool true]) ∧ Ext (W.alloc (.cells #[.int .i64 0, .int .i64 1] 3)) w' :=
  (pick_any pr _ [0, 1] 2 _ (sl_lit2 0 1 3 W) (by simp) (by simp)).mono fun e w' h => by rw [k_pick, k_pickB] at h; exact h
theorem c10 (W : World) : Calls Try.prog 20 #[.agg (ov z0), .slice none 0 0] W fun e w' => e = .returned (.tuple #[.int .i64 (pick z0 []), .bool false]) ∧ Ext W w' :=
  (pick_any z0 none [] 0 _ (Sl.nil _ _) (by simp) (by simp)).mono fun e w' h => by rw [k_pick0] at h; exact h
theorem c11 (o : Nat → Int) (a b s : Int) (hs : spread o [a, b] = s) (W : World) : Calls Try.prog 27 #[.agg (ov o), .slice (some ⟨W.heap.size, 0, none⟩) 2 2] (W.alloc (.cells #[.int .i64 a, .int .i64 b] 3)) fun e w' => e = .returned (.int .i64 s) ∧ Ext (W.alloc (.cells #[.int .i64 a, .int .i64 b] 3)) w' :=
  (spread_any o _ [a, b] 2 _ (sl_lit2 a b 3 W) (by simp) (by simp)).mono fun e w' h => by rw [hs] at h; exact h
theorem c12 (o : Nat → Int) (a b : Int) (s : Bool) (hs : rightP o [a, b] = s) (W : World) : Calls Try.prog 23 #[.agg (ov o), .slice (some ⟨W.heap.size, 0, none⟩) 2 2] (W.alloc (.cells #[.int .i64 a, .int .i64 b] 3)) fun e w' => e = .returned (.bool s) ∧ Ext (W.alloc (.cells #[.int .i64 a, .int .i64 b] 3)) w' :=
  (right_any o _ [a, b] 2 _ (sl_lit2 a b 3 W) (by simp)).mono fun e w' h => by rw [hs] at h; exact h
theorem c13 (W : World) : Calls Try.prog 25 #[.agg (ov pr), .int .i64 1] W fun e w' => e = .returned (.int .i64 8) ∧ Ext W w' :=
  (load_any pr 1 W).mono fun e w' h => by rw [k_load] at h; exact h

theorem load_own_X {w : World} {B : Nat} {o : Nat → Int} (h : rowD w B = ov o) (hl : Lt B w) (ρ : Operand → Value) (dst : Option Tmp) (x : Operand) (ty : TypeId) (pos : String) (after : Array Edge) (g : Option (Nat × Bool))
    (hx : ρ x = .pointer (some ⟨B, 0, none⟩)) : ∀ w', Ext w w' → (execOp ρ ⟨dst, .load 22 x, ty, pos, after, g⟩).run Try.prog w' = .ok (.value (.agg (ov o))) w' := by
  intro w' hE
  have hr := row_ext hE hl h
  have hb : blkOf (ρ x) = B := by rw [hx]; rfl
  have := exec_load_own ρ dst x ty pos after g w' (by rw [hb]; exact hx) (by rw [hb, hr]; simp [ov, rowv])
  rwa [hb, hr] at this
theorem load_sh_X {w : World} {B O : Nat} {a b : Int} (h0 : w.cell? ⟨B, O, none⟩ = some (.int .i64 a)) (h1 : w.cell? ⟨B, O + 1, none⟩ = some (.int .i64 b)) (hl : Lt B w) (ρ : Operand → Value) (dst : Option Tmp) (x : Operand) (ty : TypeId) (pos : String) (after : Array Edge) (g : Option (Nat × Bool))
    (hx : ρ x = .pointer (some ⟨B, O, none⟩)) : ∀ w', Ext w w' → (execOp ρ ⟨dst, .load 45 x, ty, pos, after, g⟩).run Try.prog w' = .ok (.value (.agg #[.int .i64 a, .int .i64 b])) w' := by
  intro w' hE
  have h0 := (hE.cell (p := ⟨B, _, none⟩) hl).trans h0
  have h1 := (hE.cell (p := ⟨B, _, none⟩) hl).trans h1
  simp only [execOp, hx]
  go_simp
theorem load_int_X {w : World} {B O : Nat} {a : Int} (h0 : w.cell? ⟨B, O, none⟩ = some (.int .i64 a)) (hl : Lt B w) (ρ : Operand → Value) (dst : Option Tmp) (x : Operand) (ty : TypeId) (pos : String) (after : Array Edge) (g : Option (Nat × Bool))
    (hx : ρ x = .pointer (some ⟨B, O, none⟩)) : ∀ w', Ext w w' → (execOp ρ ⟨dst, .load 3 x, ty, pos, after, g⟩).run Try.prog w' = .ok (.value (.int .i64 a)) w' := by
  intro w' hE
  have h0 := (hE.cell (p := ⟨B, _, none⟩) hl).trans h0
  simp only [execOp, hx]
  go_simp
theorem eql_own_X {w : World} {a b : Nat → Int} (h : eqO a b = true) (ρ : Operand → Value) (dst : Option Tmp) (x y : Operand) (r ty : TypeId) (pos : String) (after : Array Edge) (g : Option (Nat × Bool))
    (hx : ρ x = .agg (ov a)) (hy : ρ y = .agg (ov b)) : ∀ w', Ext w w' → (execOp ρ ⟨dst, .binOp .eql 22 x y r, ty, pos, after, g⟩).run Try.prog w' = .ok (.value (.bool true)) w' := by
  intro w' hE
  simp only [execOp, hx, hy, Sem.run_bind, eql_own, h, Result.andThen_ok, Sem.run_pure]
  go_simp
set_option maxRecDepth 20000 in
set_option maxHeartbeats 4000000 in
theorem wakes_any (w : World) : Calls Try.prog 13 #[] w fun e w' => e = .returned (.bool true) ∧ Ext w w' := by
  go_enter Try.func13, Try.ntmps13
  go_wp2
  go_loopw [3] (fun v wr => ∃ k : Nat, k ≤ 16 ∧ v = .int .i64 k ∧ rowD wr w.heap.size = ov z0 ∧ rowD wr (w.heap.size + 1) = ov (fun i => if i < k then -1 else 0) ∧ frzD wr (w.heap.size + 1) = (0, 0) ∧ Lt (w.heap.size + 1) wr ∧ Ext w wr) (fun v _ => 16 - (intOf v).toNat)
  case atStart => exact ⟨0, Nat.zero_le _, rfl, by simp [go_sem]; rfl, by simp [go_sem]; rfl, by simp [go_sem], by simp [Lt], Ext.al (Ext.al (Ext.rf _) _) _⟩
  case round =>
    obtain ⟨k, hk, rfl, hR, hB, hZ, hL, hE⟩ := hrel
    by_cases hlt : k < 16
    · have hjl : (k : Int) < 16 := by omega
      have hcb := cell_row (i := k) hB hlt
      have hfr := frozen_of_frz hZ k
      have HB := Lib.hid hB
      have HRR := Lib.hid hR
      clear hB hR
      go_wp2
      go_roundw
      case rel =>
        refine ⟨k + 1, by omega, by go_num, ?_, ?_, by rw [frzD_setCell]; exact hZ, by rw [Lt_setCell]; exact hL, Ext.st _ (Nat.le_succ _) hE⟩
        · rw [rowD_setCell, if_neg (by omega)]; exact HRR.out
        · rw [rowD_setCell, if_pos rfl, HB.out, set_ov]
          refine ov_congr _ _ fun i hi => ?_
          unfold upd
          by_cases h1 : i = k
          · subst h1; simp
          · simp [h1, show (i < k + 1) = (i < k) from propext ⟨fun h => by omega, fun h => by omega⟩]
      case measure => simp [intOf]; omega
    · obtain rfl : k = 16 := by omega
      obtain ⟨W0, rfl⟩ : ∃ W0, wr = W0 := ⟨_, rfl⟩
      have q0 : rowD wr (w.heap.size + 1) = ov mn := by rw [hB]; exact ov_congr _ _ fun i hi => by simp [hi, mn]
      have r0 := hR
      have l0 : w.heap.size + 1 < wr.heap.size := hL
      have e0 := hE
      clear hB hR hL hE hZ hk hlt
      go_upto_region 7 with (go_at_call 14; go_must (with_reducible refine (c1 _).mono ?_); rintro e W1 ⟨p1, d1, rfl, j1, s1, h1⟩)
      have g1 : Ext wr W1 := (Ext.al (Ext.rf _) _).tr h1
      have l1 : w.heap.size + 1 < W1.heap.size := Nat.lt_of_lt_of_le l0 g1.size
      have r1 := row_ext g1 (Nat.lt_of_succ_lt l0) r0
      have q1 := row_ext g1 l0 q0
      have e1 := e0.tr g1
      clear h1 g1 r0 q0 e0
      go_upto_region 8 with (go_at_call 14; go_must (with_reducible refine (c2 _).mono ?_); rintro e W2 ⟨p2, d2, rfl, j2, s2, h2⟩)
      have g2 : Ext W1 W2 := (Ext.al (Ext.rf _) _).tr h2
      have l2 : w.heap.size + 1 < W2.heap.size := Nat.lt_of_lt_of_le l1 g2.size
      have r2 := row_ext g2 (Nat.lt_of_succ_lt l1) r1
      have q2 := row_ext g2 l1 q1
      have e2 := e1.tr g2
      have s1 := s1.ext g2
      clear h2 g2 r1 q1 e1
      go_upto_region 9 with (go_at_call 16; go_must (with_reducible refine (c3 _).mono ?_); rintro e W3 ⟨p3, d3, rfl, j3, s3, h3⟩)
      have g3 : Ext W2 W3 := (Ext.al (Ext.rf _) _).tr h3
      have l3 : w.heap.size + 1 < W3.heap.size := Nat.lt_of_lt_of_le l2 g3.size
      have r3 := row_ext g3 (Nat.lt_of_succ_lt l2) r2
      have q3 := row_ext g3 l2 q2
      have e3 := e2.tr g3
      have s1 := s1.ext g3
      clear h3 g3 r2 q2 e2
      go_upto_region 10 with (go_at_call 16; go_must (with_reducible refine (c4 _).mono ?_); rintro e W4 ⟨p4, d4, rfl, j4, s4, h4⟩)
      have g4 : Ext W3 W4 := (Ext.al (Ext.rf _) _).tr h4
      have l4 : w.heap.size + 1 < W4.heap.size := Nat.lt_of_lt_of_le l3 g4.size
      have r4 := row_ext g4 (Nat.lt_of_succ_lt l3) r3
      have q4 := row_ext g4 l3 q3
      have e4 := e3.tr g4
      have s1 := s1.ext g4
      clear h4 g4 r3 q3 e3
      go_upto_region 11 with (go_at_call 18; go_must (with_reducible refine (c5 _).mono ?_); rintro e W5 ⟨p5, d5, rfl, j5, s5, h5⟩)
      have g5 : Ext W4 W5 := h5
      have l5 : w.heap.size + 1 < W5.heap.size := Nat.lt_of_lt_of_le l4 g5.size
      have r5 := row_ext g5 (Nat.lt_of_succ_lt l4) r4
      have q5 := row_ext g5 l4 q4
      have e5 := e4.tr g5
      have s1 := s1.ext g5
      clear h5 g5 r4 q4 e4
      go_upto_region 12 with (go_at_call 18; go_must (with_reducible refine (c6 _).mono ?_); rintro e W6 ⟨p6, d6, rfl, j6, s6, h6⟩)
      have g6 : Ext W5 W6 := (Ext.al (Ext.rf _) _).tr h6
      have l6 : w.heap.size + 1 < W6.heap.size := Nat.lt_of_lt_of_le l5 g6.size
      have r6 := row_ext g6 (Nat.lt_of_succ_lt l5) r5
      have q6 := row_ext g6 l5 q5
      have e6 := e5.tr g6
      have s1 := s1.ext g6
      clear h6 g6 r5 q5 e5
      go_upto_region 14 with (fail)
      go_upto_region 15 with (go_at_call 29; go_must (with_reducible refine (c7a _ _ _ s1).mono ?_); rintro e X7 ⟨rfl, h7⟩)
      obtain ⟨W7, hV⟩ : ∃ V, setRow (X7.alloc (.cells #[Value.int IntKind.i64 0, Value.int IntKind.i64 0, Value.int IntKind.i64 0, Value.int IntKind.i64 0, Value.int IntKind.i64 0, Value.int IntKind.i64 0, Value.int IntKind.i64 0, Value.int IntKind.i64 0, Value.int IntKind.i64 0, Value.int IntKind.i64 0, Value.int IntKind.i64 0, Value.int IntKind.i64 0, Value.int IntKind.i64 0, Value.int IntKind.i64 0, Value.int IntKind.i64 0, Value.int IntKind.i64 0] 22)) X7.heap.size (ov pr) = V := ⟨_, rfl⟩
      have gV : Ext X7 W7 := by rw [← hV]; exact Ext.sr _ (Nat.le_refl _) (Ext.al (Ext.rf _) _)
      have t7 : rowD W7 X7.heap.size = ov pr := by rw [← hV]; exact rowD_setRow_same _ _ _ (by rw [rowD_new]; simp)
      have m7 : X7.heap.size < W7.heap.size := by rw [← hV, size_setRow]; simp
      rw [hV]
      clear hV
      have g7 : Ext W6 W7 := h7.tr gV
      have l7 : w.heap.size + 1 < W7.heap.size := Nat.lt_of_lt_of_le l6 g7.size
      have r7 := row_ext g7 (Nat.lt_of_succ_lt l6) r6
      have e7 := e6.tr g7
      have s1 := s1.ext g7
      have s6 := s6.ext g7
      have q7 := row_ext g7 l6 q6
      clear h7 gV g7 r6 q6 e6
      generalize X7.heap.size = B3 at *
      go_upto_region 16 with (go_at_call 16; go_must (with_reducible refine (c8 _).mono ?_); rintro e W8 ⟨p8, d8, rfl, j8, s8, h8⟩)
      have g8 : Ext W7 W8 := (Ext.al (Ext.rf _) _).tr h8
      have l8 : w.heap.size + 1 < W8.heap.size := Nat.lt_of_lt_of_le l7 g8.size
      have r8 := row_ext g8 (Nat.lt_of_succ_lt l7) r7
      have q8 := row_ext g8 l7 q7
      have e8 := e7.tr g8
      have s1 := s1.ext g8
      have s6 := s6.ext g8
      have t8 := row_ext g8 m7 t7
      have m8 := Nat.lt_of_lt_of_le m7 g8.size
      clear h8 g8 r7 q7 e7
      go_upto_region 17 with (go_at_call 20; go_must (with_reducible refine (c9 _).mono ?_); rintro e W9 ⟨rfl, h9⟩)
      have g9 : Ext W8 W9 := (Ext.al (Ext.rf _) _).tr h9
      have l9 : w.heap.size + 1 < W9.heap.size := Nat.lt_of_lt_of_le l8 g9.size
      have r9 := row_ext g9 (Nat.lt_of_succ_lt l8) r8
      have q9 := row_ext g9 l8 q8
      have e9 := e8.tr g9
      have s1 := s1.ext g9
      have s6 := s6.ext g9
      have t9 := row_ext g9 m8 t8
      have m9 := Nat.lt_of_lt_of_le m8 g9.size
      have s8 := s8.ext g9
      clear h9 g9 r8 q8 e8
      obtain ⟨b1, f1, rfl, lb1, u0, u1⟩ := s1.at 0 _ k_x0
      obtain ⟨b1', f1', eq1, -, u2, u3⟩ := s1.at 7 _ k_x7
      cases eq1
      obtain ⟨b6, f6, rfl, lb6, -, v1⟩ := s6.at 0 _ y0
      obtain ⟨b6', f6', eq6, -, -, v3⟩ := s6.at 1 _ y1
      cases eq6
      simp only [Nat.zero_mul, Nat.one_mul, Nat.add_zero, Nat.reduceMul, Nat.add_assoc, Nat.reduceAdd] at u0 u1 u2 u3 v1 v3
      have kb := k_back
      have lB : Lt w.heap.size W9 := by unfold Lt; omega
      have lB3 : Lt B3 W9 := m9
      clear s1 s6 q9 l0 l1 l2 l3 l4 l5 l6 l7 l8 m7 m8 t7 t8
      go_upto_region 18 with (go_at_call 20; (with_reducible refine (c10 _).mono ?_); rintro e W10 ⟨rfl, h10⟩)
      have u0 := (h10.cell (p := ⟨b1, _, none⟩) lb1).trans u0
      have u1 := (h10.cell (p := ⟨b1, _, none⟩) lb1).trans u1
      have u2 := (h10.cell (p := ⟨b1, _, none⟩) lb1).trans u2
      have u3 := (h10.cell (p := ⟨b1, _, none⟩) lb1).trans u3
      have v1 := (h10.cell (p := ⟨b6, _, none⟩) lb6).trans v1
      have v3 := (h10.cell (p := ⟨b6, _, none⟩) lb6).trans v3
      have lb1 := Nat.lt_of_lt_of_le lb1 h10.size
      have lb6 := Nat.lt_of_lt_of_le lb6 h10.size
      have r10 := row_ext h10 lB r9
      have t10 := row_ext h10 lB3 t9
      have lB := Nat.lt_of_lt_of_le lB (h10).size
      have lB3 := Nat.lt_of_lt_of_le lB3 (h10).size
      have s8 := s8.ext h10
      have e10 := e9.tr h10
      clear r9 t9 e9 h10
      refine wp_region_X (by kernel_rfl) ?_
      have h11 : Ext W10 W10.drew := Ext.dr (Ext.rf _)
      have u0 := (h11.cell (p := ⟨b1, _, none⟩) lb1).trans u0
      have u1 := (h11.cell (p := ⟨b1, _, none⟩) lb1).trans u1
      have u2 := (h11.cell (p := ⟨b1, _, none⟩) lb1).trans u2
      have u3 := (h11.cell (p := ⟨b1, _, none⟩) lb1).trans u3
      have v1 := (h11.cell (p := ⟨b6, _, none⟩) lb6).trans v1
      have v3 := (h11.cell (p := ⟨b6, _, none⟩) lb6).trans v3
      have lb1 : Lt b1 W10.drew := lb1
      have lb6 : Lt b6 W10.drew := lb6
      have r11 := row_ext h11 lB r10
      have t11 := row_ext h11 lB3 t10
      have lB := Nat.lt_of_lt_of_le lB (h11).size
      have lB3 := Nat.lt_of_lt_of_le lB3 (h11).size
      have s8 := s8.ext h11
      have e11 := e10.tr h11
      clear r10 t10 e10 h11
      generalize W10.drew = W11 at *
      refine withL (n := 106) (R := Sch) (E := ((Try.f13.body.bind (findR 18)).getD #[])) (by kernel_rfl) sch18 (by kernel_rfl) fun hS => ?_
      refine takeL (n := 106) (k := 0) (v := .int .i64 0) hS.1 (hS.2.1 0 (by decide) (by decide)) rfl (by kernel_rfl) (fun _ _ => by kernel_rfl) ?_
      refine takeL (n := 106) (k := 1) (v := .bool true) hS.1 (hS.2.1 1 (by decide) (by decide)) rfl (by kernel_rfl) (fun _ _ => by kernel_rfl) ?_
      refine takeL (n := 106) (k := 2) (v := .bool true) hS.1 (hS.2.1 2 (by decide) (by decide)) rfl (by kernel_rfl) (fun _ _ => by kernel_rfl) ?_
      refine takeL (n := 106) (k := 3) (v := .slice (some ⟨b1, f1, none⟩) 8 d1) hS.1 (hS.2.1 3 (by decide) (by decide)) rfl (by kernel_rfl) (fun _ _ => by kernel_rfl) ?_
      refine takeL (n := 106) (k := 4) (v := .pointer (some ⟨b1, f1, none⟩)) hS.1 (hS.2.1 4 (by decide) (by decide)) rfl (by kernel_rfl) (fun _ _ => by kernel_rfl) ?_
      refine takeL (n := 106) (k := 5) (v := .agg #[.int .i64 15, .int .i64 1]) hS.1 (hS.2.1 5 (by decide) (by decide)) rfl (by kernel_rfl) (load_sh_X u0 u1 lb1 _ _ _ _ _ _ _ (by kernel_rfl)) ?_
      refine takeL (n := 106) (k := 6) (v := .agg #[.int .i64 15, .int .i64 1]) hS.1 (hS.2.1 6 (by decide) (by decide)) rfl (by kernel_rfl) (fun _ _ => by kernel_rfl) ?_
      refine takeL (n := 106) (k := 7) (v := .bool true) hS.1 (hS.2.1 7 (by decide) (by decide)) rfl (by kernel_rfl) (fun _ _ => by kernel_rfl) ?_
      refine takeL (n := 106) (k := 8) (v := .bool true) hS.1 (hS.2.1 8 (by decide) (by decide)) rfl (by kernel_rfl) (fun _ _ => by kernel_rfl) ?_
      refine takeL (n := 106) (k := 9) (v := .bool true) hS.1 (hS.2.1 9 (by decide) (by decide)) rfl (by kernel_rfl) (fun _ _ => by kernel_rfl) ?_
      refine takeL (n := 106) (k := 10) (v := .slice (some ⟨b1, f1, none⟩) 8 d1) hS.1 (hS.2.1 10 (by decide) (by decide)) rfl (by kernel_rfl) (fun _ _ => by kernel_rfl) ?_
      refine takeL (n := 106) (k := 11) (v := .pointer (some ⟨b1, f1 + 14, none⟩)) hS.1 (hS.2.1 11 (by decide) (by decide)) rfl (by kernel_rfl) (fun _ _ => by kernel_rfl) ?_
      refine takeL (n := 106) (k := 12) (v := .agg #[.int .i64 8, .int .i64 1]) hS.1 (hS.2.1 12 (by decide) (by decide)) rfl (by kernel_rfl) (load_sh_X u2 u3 lb1 _ _ _ _ _ _ _ (by kernel_rfl)) ?_
      refine takeL (n := 106) (k := 13) (v := .agg #[.int .i64 8, .int .i64 1]) hS.1 (hS.2.1 13 (by decide) (by decide)) rfl (by kernel_rfl) (fun _ _ => by kernel_rfl) ?_
      refine takeL (n := 106) (k := 14) (v := .bool true) hS.1 (hS.2.1 14 (by decide) (by decide)) rfl (by kernel_rfl) (fun _ _ => by kernel_rfl) ?_
      refine takeL (n := 106) (k := 15) (v := .bool true) hS.1 (hS.2.1 15 (by decide) (by decide)) rfl (by kernel_rfl) (fun _ _ => by kernel_rfl) ?_
      refine takeL (n := 106) (k := 16) (v := .bool true) hS.1 (hS.2.1 16 (by decide) (by decide)) rfl (by kernel_rfl) (fun _ _ => by kernel_rfl) ?_
      refine takeL (n := 106) (k := 17) (v := .int .i64 201) hS.1 (hS.2.1 17 (by decide) (by decide)) rfl (by kernel_rfl) (fun _ _ => by kernel_rfl) ?_
      refine takeL (n := 106) (k := 18) (v := .bool true) hS.1 (hS.2.1 18 (by decide) (by decide)) rfl (by kernel_rfl) (fun _ _ => by kernel_rfl) ?_
      refine takeL (n := 106) (k := 19) (v := .bool true) hS.1 (hS.2.1 19 (by decide) (by decide)) rfl (by kernel_rfl) (fun _ _ => by kernel_rfl) ?_
      refine takeL (n := 106) (k := 20) (v := .bool true) hS.1 (hS.2.1 20 (by decide) (by decide)) rfl (by kernel_rfl) (fun _ _ => by kernel_rfl) ?_
      refine takeL (n := 106) (k := 21) (v := .int .i64 200) hS.1 (hS.2.1 21 (by decide) (by decide)) rfl (by kernel_rfl) (fun _ _ => by kernel_rfl) ?_
      refine takeL (n := 106) (k := 22) (v := .bool true) hS.1 (hS.2.1 22 (by decide) (by decide)) rfl (by kernel_rfl) (fun _ _ => by kernel_rfl) ?_
      refine takeL (n := 106) (k := 23) (v := .bool true) hS.1 (hS.2.1 23 (by decide) (by decide)) rfl (by kernel_rfl) (fun _ _ => by kernel_rfl) ?_
      refine takeL (n := 106) (k := 24) (v := .bool true) hS.1 (hS.2.1 24 (by decide) (by decide)) rfl (by kernel_rfl) (fun _ _ => by kernel_rfl) ?_
      refine takeL (n := 106) (k := 25) (v := .int .i64 202) hS.1 (hS.2.1 25 (by decide) (by decide)) rfl (by kernel_rfl) (fun _ _ => by kernel_rfl) ?_
      refine takeL (n := 106) (k := 26) (v := .bool true) hS.1 (hS.2.1 26 (by decide) (by decide)) rfl (by kernel_rfl) (fun _ _ => by kernel_rfl) ?_
      refine takeL (n := 106) (k := 27) (v := .bool true) hS.1 (hS.2.1 27 (by decide) (by decide)) rfl (by kernel_rfl) (fun _ _ => by kernel_rfl) ?_
      refine takeL (n := 106) (k := 28) (v := .bool true) hS.1 (hS.2.1 28 (by decide) (by decide)) rfl (by kernel_rfl) (fun _ _ => by kernel_rfl) ?_
      refine takeL (n := 106) (k := 29) (v := .int .i64 200) hS.1 (hS.2.1 29 (by decide) (by decide)) rfl (by kernel_rfl) (fun _ _ => by kernel_rfl) ?_
      refine takeL (n := 106) (k := 30) (v := .bool true) hS.1 (hS.2.1 30 (by decide) (by decide)) rfl (by kernel_rfl) (fun _ _ => by kernel_rfl) ?_
      refine takeL (n := 106) (k := 31) (v := .bool true) hS.1 (hS.2.1 31 (by decide) (by decide)) rfl (by kernel_rfl) (fun _ _ => by kernel_rfl) ?_
      refine takeL (n := 106) (k := 32) (v := .bool true) hS.1 (hS.2.1 32 (by decide) (by decide)) rfl (by kernel_rfl) (fun _ _ => by kernel_rfl) ?_
      refine takeL (n := 106) (k := 33) (v := .int .i64 0) hS.1 (hS.2.1 33 (by decide) (by decide)) rfl (by kernel_rfl) (fun _ _ => by kernel_rfl) ?_
      refine takeL (n := 106) (k := 34) (v := .bool true) hS.1 (hS.2.1 34 (by decide) (by decide)) rfl (by kernel_rfl) (fun _ _ => by kernel_rfl) ?_
      refine takeL (n := 106) (k := 35) (v := .bool true) hS.1 (hS.2.1 35 (by decide) (by decide)) rfl (by kernel_rfl) (fun _ _ => by kernel_rfl) ?_
      refine takeL (n := 106) (k := 36) (v := .bool true) hS.1 (hS.2.1 36 (by decide) (by decide)) rfl (by kernel_rfl) (fun _ _ => by kernel_rfl) ?_
      refine takeL (n := 106) (k := 37) (v := .slice (some ⟨b6, f6, none⟩) 16 d6) hS.1 (hS.2.1 37 (by decide) (by decide)) rfl (by kernel_rfl) (fun _ _ => by kernel_rfl) ?_
      refine takeL (n := 106) (k := 38) (v := .pointer (some ⟨b6, f6, none⟩)) hS.1 (hS.2.1 38 (by decide) (by decide)) rfl (by kernel_rfl) (fun _ _ => by kernel_rfl) ?_
      refine takeL (n := 106) (k := 39) (v := .pointer (some ⟨b6, f6 + 1, none⟩)) hS.1 (hS.2.1 39 (by decide) (by decide)) rfl (by kernel_rfl) (fun _ _ => by kernel_rfl) ?_
      refine takeL (n := 106) (k := 40) (v := .int .i64 2) hS.1 (hS.2.1 40 (by decide) (by decide)) rfl (by kernel_rfl) (load_int_X v1 lb6 _ _ _ _ _ _ _ (by kernel_rfl)) ?_
      refine takeL (n := 106) (k := 41) (v := .bool true) hS.1 (hS.2.1 41 (by decide) (by decide)) rfl (by kernel_rfl) (fun _ _ => by kernel_rfl) ?_
      refine takeL (n := 106) (k := 42) (v := .bool true) hS.1 (hS.2.1 42 (by decide) (by decide)) rfl (by kernel_rfl) (fun _ _ => by kernel_rfl) ?_
      refine takeL (n := 106) (k := 43) (v := .bool true) hS.1 (hS.2.1 43 (by decide) (by decide)) rfl (by kernel_rfl) (fun _ _ => by kernel_rfl) ?_
      refine takeL (n := 106) (k := 44) (v := .slice (some ⟨b6, f6, none⟩) 16 d6) hS.1 (hS.2.1 44 (by decide) (by decide)) rfl (by kernel_rfl) (fun _ _ => by kernel_rfl) ?_
      refine takeL (n := 106) (k := 45) (v := .pointer (some ⟨b6, f6 + 2, none⟩)) hS.1 (hS.2.1 45 (by decide) (by decide)) rfl (by kernel_rfl) (fun _ _ => by kernel_rfl) ?_
      refine takeL (n := 106) (k := 46) (v := .pointer (some ⟨b6, f6 + 3, none⟩)) hS.1 (hS.2.1 46 (by decide) (by decide)) rfl (by kernel_rfl) (fun _ _ => by kernel_rfl) ?_
      refine takeL (n := 106) (k := 47) (v := .int .i64 4) hS.1 (hS.2.1 47 (by decide) (by decide)) rfl (by kernel_rfl) (load_int_X v3 lb6 _ _ _ _ _ _ _ (by kernel_rfl)) ?_
      refine takeL (n := 106) (k := 48) (v := .bool true) hS.1 (hS.2.1 48 (by decide) (by decide)) rfl (by kernel_rfl) (fun _ _ => by kernel_rfl) ?_
      refine takeL (n := 106) (k := 49) (v := .bool true) hS.1 (hS.2.1 49 (by decide) (by decide)) rfl (by kernel_rfl) (fun _ _ => by kernel_rfl) ?_
      refine takeL (n := 106) (k := 50) (v := .bool true) hS.1 (hS.2.1 50 (by decide) (by decide)) rfl (by kernel_rfl) (fun _ _ => by kernel_rfl) ?_
      refine takeL (n := 106) (k := 51) (v := .int .i64 0) hS.1 (hS.2.1 51 (by decide) (by decide)) rfl (by kernel_rfl) (fun _ _ => by kernel_rfl) ?_
      refine takeL (n := 106) (k := 52) (v := .bool true) hS.1 (hS.2.1 52 (by decide) (by decide)) rfl (by kernel_rfl) (fun _ _ => by kernel_rfl) ?_
      refine takeL (n := 106) (k := 53) (v := .bool true) hS.1 (hS.2.1 53 (by decide) (by decide)) rfl (by kernel_rfl) (fun _ _ => by kernel_rfl) ?_
      refine takeL (n := 106) (k := 54) (v := .bool true) hS.1 (hS.2.1 54 (by decide) (by decide)) rfl (by kernel_rfl) (fun _ _ => by kernel_rfl) ?_
      refine takeL (n := 106) (k := 55) (v := .slice p8 8 d8) hS.1 (hS.2.1 55 (by decide) (by decide)) rfl (by kernel_rfl) (fun _ _ => by kernel_rfl) ?_
      refine takeL (n := 106) (k := 56) (v := .int .i64 8) hS.1 (hS.2.1 56 (by decide) (by decide)) rfl (by kernel_rfl) (fun _ _ => by kernel_rfl) ?_
      refine takeL (n := 106) (k := 57) (v := .bool true) hS.1 (hS.2.1 57 (by decide) (by decide)) rfl (by kernel_rfl) (fun _ _ => by kernel_rfl) ?_
      refine takeL (n := 106) (k := 58) (v := .bool true) hS.1 (hS.2.1 58 (by decide) (by decide)) rfl (by kernel_rfl) (fun _ _ => by kernel_rfl) ?_
      refine takeL (n := 106) (k := 59) (v := .bool true) hS.1 (hS.2.1 59 (by decide) (by decide)) rfl (by kernel_rfl) (fun _ _ => by kernel_rfl) ?_
      refine takeL (n := 106) (k := 60) (v := .agg (ov pr)) hS.1 (hS.2.1 60 (by decide) (by decide)) rfl (by kernel_rfl) (load_own_X t11 lB3 _ _ _ _ _ _ _ (by kernel_rfl)) ?_
      refine takeL (n := 106) (k := 61) (v := .slice p8 8 d8) hS.1 (hS.2.1 61 (by decide) (by decide)) rfl (by kernel_rfl) (fun _ _ => by kernel_rfl) ?_
      refine takeX (i := 63) (v := .agg (ov z0)) rfl hS.1 hS.2.2.1.1 (upX_ready hS.2.2.1.2.1) (by kernel_rfl) (load_own_X r11 lB _ _ _ _ _ _ _ (by kernel_rfl)) ?_
      refine callX (i := 62) (v := .agg (ov (apply pr xb8))) rfl hS.2.2.1.2.2 (by kernel_rfl) (by kernel_rfl) (c7b d8 _ _ s8) ?_
      intro W12 g12
      rw [lst_two]
      have r12 := row_ext g12 lB r11
      have t12 := row_ext g12 lB3 t11
      have lB := Nat.lt_of_lt_of_le lB (g12).size
      have lB3 := Nat.lt_of_lt_of_le lB3 (g12).size
      have s8 := s8.ext g12
      have e12 := e11.tr g12
      clear r11 t11 e11 g12
      refine takeL (n := 106) (k := 64) (v := .bool true) hS.1 (hS.2.1 64 (by decide) (by decide)) rfl (by kernel_rfl) (eql_own_X kb _ _ _ _ _ _ _ _ _ (by kernel_rfl) (by kernel_rfl)) ?_
      refine takeL (n := 106) (k := 65) (v := .bool true) hS.1 (hS.2.1 65 (by decide) (by decide)) rfl (by kernel_rfl) (fun _ _ => by kernel_rfl) ?_
      refine takeL (n := 106) (k := 66) (v := .bool true) hS.1 (hS.2.1 66 (by decide) (by decide)) rfl (by kernel_rfl) (fun _ _ => by kernel_rfl) ?_
      refine takeL (n := 106) (k := 67) (v := .int .i64 0) hS.1 (hS.2.1 67 (by decide) (by decide)) rfl (by kernel_rfl) (fun _ _ => by kernel_rfl) ?_
      refine takeL (n := 106) (k := 68) (v := .bool true) hS.1 (hS.2.1 68 (by decide) (by decide)) rfl (by kernel_rfl) (fun _ _ => by kernel_rfl) ?_
      refine takeL (n := 106) (k := 69) (v := .bool true) hS.1 (hS.2.1 69 (by decide) (by decide)) rfl (by kernel_rfl) (fun _ _ => by kernel_rfl) ?_
      refine takeL (n := 106) (k := 70) (v := .bool true) hS.1 (hS.2.1 70 (by decide) (by decide)) rfl (by kernel_rfl) (fun _ _ => by kernel_rfl) ?_
      refine takeL (n := 106) (k := 71) (v := .bool true) hS.1 (hS.2.1 71 (by decide) (by decide)) rfl (by kernel_rfl) (fun _ _ => by kernel_rfl) ?_
      refine takeL (n := 106) (k := 72) (v := .bool true) hS.1 (hS.2.1 72 (by decide) (by decide)) rfl (by kernel_rfl) (fun _ _ => by kernel_rfl) ?_
      refine takeL (n := 106) (k := 73) (v := .bool true) hS.1 (hS.2.1 73 (by decide) (by decide)) rfl (by kernel_rfl) (fun _ _ => by kernel_rfl) ?_
      refine takeL (n := 106) (k := 74) (v := .bool false) hS.1 (hS.2.1 74 (by decide) (by decide)) rfl (by kernel_rfl) (fun _ _ => by kernel_rfl) ?_
      refine takeL (n := 106) (k := 75) (v := .bool true) hS.1 (hS.2.1 75 (by decide) (by decide)) rfl (by kernel_rfl) (fun _ _ => by kernel_rfl) ?_
      refine takeL (n := 106) (k := 76) (v := .bool true) hS.1 (hS.2.1 76 (by decide) (by decide)) rfl (by kernel_rfl) (fun _ _ => by kernel_rfl) ?_
      refine takeL (n := 106) (k := 77) (v := .bool true) hS.1 (hS.2.1 77 (by decide) (by decide)) rfl (by kernel_rfl) (fun _ _ => by kernel_rfl) ?_
      refine takeL (n := 106) (k := 78) (v := .agg (ov pr)) hS.1 (hS.2.1 78 (by decide) (by decide)) rfl (by kernel_rfl) (load_own_X t12 lB3 _ _ _ _ _ _ _ (by kernel_rfl)) ?_
      refine callL (n := 106) (k := 79) (v := .int .i64 8) (hS.2.2.2.1 79 (by decide)) rfl (by kernel_rfl) (by kernel_rfl) (c13 _) ?_
      intro W13 g13
      have r13 := row_ext g13 lB r12
      have t13 := row_ext g13 lB3 t12
      have lB := Nat.lt_of_lt_of_le lB (g13).size
      have lB3 := Nat.lt_of_lt_of_le lB3 (g13).size
      have s8 := s8.ext g13
      have e13 := e12.tr g13
      clear r12 t12 e12 g13
      refine takeL (n := 106) (k := 80) (v := .bool true) hS.1 (hS.2.1 80 (by decide) (by decide)) rfl (by kernel_rfl) (fun _ _ => by kernel_rfl) ?_
      refine takeL (n := 106) (k := 81) (v := .bool true) hS.1 (hS.2.1 81 (by decide) (by decide)) rfl (by kernel_rfl) (fun _ _ => by kernel_rfl) ?_
      refine takeL (n := 106) (k := 82) (v := .bool true) hS.1 (hS.2.1 82 (by decide) (by decide)) rfl (by kernel_rfl) (fun _ _ => by kernel_rfl) ?_
      refine takeL (n := 106) (k := 83) (v := .agg (ov pr)) hS.1 (hS.2.1 83 (by decide) (by decide)) rfl (by kernel_rfl) (load_own_X t13 lB3 _ _ _ _ _ _ _ (by kernel_rfl)) ?_
      refine makeL (n := 106) (k := 84) (v := .slice (some ⟨W13.heap.size, 0, none⟩) 2 2) (w1 := (W13.alloc (.cells #[.int .i64 0, .int .i64 1] 3))) (hS.2.2.2.1 84 (by decide)) rfl (by kernel_rfl) (by kernel_rfl) (Ext.al (Ext.rf _) _) ?_
      have g14a : Ext W13 (W13.alloc (.cells #[.int .i64 0, .int .i64 1] 3)) := Ext.al (Ext.rf _) _
      refine callL (n := 106) (k := 85) (v := .int .i64 0) (hS.2.2.2.1 85 (by decide)) rfl (by kernel_rfl) (by kernel_rfl) (c11 _ _ _ _ k_sp _) ?_
      intro W14 h14
      have g14 := (g14a).tr h14
      have r14 := row_ext g14 lB r13
      have t14 := row_ext g14 lB3 t13
      have lB := Nat.lt_of_lt_of_le lB (g14).size
      have lB3 := Nat.lt_of_lt_of_le lB3 (g14).size
      have s8 := s8.ext g14
      have e14 := e13.tr g14
      clear r13 t13 e13 g14
      refine takeL (n := 106) (k := 86) (v := .bool true) hS.1 (hS.2.1 86 (by decide) (by decide)) rfl (by kernel_rfl) (fun _ _ => by kernel_rfl) ?_
      refine takeL (n := 106) (k := 87) (v := .bool true) hS.1 (hS.2.1 87 (by decide) (by decide)) rfl (by kernel_rfl) (fun _ _ => by kernel_rfl) ?_
      refine takeL (n := 106) (k := 88) (v := .bool true) hS.1 (hS.2.1 88 (by decide) (by decide)) rfl (by kernel_rfl) (fun _ _ => by kernel_rfl) ?_
      refine takeL (n := 106) (k := 89) (v := .agg (ov z0)) hS.1 (hS.2.1 89 (by decide) (by decide)) rfl (by kernel_rfl) (load_own_X r14 lB _ _ _ _ _ _ _ (by kernel_rfl)) ?_
      refine makeL (n := 106) (k := 90) (v := .slice (some ⟨W14.heap.size, 0, none⟩) 2 2) (w1 := (W14.alloc (.cells #[.int .i64 0, .int .i64 1] 3))) (hS.2.2.2.1 90 (by decide)) rfl (by kernel_rfl) (by kernel_rfl) (Ext.al (Ext.rf _) _) ?_
      have g15a : Ext W14 (W14.alloc (.cells #[.int .i64 0, .int .i64 1] 3)) := Ext.al (Ext.rf _) _
      refine callL (n := 106) (k := 91) (v := .int .i64 16) (hS.2.2.2.1 91 (by decide)) rfl (by kernel_rfl) (by kernel_rfl) (c11 _ _ _ _ k_sp0 _) ?_
      intro W15 h15
      have g15 := (g15a).tr h15
      have r15 := row_ext g15 lB r14
      have t15 := row_ext g15 lB3 t14
      have lB := Nat.lt_of_lt_of_le lB (g15).size
      have lB3 := Nat.lt_of_lt_of_le lB3 (g15).size
      have s8 := s8.ext g15
      have e15 := e14.tr g15
      clear r14 t14 e14 g15
      refine takeL (n := 106) (k := 92) (v := .bool true) hS.1 (hS.2.1 92 (by decide) (by decide)) rfl (by kernel_rfl) (fun _ _ => by kernel_rfl) ?_
      refine takeL (n := 106) (k := 93) (v := .bool true) hS.1 (hS.2.1 93 (by decide) (by decide)) rfl (by kernel_rfl) (fun _ _ => by kernel_rfl) ?_
      refine takeL (n := 106) (k := 94) (v := .bool true) hS.1 (hS.2.1 94 (by decide) (by decide)) rfl (by kernel_rfl) (fun _ _ => by kernel_rfl) ?_
      refine takeL (n := 106) (k := 95) (v := .agg (ov z0)) hS.1 (hS.2.1 95 (by decide) (by decide)) rfl (by kernel_rfl) (load_own_X r15 lB _ _ _ _ _ _ _ (by kernel_rfl)) ?_
      refine makeL (n := 106) (k := 96) (v := .slice (some ⟨W15.heap.size, 0, none⟩) 2 2) (w1 := (W15.alloc (.cells #[.int .i64 0, .int .i64 5] 3))) (hS.2.2.2.1 96 (by decide)) rfl (by kernel_rfl) (by kernel_rfl) (Ext.al (Ext.rf _) _) ?_
      have g16a : Ext W15 (W15.alloc (.cells #[.int .i64 0, .int .i64 5] 3)) := Ext.al (Ext.rf _) _
      refine callL (n := 106) (k := 97) (v := .bool true) (hS.2.2.2.1 97 (by decide)) rfl (by kernel_rfl) (by kernel_rfl) (c12 _ _ _ _ k_r1 _) ?_
      intro W16 h16
      have g16 := (g16a).tr h16
      have r16 := row_ext g16 lB r15
      have t16 := row_ext g16 lB3 t15
      have lB := Nat.lt_of_lt_of_le lB (g16).size
      have lB3 := Nat.lt_of_lt_of_le lB3 (g16).size
      have s8 := s8.ext g16
      have e16 := e15.tr g16
      clear r15 t15 e15 g16
      refine takeL (n := 106) (k := 98) (v := .bool true) hS.1 (hS.2.1 98 (by decide) (by decide)) rfl (by kernel_rfl) (fun _ _ => by kernel_rfl) ?_
      refine takeL (n := 106) (k := 99) (v := .bool true) hS.1 (hS.2.1 99 (by decide) (by decide)) rfl (by kernel_rfl) (fun _ _ => by kernel_rfl) ?_
      refine takeL (n := 106) (k := 100) (v := .agg (ov z0)) hS.1 (hS.2.1 100 (by decide) (by decide)) rfl (by kernel_rfl) (load_own_X r16 lB _ _ _ _ _ _ _ (by kernel_rfl)) ?_
      refine makeL (n := 106) (k := 101) (v := .slice (some ⟨W16.heap.size, 0, none⟩) 2 2) (w1 := (W16.alloc (.cells #[.int .i64 1, .int .i64 0] 3))) (hS.2.2.2.1 101 (by decide)) rfl (by kernel_rfl) (by kernel_rfl) (Ext.al (Ext.rf _) _) ?_
      have g17a : Ext W16 (W16.alloc (.cells #[.int .i64 1, .int .i64 0] 3)) := Ext.al (Ext.rf _) _
      refine callL (n := 106) (k := 102) (v := .bool false) (hS.2.2.2.1 102 (by decide)) rfl (by kernel_rfl) (by kernel_rfl) (c12 _ _ _ _ k_r2 _) ?_
      intro W17 h17
      have g17 := (g17a).tr h17
      have r17 := row_ext g17 lB r16
      have t17 := row_ext g17 lB3 t16
      have lB := Nat.lt_of_lt_of_le lB (g17).size
      have lB3 := Nat.lt_of_lt_of_le lB3 (g17).size
      have s8 := s8.ext g17
      have e17 := e16.tr g17
      clear r16 t16 e16 g17
      refine takeL (n := 106) (k := 103) (v := .bool true) hS.1 (hS.2.1 103 (by decide) (by decide)) rfl (by kernel_rfl) (fun _ _ => by kernel_rfl) ?_
      refine takeL (n := 106) (k := 104) (v := .bool true) hS.1 (hS.2.1 104 (by decide) (by decide)) rfl (by kernel_rfl) (fun _ _ => by kernel_rfl) ?_
      refine takeL (n := 106) (k := 105) (v := .bool true) hS.1 (hS.2.1 105 (by decide) (by decide)) rfl (by kernel_rfl) (fun _ _ => by kernel_rfl) ?_
      refine doneX hS.2.2.2.2 ?_
      generalize hA : Act.put _ _ _ = A
      go_wp2
      exact bodyPost_ret (v := .bool true) (by subst hA; kernel_rfl) (by subst hA; kernel_rfl) ⟨rfl, e17⟩

end Go.Proofs.Ytlacidecomflkaa
