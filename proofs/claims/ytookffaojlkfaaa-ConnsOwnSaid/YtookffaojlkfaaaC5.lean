/- Pairs of neighbours. -/
import Derived.Test.YtookffaojlkfaaaC4
import Derived.Test.YtookffaojlkfaaaXR
set_option linter.unusedSimpArgs false
set_option linter.unusedVariables false
namespace Go.Proofs.Ytookffaojlkfaaa
open Go.RowKit
def pathsX : List (Nat × List Nat) := [(0, [3, 4, 15]), (1, [2, 3, 4, 15]), (2, [3, 4, 15]), (3, [4, 15]), (4, [15]), (5, [15]), (6, [9, 10, 15]), (7, [8, 9, 10, 15]), (8, [9, 10, 15]), (9, [10, 15]), (10, [15]), (11, [13, 14, 15]), (12, [13, 14, 15]), (13, [14, 15]), (14, [15])]

def SchPC (ops : Array Oper) : Prop := Region.noSelect ops = true ∧ (∀ k, k < 15 → okX ops 17 k = true) ∧ (∀ k, k < 15 → closedB .any ops (lst 17 k) = true) ∧ (∀ k l, (k, l) ∈ pathsX → waitsB .any ops (k :: l) = true) ∧ Region.ready .any ops (lst 17 15) = [15] ∧ Region.ready .any ops (lst 17 16) = [16] ∧ Region.ready .any ops (lst 17 17) = []
theorem schPC : SchPC ((Try.f91.body.bind (findR 1)).getD #[]) := by
  have h1 : ((List.range 15).all fun k => okX ((Try.f91.body.bind (findR 1)).getD #[]) 17 k) = true := by kernel_rfl
  have h2 : ((List.range 15).all fun k => closedB .any ((Try.f91.body.bind (findR 1)).getD #[]) (lst 17 k)) = true := by kernel_rfl
  have h3 : (pathsX.all fun kl => waitsB .any ((Try.f91.body.bind (findR 1)).getD #[]) (kl.1 :: kl.2)) = true := by kernel_rfl
  exact ⟨by kernel_rfl, fun k hk => List.all_eq_true.1 h1 k (List.mem_range.2 hk), fun k hk => List.all_eq_true.1 h2 k (List.mem_range.2 hk), fun k l h => List.all_eq_true.1 h3 (k, l) h, by kernel_rfl, by kernel_rfl, by kernel_rfl⟩
theorem load_slC_X {w : World} {B O : Nat} {a : Option Addr} {m c : Nat} (h0 : w.cell? ⟨B, O, none⟩ = some (.slice a m c)) (hl : Lt B w) (ρ : Operand → Value) (dst : Option Tmp) (x : Operand) (ty : TypeId) (pos : String) (after : Array Edge) (g : Option (Nat × Bool))
    (hx : ρ x = .pointer (some ⟨B, O, none⟩)) : ∀ w', Ext w w' → (execOp ρ ⟨dst, .load 22 x, ty, pos, after, g⟩).run Try.prog w' = .ok (.value (.slice a m c)) w' := by
  intro w' hE
  have h0 := (hE.cell (p := ⟨B, _, none⟩) hl).trans h0
  simp only [execOp, hx]
  go_simp
theorem index_C_X {w : World} {B O i m c : Nat} (hi : i < m) (ρ : Operand → Value) (dst : Option Tmp) (x y : Operand) (ty : TypeId) (pos : String) (after : Array Edge) (g : Option (Nat × Bool))
    (hx : ρ x = .slice (some ⟨B, O, none⟩) m c) (hy : ρ y = .int .i64 (i : Nat)) : ∀ w', Ext w w' → (execOp ρ ⟨dst, .indexAddr 22 x y, ty, pos, after, g⟩).run Try.prog w' = .ok (.value (.pointer (some ⟨B, O + i * 6, none⟩))) w' := by
  intro w' hE
  have hi' : (i : Int) < m := by omega
  simp only [execOp, hx, hy]
  go_simp
theorem load_C_X {w : World} {B O i : Nat} {x : Co} (h0 : w.cell? ⟨B, O + i * 6, none⟩ = some (.int .u32 x.t.a)) (h1 : w.cell? ⟨B, O + i * 6 + 1, none⟩ = some (.int .u32 x.t.b)) (h2 : w.cell? ⟨B, O + i * 6 + 2, none⟩ = some (.int .u16 x.t.c)) (h3 : w.cell? ⟨B, O + i * 6 + 3, none⟩ = some (.int .u16 x.t.d)) (h4 : w.cell? ⟨B, O + i * 6 + 4, none⟩ = some (.int .i64 x.s)) (h5 : w.cell? ⟨B, O + i * 6 + 5, none⟩ = some (.int .i64 x.l)) (hl : Lt B w) (ρ : Operand → Value) (dst : Option Tmp) (q : Operand) (ty : TypeId) (pos : String) (after : Array Edge) (g : Option (Nat × Bool))
    (hx : ρ q = .pointer (some ⟨B, O + i * 6, none⟩)) : ∀ w', Ext w w' → (execOp ρ ⟨dst, .load 43 q, ty, pos, after, g⟩).run Try.prog w' = .ok (.value (.agg #[.int .u32 x.t.a, .int .u32 x.t.b, .int .u16 x.t.c, .int .u16 x.t.d, .int .i64 x.s, .int .i64 x.l])) w' := by
  intro w' hE
  have h0 := (hE.cell (p := ⟨B, _, none⟩) hl).trans h0
  have h1 := (hE.cell (p := ⟨B, _, none⟩) hl).trans h1
  have h2 := (hE.cell (p := ⟨B, _, none⟩) hl).trans h2
  have h3 := (hE.cell (p := ⟨B, _, none⟩) hl).trans h3
  have h4 := (hE.cell (p := ⟨B, _, none⟩) hl).trans h4
  have h5 := (hE.cell (p := ⟨B, _, none⟩) hl).trans h5
  simp only [execOp, hx]
  go_simp
theorem yield_C_X {w : World} {y : Nat} {v1 v2 : Value} {R : Result Next} (h : (Instr.yield y #[v1, v2]).run Try.prog w = R) (ρ : Operand → Value) (dst : Option Tmp) (x q1 q2 : Operand) (tys : Array TypeId) (ty : TypeId) (pos : String) (after : Array Edge) (g : Option (Nat × Bool))
    (hx : ρ x = .func (.yield y) #[] #[]) (h1 : ρ q1 = v1) (h2 : ρ q2 = v2) : (execOp ρ ⟨dst, .call { callee := .value x, args := #[q1, q2], argTypes := tys }, ty, pos, after, g⟩).run Try.prog w = R := by
  rw [← h]
  subst h1 h2
  simp only [execOp, hx]
  go_simp
def pairsC (xs : List Co) : List (Co × Co) := xs.zip xs.tail
theorem pairsC_len (xs : List Co) : (pairsC xs).length = xs.length - 1 := by simp [pairsC]
theorem pairsC_get (xs : List Co) (i : Nat) (hi : i + 1 < xs.length) : (pairsC xs)[i]? = some (xs[i], xs[i + 1]) := by
  unfold pairsC
  rw [List.getElem?_eq_getElem (by simp; omega)]
  simp
theorem pairs_C_any (p : Option Addr) (m c : Nat) (w : World) :
    Calls Try.prog 67 #[.slice p m c] w fun e w' => e = .returned (.func (.func 91) #[] #[.pointer (some ⟨w.heap.size, 0, none⟩)]) ∧ w' = w.alloc (.cells #[.slice p m c] 22) := by
  go_enter Try.func67, Try.ntmps67
  go_wp2
  go_ret
  exact ⟨rfl, rfl⟩
set_option maxRecDepth 100000 in
set_option maxHeartbeats 4000000 in
theorem pairs_C_iter (n : Nat) (xs : List Co) (p : Option Addr) (c : Nat) (w0 w : World) (Bl : Nat) (U : Nat → Prop) (h0 : Ext w0 w) (hs : SlC w0 p xs) (hl : xs.length ≤ 1000) (hc : w.cell? ⟨Bl, 0, none⟩ = some (.slice p xs.length c)) (lb : Lt Bl w) (hU : ∀ k, U k → w0.heap.size ≤ k ∧ k ≠ Bl) :
    Iter Fence.wide n Try.prog 91 #[.pointer (some ⟨Bl, 0, none⟩)] (fun x : Co × Co => #[.agg #[.int .u32 x.1.t.a, .int .u32 x.1.t.b, .int .u16 x.1.t.c, .int .u16 x.1.t.d, .int .i64 x.1.s, .int .i64 x.1.l], .agg #[.int .u32 x.2.t.a, .int .u32 x.2.t.b, .int .u16 x.2.t.c, .int .u16 x.2.t.d, .int .i64 x.2.s, .int .i64 x.2.l]]) (fun _ => False) U (pairsC xs) w := by
  intro y J Jx W hW hJ hJx hY hJ0
  have HJ := Lib.hid hJ
  have HJx := Lib.hid hJx
  have HU := Lib.hid hU
  clear hJ hJx hU
  obtain ⟨yfn, ytm, yas, ybo, hY⟩ := hY
  have HY := Lib.hid hY
  clear hY
  have hcW : W.cell? ⟨Bl, 0, none⟩ = some (.slice p xs.length c) := (hW.cell (p := ⟨Bl, 0, none⟩) lb).trans hc
  have lbW : Lt Bl W := Nat.lt_of_lt_of_le lb hW.size
  have h0W := h0.tr hW
  refine callsIn_of_wp Try.func91 rfl trivial ?_ rfl
  simp only [Try.ntmps91, List.size_toArray, List.length_cons, List.length_nil, Nat.reduceAdd, Nat.reduceSub, Array.replicate_succ, Array.replicate_zero, List.push_toArray, List.append_toArray, List.nil_append, List.cons_append]
  refine wpIn_wide.2 ?_
  go_wp2
  go_loopw [3] (fun a wr => ∃ i : Nat, (i = 0 ∨ i < xs.length) ∧ a = .int .i64 ((i : Int) + 1) ∧ J i wr ∧ wr.cell? ⟨Bl, 0, none⟩ = some (.slice p xs.length c) ∧ Lt Bl wr ∧ Ext w0 wr) (fun a _ => xs.length + 1 - (intOf a).toNat)
  case atStart => exact ⟨0, .inl rfl, rfl, hJ0, hcW, lbW, h0W⟩
  case round =>
    clear hcW lbW h0W hJ0
    obtain ⟨i, hi, rfl, hJi, hcw, lbw, hE⟩ := hrel
    by_cases hlt : i + 1 < xs.length
    · have hg : decide ((i : Int) + 1 < xs.length) = true := decide_eq_true (by omega)
      have hi1 : 0 ≤ (i : Int) + 1 - 1 ∧ (i : Int) + 1 - 1 < xs.length := by omega
      have HJI := Lib.hid hJi
      clear hJi
      have HXS := Lib.hid (pairsC_get xs i hlt)
      obtain ⟨b, off, rfl, hb, c0, c1, c2, c3, c4, c5⟩ := (hs.ext hE) i (by omega)
      obtain ⟨b', off', hpe, -, d0, d1, d2, d3, d4, d5⟩ := (hs.ext hE) (i + 1) hlt
      cases hpe
      have lbb : Lt b wr := hb
      obtain ⟨x, hx⟩ : ∃ x, xs[i] = x := ⟨_, rfl⟩
      obtain ⟨z, hz⟩ : ∃ z, xs[i + 1] = z := ⟨_, rfl⟩
      rw [hx] at c0 c1 c2 c3 c4 c5
      rw [hz] at d0 d1 d2 d3 d4 d5
      have hw8 : IntKind.i64.wrap ((i : Int) + 1 - 1) = i := by
        have a1 : ((i : Int) + 1 - 1) = i := by omega
        rw [a1]
        simp only [IntKind.wrap, IntKind.bits, IntKind.signed]
        simp
        omega
      go_wp2_with (fail)
      refine (wpIn_wide (n := n)).1 ?_
      refine wp_region_R 15 (by kernel_rfl) ?_
      obtain ⟨W1, hW1⟩ : ∃ W1, wr.drew = W1 := ⟨_, rfl⟩
      have g1 : Ext wr W1 := by rw [← hW1]; exact Ext.dr (Ext.rf _)
      rw [hW1]
      clear hW1
      have hJ1 : J i W1 := HJ.out _ _ _ HJI.out (Mv.of_ext g1)
      have hcw1 : W1.cell? ⟨Bl, 0, none⟩ = some (.slice (some ⟨b, off, none⟩) xs.length c) := (g1.cell (p := ⟨Bl, 0, none⟩) lbw).trans hcw
      have lbw1 : Lt Bl W1 := Nat.lt_of_lt_of_le lbw g1.size
      have lb1 : Lt b W1 := Nat.lt_of_lt_of_le lbb g1.size
      have hE1 := hE.tr g1
      have c0 := (g1.cell (p := ⟨b, _, none⟩) lbb).trans c0
      have d0 := (g1.cell (p := ⟨b, _, none⟩) lbb).trans d0
      have c1 := (g1.cell (p := ⟨b, _, none⟩) lbb).trans c1
      have d1 := (g1.cell (p := ⟨b, _, none⟩) lbb).trans d1
      have c2 := (g1.cell (p := ⟨b, _, none⟩) lbb).trans c2
      have d2 := (g1.cell (p := ⟨b, _, none⟩) lbb).trans d2
      have c3 := (g1.cell (p := ⟨b, _, none⟩) lbb).trans c3
      have d3 := (g1.cell (p := ⟨b, _, none⟩) lbb).trans d3
      have c4 := (g1.cell (p := ⟨b, _, none⟩) lbb).trans c4
      have d4 := (g1.cell (p := ⟨b, _, none⟩) lbb).trans d4
      have c5 := (g1.cell (p := ⟨b, _, none⟩) lbb).trans c5
      have d5 := (g1.cell (p := ⟨b, _, none⟩) lbb).trans d5
      refine withR (N := 17) (R := SchPC) (E := ((Try.f91.body.bind (findR 1)).getD #[])) (by kernel_rfl) schPC (by kernel_rfl) fun hS => ?_
      refine takeR (N := 17) (k := 0) (l := [3, 4, 15]) (v := .int .i64 ((i : Int) + 1)) hS.1 (hS.2.1 0 (by decide)) (hS.2.2.1 0 (by decide)) (hS.2.2.2.1 0 [3, 4, 15] (by decide)) rfl (by decide) rfl (by kernel_rfl) (fun _ _ => by kernel_rfl) ?_
      refine takeR (N := 17) (k := 1) (l := [2, 3, 4, 15]) (v := .slice (some ⟨b, off, none⟩) xs.length c) hS.1 (hS.2.1 1 (by decide)) (hS.2.2.1 1 (by decide)) (hS.2.2.2.1 1 [2, 3, 4, 15] (by decide)) rfl (by decide) rfl (by kernel_rfl) (load_slC_X hcw1 lbw1 _ _ _ _ _ _ _ (by kernel_rfl)) ?_
      refine takeR (N := 17) (k := 2) (l := [3, 4, 15]) (v := .int .i64 xs.length) hS.1 (hS.2.1 2 (by decide)) (hS.2.2.1 2 (by decide)) (hS.2.2.2.1 2 [3, 4, 15] (by decide)) rfl (by decide) rfl (by kernel_rfl) (fun _ _ => by kernel_rfl) ?_
      refine takeR (N := 17) (k := 3) (l := [4, 15]) (v := .bool (decide ((i : Int) + 1 < xs.length))) hS.1 (hS.2.1 3 (by decide)) (hS.2.2.1 3 (by decide)) (hS.2.2.2.1 3 [4, 15] (by decide)) rfl (by decide) rfl (by kernel_rfl) (fun _ _ => by kernel_rfl) ?_
      rw [hg]
      refine takeR (N := 17) (k := 4) (l := [15]) (v := .bool true) hS.1 (hS.2.1 4 (by decide)) (hS.2.2.1 4 (by decide)) (hS.2.2.2.1 4 [15] (by decide)) rfl (by decide) rfl (by kernel_rfl) (fun _ _ => by kernel_rfl) ?_
      refine takeR (N := 17) (k := 5) (l := [15]) (v := .func (.yield y) #[] #[]) hS.1 (hS.2.1 5 (by decide)) (hS.2.2.1 5 (by decide)) (hS.2.2.2.1 5 [15] (by decide)) rfl (by decide) rfl (by kernel_rfl) (fun _ _ => by kernel_rfl) ?_
      refine takeR (N := 17) (k := 6) (l := [9, 10, 15]) (v := .slice (some ⟨b, off, none⟩) xs.length c) hS.1 (hS.2.1 6 (by decide)) (hS.2.2.1 6 (by decide)) (hS.2.2.2.1 6 [9, 10, 15] (by decide)) rfl (by decide) rfl (by kernel_rfl) (load_slC_X hcw1 lbw1 _ _ _ _ _ _ _ (by kernel_rfl)) ?_
      refine takeR (N := 17) (k := 7) (l := [8, 9, 10, 15]) (v := .int .i64 ((i : Int) + 1)) hS.1 (hS.2.1 7 (by decide)) (hS.2.2.1 7 (by decide)) (hS.2.2.2.1 7 [8, 9, 10, 15] (by decide)) rfl (by decide) rfl (by kernel_rfl) (fun _ _ => by kernel_rfl) ?_
      refine takeR (N := 17) (k := 8) (l := [9, 10, 15]) (v := .int .i64 (IntKind.i64.wrap ((i : Int) + 1 - 1))) hS.1 (hS.2.1 8 (by decide)) (hS.2.2.1 8 (by decide)) (hS.2.2.2.1 8 [9, 10, 15] (by decide)) rfl (by decide) rfl (by kernel_rfl) (fun _ _ => by kernel_rfl) ?_
      rw [hw8]
      refine takeR (N := 17) (k := 9) (l := [10, 15]) (v := .pointer (some ⟨b, off + i * 6, none⟩)) hS.1 (hS.2.1 9 (by decide)) (hS.2.2.1 9 (by decide)) (hS.2.2.2.1 9 [10, 15] (by decide)) rfl (by decide) rfl (by kernel_rfl) (index_C_X (i := i) (m := xs.length) (c := c) (by omega) _ _ _ _ _ _ _ _ (by kernel_rfl) (by kernel_rfl)) ?_
      refine takeR (N := 17) (k := 10) (l := [15]) (v := .agg #[.int .u32 x.t.a, .int .u32 x.t.b, .int .u16 x.t.c, .int .u16 x.t.d, .int .i64 x.s, .int .i64 x.l]) hS.1 (hS.2.1 10 (by decide)) (hS.2.2.1 10 (by decide)) (hS.2.2.2.1 10 [15] (by decide)) rfl (by decide) rfl (by kernel_rfl) (load_C_X c0 c1 c2 c3 c4 c5 lb1 _ _ _ _ _ _ _ (by kernel_rfl)) ?_
      refine takeR (N := 17) (k := 11) (l := [13, 14, 15]) (v := .slice (some ⟨b, off, none⟩) xs.length c) hS.1 (hS.2.1 11 (by decide)) (hS.2.2.1 11 (by decide)) (hS.2.2.2.1 11 [13, 14, 15] (by decide)) rfl (by decide) rfl (by kernel_rfl) (load_slC_X hcw1 lbw1 _ _ _ _ _ _ _ (by kernel_rfl)) ?_
      refine takeR (N := 17) (k := 12) (l := [13, 14, 15]) (v := .int .i64 ((i : Int) + 1)) hS.1 (hS.2.1 12 (by decide)) (hS.2.2.1 12 (by decide)) (hS.2.2.2.1 12 [13, 14, 15] (by decide)) rfl (by decide) rfl (by kernel_rfl) (fun _ _ => by kernel_rfl) ?_
      refine takeR (N := 17) (k := 13) (l := [14, 15]) (v := .pointer (some ⟨b, off + (i + 1) * 6, none⟩)) hS.1 (hS.2.1 13 (by decide)) (hS.2.2.1 13 (by decide)) (hS.2.2.2.1 13 [14, 15] (by decide)) rfl (by decide) rfl (by kernel_rfl) (index_C_X (i := i + 1) (m := xs.length) (c := c) (by omega) _ _ _ _ _ _ _ _ (by kernel_rfl) (by kernel_rfl)) ?_
      refine takeR (N := 17) (k := 14) (l := [15]) (v := .agg #[.int .u32 z.t.a, .int .u32 z.t.b, .int .u16 z.t.c, .int .u16 z.t.d, .int .i64 z.s, .int .i64 z.l]) hS.1 (hS.2.1 14 (by decide)) (hS.2.2.1 14 (by decide)) (hS.2.2.2.1 14 [15] (by decide)) rfl (by decide) rfl (by kernel_rfl) (load_C_X d0 d1 d2 d3 d4 d5 lb1 _ _ _ _ _ _ _ (by kernel_rfl)) ?_
      have hrun : (Instr.yield y #[.agg #[.int .u32 x.t.a, .int .u32 x.t.b, .int .u16 x.t.c, .int .u16 x.t.d, .int .i64 x.s, .int .i64 x.l], .agg #[.int .u32 z.t.a, .int .u32 z.t.b, .int .u16 z.t.c, .int .u16 z.t.d, .int .i64 z.s, .int .i64 z.l]]).run Try.prog W1 = .ok (.round y yfn (ytm #[.agg #[.int .u32 x.t.a, .int .u32 x.t.b, .int .u16 x.t.c, .int .u16 x.t.d, .int .i64 x.s, .int .i64 x.l], .agg #[.int .u32 z.t.a, .int .u32 z.t.b, .int .u16 z.t.c, .int .u16 z.t.d, .int .i64 z.s, .int .i64 z.l]]) yas ybo) W1 := by
        have := (HY.out i (x, z) W1 hJ1 (by rw [HXS.out, hx, hz])).1
        exact this
      have HRD := Lib.hid (HY.out i (x, z) W1 hJ1 (by rw [HXS.out, hx, hz])).2
      refine roundR (N := 17) hS.2.2.2.2.1 rfl (by kernel_rfl) (yield_C_X hrun _ _ _ _ _ _ _ _ _ _ (by kernel_rfl) (by kernel_rfl) (by kernel_rfl)) HRD.out ?_
      rintro e w6 ⟨bb, rfl, hP⟩
      refine ⟨_, rfl, ?_⟩
      refine valueR (N := 17) (k := 16) (v := .bool bb) hS.2.2.2.2.2.1 rfl (by kernel_rfl) (by kernel_rfl) ?_
      refine doneR hS.2.2.2.2.2.2 ?_
      clear hS HRD hrun
      go_simp
      obtain ⟨rfl, hJ6, hm6⟩ | ⟨rfl, hx6⟩ := hP
      · have hcw6 : w6.cell? ⟨Bl, 0, none⟩ = some (.slice (some ⟨b, off, none⟩) xs.length c) := by
          rw [cell_rowD, rowD_same (hm6.same Bl lbw1 (fun h => by rcases h with h | h; exact (HU.out _ h).2 rfl; unfold Lt at lb; omega)), ← cell_rowD]; exact hcw1
        have lbw6 : Lt Bl w6 := Nat.lt_of_lt_of_le lbw1 hm6.size
        have hE6 : Ext w0 w6 := Mv.ext_of hE1 hm6 (fun k h => by rcases h with h | h; exact (HU.out _ h).1; exact Nat.le_trans h0.size h)
        clear hm6
        go_wp2
        have hcast : (i : Int) + 1 + 1 = ((i + 1 : Nat) : Int) + 1 := by omega
        exact ⟨⟨i + 1, .inr hlt, by rw [hcast], hJ6, hcw6, lbw6, hE6⟩, by simp [intOf]; omega⟩
      · go_wp2
        go_end0
        exact ⟨⟨_, rfl⟩, .inr hx6⟩
    · have hg : decide ((i : Int) + 1 < xs.length) = false := decide_eq_false (by omega)
      have hln : (pairsC xs).length = i := by rw [pairsC_len]; omega
      have HLN := Lib.hid hln
      clear hln
      go_wp2_with (fail)
      refine wp_region_later (by kernel_rfl) (by kernel_rfl) ?_; (repeat (go_big_quiet_step (fail))); refine wpQuiet_nil ?_; intro d
      have hd := later_ext d
      generalize later d = w6 at *
      go_wp2
      go_end0
      exact ⟨⟨_, rfl⟩, .inl (by rw [HLN.out]; exact HJ.out _ _ _ hJi (Mv.of_ext hd))⟩

def SchPH (ops : Array Oper) : Prop := Region.noSelect ops = true ∧ (∀ k, k < 15 → okX ops 17 k = true) ∧ (∀ k, k < 15 → closedB .any ops (lst 17 k) = true) ∧ (∀ k l, (k, l) ∈ pathsX → waitsB .any ops (k :: l) = true) ∧ Region.ready .any ops (lst 17 15) = [15] ∧ Region.ready .any ops (lst 17 16) = [16] ∧ Region.ready .any ops (lst 17 17) = []
theorem schPH : SchPH ((Try.f108.body.bind (findR 1)).getD #[]) := by
  have h1 : ((List.range 15).all fun k => okX ((Try.f108.body.bind (findR 1)).getD #[]) 17 k) = true := by kernel_rfl
  have h2 : ((List.range 15).all fun k => closedB .any ((Try.f108.body.bind (findR 1)).getD #[]) (lst 17 k)) = true := by kernel_rfl
  have h3 : (pathsX.all fun kl => waitsB .any ((Try.f108.body.bind (findR 1)).getD #[]) (kl.1 :: kl.2)) = true := by kernel_rfl
  exact ⟨by kernel_rfl, fun k hk => List.all_eq_true.1 h1 k (List.mem_range.2 hk), fun k hk => List.all_eq_true.1 h2 k (List.mem_range.2 hk), fun k l h => List.all_eq_true.1 h3 (k, l) h, by kernel_rfl, by kernel_rfl, by kernel_rfl⟩
theorem load_slH_X {w : World} {B O : Nat} {a : Option Addr} {m c : Nat} (h0 : w.cell? ⟨B, O, none⟩ = some (.slice a m c)) (hl : Lt B w) (ρ : Operand → Value) (dst : Option Tmp) (x : Operand) (ty : TypeId) (pos : String) (after : Array Edge) (g : Option (Nat × Bool))
    (hx : ρ x = .pointer (some ⟨B, O, none⟩)) : ∀ w', Ext w w' → (execOp ρ ⟨dst, .load 50 x, ty, pos, after, g⟩).run Try.prog w' = .ok (.value (.slice a m c)) w' := by
  intro w' hE
  have h0 := (hE.cell (p := ⟨B, _, none⟩) hl).trans h0
  simp only [execOp, hx]
  go_simp
theorem index_H_X {w : World} {B O i m c : Nat} (hi : i < m) (ρ : Operand → Value) (dst : Option Tmp) (x y : Operand) (ty : TypeId) (pos : String) (after : Array Edge) (g : Option (Nat × Bool))
    (hx : ρ x = .slice (some ⟨B, O, none⟩) m c) (hy : ρ y = .int .i64 (i : Nat)) : ∀ w', Ext w w' → (execOp ρ ⟨dst, .indexAddr 50 x y, ty, pos, after, g⟩).run Try.prog w' = .ok (.value (.pointer (some ⟨B, O + i * 5, none⟩))) w' := by
  intro w' hE
  have hi' : (i : Int) < m := by omega
  simp only [execOp, hx, hy]
  go_simp
theorem load_H_X {w : World} {B O i : Nat} {x : Ho} (h0 : w.cell? ⟨B, O + i * 5, none⟩ = some (.int .u32 x.t.a)) (h1 : w.cell? ⟨B, O + i * 5 + 1, none⟩ = some (.int .u32 x.t.b)) (h2 : w.cell? ⟨B, O + i * 5 + 2, none⟩ = some (.int .u16 x.t.c)) (h3 : w.cell? ⟨B, O + i * 5 + 3, none⟩ = some (.int .u16 x.t.d)) (h4 : w.cell? ⟨B, O + i * 5 + 4, none⟩ = some (.int .i64 x.n)) (hl : Lt B w) (ρ : Operand → Value) (dst : Option Tmp) (q : Operand) (ty : TypeId) (pos : String) (after : Array Edge) (g : Option (Nat × Bool))
    (hx : ρ q = .pointer (some ⟨B, O + i * 5, none⟩)) : ∀ w', Ext w w' → (execOp ρ ⟨dst, .load 70 q, ty, pos, after, g⟩).run Try.prog w' = .ok (.value (.agg #[.int .u32 x.t.a, .int .u32 x.t.b, .int .u16 x.t.c, .int .u16 x.t.d, .int .i64 x.n])) w' := by
  intro w' hE
  have h0 := (hE.cell (p := ⟨B, _, none⟩) hl).trans h0
  have h1 := (hE.cell (p := ⟨B, _, none⟩) hl).trans h1
  have h2 := (hE.cell (p := ⟨B, _, none⟩) hl).trans h2
  have h3 := (hE.cell (p := ⟨B, _, none⟩) hl).trans h3
  have h4 := (hE.cell (p := ⟨B, _, none⟩) hl).trans h4
  simp only [execOp, hx]
  go_simp
theorem yield_H_X {w : World} {y : Nat} {v1 v2 : Value} {R : Result Next} (h : (Instr.yield y #[v1, v2]).run Try.prog w = R) (ρ : Operand → Value) (dst : Option Tmp) (x q1 q2 : Operand) (tys : Array TypeId) (ty : TypeId) (pos : String) (after : Array Edge) (g : Option (Nat × Bool))
    (hx : ρ x = .func (.yield y) #[] #[]) (h1 : ρ q1 = v1) (h2 : ρ q2 = v2) : (execOp ρ ⟨dst, .call { callee := .value x, args := #[q1, q2], argTypes := tys }, ty, pos, after, g⟩).run Try.prog w = R := by
  rw [← h]
  subst h1 h2
  simp only [execOp, hx]
  go_simp
def pairsH (xs : List Ho) : List (Ho × Ho) := xs.zip xs.tail
theorem pairsH_len (xs : List Ho) : (pairsH xs).length = xs.length - 1 := by simp [pairsH]
theorem pairsH_get (xs : List Ho) (i : Nat) (hi : i + 1 < xs.length) : (pairsH xs)[i]? = some (xs[i], xs[i + 1]) := by
  unfold pairsH
  rw [List.getElem?_eq_getElem (by simp; omega)]
  simp
theorem pairs_H_any (p : Option Addr) (m c : Nat) (w : World) :
    Calls Try.prog 81 #[.slice p m c] w fun e w' => e = .returned (.func (.func 108) #[] #[.pointer (some ⟨w.heap.size, 0, none⟩)]) ∧ w' = w.alloc (.cells #[.slice p m c] 50) := by
  go_enter Try.func81, Try.ntmps81
  go_wp2
  go_ret
  exact ⟨rfl, rfl⟩
set_option maxRecDepth 100000 in
set_option maxHeartbeats 4000000 in
theorem pairs_H_iter (n : Nat) (xs : List Ho) (p : Option Addr) (c : Nat) (w0 w : World) (Bl : Nat) (U : Nat → Prop) (h0 : Ext w0 w) (hs : SlH w0 p xs) (hl : xs.length ≤ 1000) (hc : w.cell? ⟨Bl, 0, none⟩ = some (.slice p xs.length c)) (lb : Lt Bl w) (hU : ∀ k, U k → w0.heap.size ≤ k ∧ k ≠ Bl) :
    Iter Fence.wide n Try.prog 108 #[.pointer (some ⟨Bl, 0, none⟩)] (fun x : Ho × Ho => #[.agg #[.int .u32 x.1.t.a, .int .u32 x.1.t.b, .int .u16 x.1.t.c, .int .u16 x.1.t.d, .int .i64 x.1.n], .agg #[.int .u32 x.2.t.a, .int .u32 x.2.t.b, .int .u16 x.2.t.c, .int .u16 x.2.t.d, .int .i64 x.2.n]]) (fun _ => False) U (pairsH xs) w := by
  intro y J Jx W hW hJ hJx hY hJ0
  have HJ := Lib.hid hJ
  have HJx := Lib.hid hJx
  have HU := Lib.hid hU
  clear hJ hJx hU
  obtain ⟨yfn, ytm, yas, ybo, hY⟩ := hY
  have HY := Lib.hid hY
  clear hY
  have hcW : W.cell? ⟨Bl, 0, none⟩ = some (.slice p xs.length c) := (hW.cell (p := ⟨Bl, 0, none⟩) lb).trans hc
  have lbW : Lt Bl W := Nat.lt_of_lt_of_le lb hW.size
  have h0W := h0.tr hW
  refine callsIn_of_wp Try.func108 rfl trivial ?_ rfl
  simp only [Try.ntmps108, List.size_toArray, List.length_cons, List.length_nil, Nat.reduceAdd, Nat.reduceSub, Array.replicate_succ, Array.replicate_zero, List.push_toArray, List.append_toArray, List.nil_append, List.cons_append]
  refine wpIn_wide.2 ?_
  go_wp2
  go_loopw [3] (fun a wr => ∃ i : Nat, (i = 0 ∨ i < xs.length) ∧ a = .int .i64 ((i : Int) + 1) ∧ J i wr ∧ wr.cell? ⟨Bl, 0, none⟩ = some (.slice p xs.length c) ∧ Lt Bl wr ∧ Ext w0 wr) (fun a _ => xs.length + 1 - (intOf a).toNat)
  case atStart => exact ⟨0, .inl rfl, rfl, hJ0, hcW, lbW, h0W⟩
  case round =>
    clear hcW lbW h0W hJ0
    obtain ⟨i, hi, rfl, hJi, hcw, lbw, hE⟩ := hrel
    by_cases hlt : i + 1 < xs.length
    · have hg : decide ((i : Int) + 1 < xs.length) = true := decide_eq_true (by omega)
      have hi1 : 0 ≤ (i : Int) + 1 - 1 ∧ (i : Int) + 1 - 1 < xs.length := by omega
      have HJI := Lib.hid hJi
      clear hJi
      have HXS := Lib.hid (pairsH_get xs i hlt)
      obtain ⟨b, off, rfl, hb, c0, c1, c2, c3, c4⟩ := (hs.ext hE) i (by omega)
      obtain ⟨b', off', hpe, -, d0, d1, d2, d3, d4⟩ := (hs.ext hE) (i + 1) hlt
      cases hpe
      have lbb : Lt b wr := hb
      obtain ⟨x, hx⟩ : ∃ x, xs[i] = x := ⟨_, rfl⟩
      obtain ⟨z, hz⟩ : ∃ z, xs[i + 1] = z := ⟨_, rfl⟩
      rw [hx] at c0 c1 c2 c3 c4
      rw [hz] at d0 d1 d2 d3 d4
      have hw8 : IntKind.i64.wrap ((i : Int) + 1 - 1) = i := by
        have a1 : ((i : Int) + 1 - 1) = i := by omega
        rw [a1]
        simp only [IntKind.wrap, IntKind.bits, IntKind.signed]
        simp
        omega
      go_wp2_with (fail)
      refine (wpIn_wide (n := n)).1 ?_
      refine wp_region_R 15 (by kernel_rfl) ?_
      obtain ⟨W1, hW1⟩ : ∃ W1, wr.drew = W1 := ⟨_, rfl⟩
      have g1 : Ext wr W1 := by rw [← hW1]; exact Ext.dr (Ext.rf _)
      rw [hW1]
      clear hW1
      have hJ1 : J i W1 := HJ.out _ _ _ HJI.out (Mv.of_ext g1)
      have hcw1 : W1.cell? ⟨Bl, 0, none⟩ = some (.slice (some ⟨b, off, none⟩) xs.length c) := (g1.cell (p := ⟨Bl, 0, none⟩) lbw).trans hcw
      have lbw1 : Lt Bl W1 := Nat.lt_of_lt_of_le lbw g1.size
      have lb1 : Lt b W1 := Nat.lt_of_lt_of_le lbb g1.size
      have hE1 := hE.tr g1
      have c0 := (g1.cell (p := ⟨b, _, none⟩) lbb).trans c0
      have d0 := (g1.cell (p := ⟨b, _, none⟩) lbb).trans d0
      have c1 := (g1.cell (p := ⟨b, _, none⟩) lbb).trans c1
      have d1 := (g1.cell (p := ⟨b, _, none⟩) lbb).trans d1
      have c2 := (g1.cell (p := ⟨b, _, none⟩) lbb).trans c2
      have d2 := (g1.cell (p := ⟨b, _, none⟩) lbb).trans d2
      have c3 := (g1.cell (p := ⟨b, _, none⟩) lbb).trans c3
      have d3 := (g1.cell (p := ⟨b, _, none⟩) lbb).trans d3
      have c4 := (g1.cell (p := ⟨b, _, none⟩) lbb).trans c4
      have d4 := (g1.cell (p := ⟨b, _, none⟩) lbb).trans d4
      refine withR (N := 17) (R := SchPH) (E := ((Try.f108.body.bind (findR 1)).getD #[])) (by kernel_rfl) schPH (by kernel_rfl) fun hS => ?_
      refine takeR (N := 17) (k := 0) (l := [3, 4, 15]) (v := .int .i64 ((i : Int) + 1)) hS.1 (hS.2.1 0 (by decide)) (hS.2.2.1 0 (by decide)) (hS.2.2.2.1 0 [3, 4, 15] (by decide)) rfl (by decide) rfl (by kernel_rfl) (fun _ _ => by kernel_rfl) ?_
      refine takeR (N := 17) (k := 1) (l := [2, 3, 4, 15]) (v := .slice (some ⟨b, off, none⟩) xs.length c) hS.1 (hS.2.1 1 (by decide)) (hS.2.2.1 1 (by decide)) (hS.2.2.2.1 1 [2, 3, 4, 15] (by decide)) rfl (by decide) rfl (by kernel_rfl) (load_slH_X hcw1 lbw1 _ _ _ _ _ _ _ (by kernel_rfl)) ?_
      refine takeR (N := 17) (k := 2) (l := [3, 4, 15]) (v := .int .i64 xs.length) hS.1 (hS.2.1 2 (by decide)) (hS.2.2.1 2 (by decide)) (hS.2.2.2.1 2 [3, 4, 15] (by decide)) rfl (by decide) rfl (by kernel_rfl) (fun _ _ => by kernel_rfl) ?_
      refine takeR (N := 17) (k := 3) (l := [4, 15]) (v := .bool (decide ((i : Int) + 1 < xs.length))) hS.1 (hS.2.1 3 (by decide)) (hS.2.2.1 3 (by decide)) (hS.2.2.2.1 3 [4, 15] (by decide)) rfl (by decide) rfl (by kernel_rfl) (fun _ _ => by kernel_rfl) ?_
      rw [hg]
      refine takeR (N := 17) (k := 4) (l := [15]) (v := .bool true) hS.1 (hS.2.1 4 (by decide)) (hS.2.2.1 4 (by decide)) (hS.2.2.2.1 4 [15] (by decide)) rfl (by decide) rfl (by kernel_rfl) (fun _ _ => by kernel_rfl) ?_
      refine takeR (N := 17) (k := 5) (l := [15]) (v := .func (.yield y) #[] #[]) hS.1 (hS.2.1 5 (by decide)) (hS.2.2.1 5 (by decide)) (hS.2.2.2.1 5 [15] (by decide)) rfl (by decide) rfl (by kernel_rfl) (fun _ _ => by kernel_rfl) ?_
      refine takeR (N := 17) (k := 6) (l := [9, 10, 15]) (v := .slice (some ⟨b, off, none⟩) xs.length c) hS.1 (hS.2.1 6 (by decide)) (hS.2.2.1 6 (by decide)) (hS.2.2.2.1 6 [9, 10, 15] (by decide)) rfl (by decide) rfl (by kernel_rfl) (load_slH_X hcw1 lbw1 _ _ _ _ _ _ _ (by kernel_rfl)) ?_
      refine takeR (N := 17) (k := 7) (l := [8, 9, 10, 15]) (v := .int .i64 ((i : Int) + 1)) hS.1 (hS.2.1 7 (by decide)) (hS.2.2.1 7 (by decide)) (hS.2.2.2.1 7 [8, 9, 10, 15] (by decide)) rfl (by decide) rfl (by kernel_rfl) (fun _ _ => by kernel_rfl) ?_
      refine takeR (N := 17) (k := 8) (l := [9, 10, 15]) (v := .int .i64 (IntKind.i64.wrap ((i : Int) + 1 - 1))) hS.1 (hS.2.1 8 (by decide)) (hS.2.2.1 8 (by decide)) (hS.2.2.2.1 8 [9, 10, 15] (by decide)) rfl (by decide) rfl (by kernel_rfl) (fun _ _ => by kernel_rfl) ?_
      rw [hw8]
      refine takeR (N := 17) (k := 9) (l := [10, 15]) (v := .pointer (some ⟨b, off + i * 5, none⟩)) hS.1 (hS.2.1 9 (by decide)) (hS.2.2.1 9 (by decide)) (hS.2.2.2.1 9 [10, 15] (by decide)) rfl (by decide) rfl (by kernel_rfl) (index_H_X (i := i) (m := xs.length) (c := c) (by omega) _ _ _ _ _ _ _ _ (by kernel_rfl) (by kernel_rfl)) ?_
      refine takeR (N := 17) (k := 10) (l := [15]) (v := .agg #[.int .u32 x.t.a, .int .u32 x.t.b, .int .u16 x.t.c, .int .u16 x.t.d, .int .i64 x.n]) hS.1 (hS.2.1 10 (by decide)) (hS.2.2.1 10 (by decide)) (hS.2.2.2.1 10 [15] (by decide)) rfl (by decide) rfl (by kernel_rfl) (load_H_X c0 c1 c2 c3 c4 lb1 _ _ _ _ _ _ _ (by kernel_rfl)) ?_
      refine takeR (N := 17) (k := 11) (l := [13, 14, 15]) (v := .slice (some ⟨b, off, none⟩) xs.length c) hS.1 (hS.2.1 11 (by decide)) (hS.2.2.1 11 (by decide)) (hS.2.2.2.1 11 [13, 14, 15] (by decide)) rfl (by decide) rfl (by kernel_rfl) (load_slH_X hcw1 lbw1 _ _ _ _ _ _ _ (by kernel_rfl)) ?_
      refine takeR (N := 17) (k := 12) (l := [13, 14, 15]) (v := .int .i64 ((i : Int) + 1)) hS.1 (hS.2.1 12 (by decide)) (hS.2.2.1 12 (by decide)) (hS.2.2.2.1 12 [13, 14, 15] (by decide)) rfl (by decide) rfl (by kernel_rfl) (fun _ _ => by kernel_rfl) ?_
      refine takeR (N := 17) (k := 13) (l := [14, 15]) (v := .pointer (some ⟨b, off + (i + 1) * 5, none⟩)) hS.1 (hS.2.1 13 (by decide)) (hS.2.2.1 13 (by decide)) (hS.2.2.2.1 13 [14, 15] (by decide)) rfl (by decide) rfl (by kernel_rfl) (index_H_X (i := i + 1) (m := xs.length) (c := c) (by omega) _ _ _ _ _ _ _ _ (by kernel_rfl) (by kernel_rfl)) ?_
      refine takeR (N := 17) (k := 14) (l := [15]) (v := .agg #[.int .u32 z.t.a, .int .u32 z.t.b, .int .u16 z.t.c, .int .u16 z.t.d, .int .i64 z.n]) hS.1 (hS.2.1 14 (by decide)) (hS.2.2.1 14 (by decide)) (hS.2.2.2.1 14 [15] (by decide)) rfl (by decide) rfl (by kernel_rfl) (load_H_X d0 d1 d2 d3 d4 lb1 _ _ _ _ _ _ _ (by kernel_rfl)) ?_
      have hrun : (Instr.yield y #[.agg #[.int .u32 x.t.a, .int .u32 x.t.b, .int .u16 x.t.c, .int .u16 x.t.d, .int .i64 x.n], .agg #[.int .u32 z.t.a, .int .u32 z.t.b, .int .u16 z.t.c, .int .u16 z.t.d, .int .i64 z.n]]).run Try.prog W1 = .ok (.round y yfn (ytm #[.agg #[.int .u32 x.t.a, .int .u32 x.t.b, .int .u16 x.t.c, .int .u16 x.t.d, .int .i64 x.n], .agg #[.int .u32 z.t.a, .int .u32 z.t.b, .int .u16 z.t.c, .int .u16 z.t.d, .int .i64 z.n]]) yas ybo) W1 := by
        have := (HY.out i (x, z) W1 hJ1 (by rw [HXS.out, hx, hz])).1
        exact this
      have HRD := Lib.hid (HY.out i (x, z) W1 hJ1 (by rw [HXS.out, hx, hz])).2
      refine roundR (N := 17) hS.2.2.2.2.1 rfl (by kernel_rfl) (yield_H_X hrun _ _ _ _ _ _ _ _ _ _ (by kernel_rfl) (by kernel_rfl) (by kernel_rfl)) HRD.out ?_
      rintro e w6 ⟨bb, rfl, hP⟩
      refine ⟨_, rfl, ?_⟩
      refine valueR (N := 17) (k := 16) (v := .bool bb) hS.2.2.2.2.2.1 rfl (by kernel_rfl) (by kernel_rfl) ?_
      refine doneR hS.2.2.2.2.2.2 ?_
      clear hS HRD hrun
      go_simp
      obtain ⟨rfl, hJ6, hm6⟩ | ⟨rfl, hx6⟩ := hP
      · have hcw6 : w6.cell? ⟨Bl, 0, none⟩ = some (.slice (some ⟨b, off, none⟩) xs.length c) := by
          rw [cell_rowD, rowD_same (hm6.same Bl lbw1 (fun h => by rcases h with h | h; exact (HU.out _ h).2 rfl; unfold Lt at lb; omega)), ← cell_rowD]; exact hcw1
        have lbw6 : Lt Bl w6 := Nat.lt_of_lt_of_le lbw1 hm6.size
        have hE6 : Ext w0 w6 := Mv.ext_of hE1 hm6 (fun k h => by rcases h with h | h; exact (HU.out _ h).1; exact Nat.le_trans h0.size h)
        clear hm6
        go_wp2
        have hcast : (i : Int) + 1 + 1 = ((i + 1 : Nat) : Int) + 1 := by omega
        exact ⟨⟨i + 1, .inr hlt, by rw [hcast], hJ6, hcw6, lbw6, hE6⟩, by simp [intOf]; omega⟩
      · go_wp2
        go_end0
        exact ⟨⟨_, rfl⟩, .inr hx6⟩
    · have hg : decide ((i : Int) + 1 < xs.length) = false := decide_eq_false (by omega)
      have hln : (pairsH xs).length = i := by rw [pairsH_len]; omega
      have HLN := Lib.hid hln
      clear hln
      go_wp2_with (fail)
      refine wp_region_later (by kernel_rfl) (by kernel_rfl) ?_; (repeat (go_big_quiet_step (fail))); refine wpQuiet_nil ?_; intro d
      have hd := later_ext d
      generalize later d = w6 at *
      go_wp2
      go_end0
      exact ⟨⟨_, rfl⟩, .inl (by rw [HLN.out]; exact HJ.out _ _ _ hJi (Mv.of_ext hd))⟩

end Go.Proofs.Ytookffaojlkfaaa
