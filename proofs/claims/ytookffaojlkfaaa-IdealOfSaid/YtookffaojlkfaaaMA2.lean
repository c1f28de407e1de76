/- Lemmas of this claim, put together out of: C5, C6, C7, C8, C9, C10, C11, C12. -/
import Derived.Test.YtookffaojlkfaaaMA1
import Derived.Lib.SliceRun
import Derived.Deep.RegionLaw
set_option linter.unusedSimpArgs false
set_option linter.unusedVariables false
/- Pairs of neighbours. -/
namespace Go.Proofs.Ytookffaojlkfaaa
open Go.RowKit
def pathsX : List (Nat × List Nat) := [(0, [3, 4, 15]), (1, [2, 3, 4, 15]), (2, [3, 4, 15]), (3, [4, 15]), (4, [15]), (5, [15]), (6, [9, 10, 15]), (7, [8, 9, 10, 15]), (8, [9, 10, 15]), (9, [10, 15]), (10, [15]), (11, [13, 14, 15]), (12, [13, 14, 15]), (13, [14, 15]), (14, [15])]

def SchPC (ops : Array Oper) : Prop := Region.noSelect ops = true ∧ (∀ k, k < 15 → okX ops 17 k = true) ∧ (∀ k, k < 15 → closedB .any ops (lst 17 k) = true) ∧ (∀ k l, (k, l) ∈ pathsX → waitsB .any ops (k :: l) = true) ∧ Region.ready .any ops (lst 17 15) = [15] ∧ Region.ready .any ops (lst 17 16) = [16] ∧ Region.ready .any ops (lst 17 17) = []
theorem schPC : SchPC ((Try.f91.body.bind (findR 1)).getD #[]) := by
  have h1 : ((List.range 15).all fun k => okX ((Try.f91.body.bind (findR 1)).getD #[]) 17 k) = true := by kernel_rfl
  have h2 : ((List.range 15).all fun k => closedB .any ((Try.f91.body.bind (findR 1)).getD #[]) (lst 17 k)) = true := by kernel_rfl
  have h3 : (pathsX.all fun kl => waitsB .any ((Try.f91.body.bind (findR 1)).getD #[]) (kl.1 :: kl.2)) = true := by kernel_rfl
  exact ⟨by kernel_rfl, fun k hk => List.all_eq_true.1 h1 k (List.mem_range.2 hk), fun k hk => List.all_eq_true.1 h2 k (List.mem_range.2 hk), fun k l h => List.all_eq_true.1 h3 (k, l) h, by kernel_rfl, by kernel_rfl, by kernel_rfl⟩
theorem load_slC_X {w : World} {B O : Nat} {a : Option Addr} {m c : Nat} (h0 : w.cell? ⟨B, O, none⟩ = some (.slice a m c)) (hl : Lt B w) (ρ : Operand → Value) (dst : Option Tmp) (x : Operand) (ty : TypeId) (pos : String) (after : Array Edge) (g : Option (Nat × Bool))
    (hx : ρ x = .pointer (some ⟨B, O, none⟩)) : ∀ w', Ext w w' → (execOp ρ ⟨dst, .load 22 x, ty, pos, after, g⟩).run Try.prog w' = .ok (.value (.slice a m c)) w' := by
  intro w' hE
  have h0 := (hE.cell (p := ⟨B, _, none⟩) hl).trans h0
  simp only [execOp, hx]
  go_simp
theorem index_C_X {w : World} {B O i m c : Nat} (hi : i < m) (ρ : Operand → Value) (dst : Option Tmp) (x y : Operand) (ty : TypeId) (pos : String) (after : Array Edge) (g : Option (Nat × Bool))
    (hx : ρ x = .slice (some ⟨B, O, none⟩) m c) (hy : ρ y = .int .i64 (i : Nat)) : ∀ w', Ext w w' → (execOp ρ ⟨dst, .indexAddr 22 x y, ty, pos, after, g⟩).run Try.prog w' = .ok (.value (.pointer (some ⟨B, O + i * 6, none⟩))) w' := by
  intro w' hE
  have hi' : (i : Int) < m := by omega
  simp only [execOp, hx, hy]
  go_simp
theorem load_C_X {w : World} {B O i : Nat} {x : Co} (h0 : w.cell? ⟨B, O + i * 6, none⟩ = some (.int .u32 x.t.a)) (h1 : w.cell? ⟨B, O + i * 6 + 1, none⟩ = some (.int .u32 x.t.b)) (h2 : w.cell? ⟨B, O + i * 6 + 2, none⟩ = some (.int .u16 x.t.c)) (h3 : w.cell? ⟨B, O + i * 6 + 3, none⟩ = some (.int .u16 x.t.d)) (h4 : w.cell? ⟨B, O + i * 6 + 4, none⟩ = some (.int .i64 x.s)) (h5 : w.cell? ⟨B, O + i * 6 + 5, none⟩ = some (.int .i64 x.l)) (hl : Lt B w) (ρ : Operand → Value) (dst : Option Tmp) (q : Operand) (ty : TypeId) (pos : String) (after : Array Edge) (g : Option (Nat × Bool))
    (hx : ρ q = .pointer (some ⟨B, O + i * 6, none⟩)) : ∀ w', Ext w w' → (execOp ρ ⟨dst, .load 43 q, ty, pos, after, g⟩).run Try.prog w' = .ok (.value (.agg #[.int .u32 x.t.a, .int .u32 x.t.b, .int .u16 x.t.c, .int .u16 x.t.d, .int .i64 x.s, .int .i64 x.l])) w' := by
  intro w' hE
  have h0 := (hE.cell (p := ⟨B, _, none⟩) hl).trans h0
  have h1 := (hE.cell (p := ⟨B, _, none⟩) hl).trans h1
  have h2 := (hE.cell (p := ⟨B, _, none⟩) hl).trans h2
  have h3 := (hE.cell (p := ⟨B, _, none⟩) hl).trans h3
  have h4 := (hE.cell (p := ⟨B, _, none⟩) hl).trans h4
  have h5 := (hE.cell (p := ⟨B, _, none⟩) hl).trans h5
  simp only [execOp, hx]
  go_simp
theorem yield_C_X {w : World} {y : Nat} {v1 v2 : Value} {R : Result Next} (h : (Instr.yield y #[v1, v2]).run Try.prog w = R) (ρ : Operand → Value) (dst : Option Tmp) (x q1 q2 : Operand) (tys : Array TypeId) (ty : TypeId) (pos : String) (after : Array Edge) (g : Option (Nat × Bool))
    (hx : ρ x = .func (.yield y) #[] #[]) (h1 : ρ q1 = v1) (h2 : ρ q2 = v2) : (execOp ρ ⟨dst, .call { callee := .value x, args := #[q1, q2], argTypes := tys }, ty, pos, after, g⟩).run Try.prog w = R := by
  rw [← h]
  subst h1 h2
  simp only [execOp, hx]
  go_simp
def pairsC (xs : List Co) : List (Co × Co) := xs.zip xs.tail
theorem pairsC_len (xs : List Co) : (pairsC xs).length = xs.length - 1 := by simp [pairsC]
theorem pairsC_get (xs : List Co) (i : Nat) (hi : i + 1 < xs.length) : (pairsC xs)[i]? = some (xs[i], xs[i + 1]) := by
  unfold pairsC
  rw [List.getElem?_eq_getElem (by simp; omega)]
  simp
theorem pairs_C_any (p : Option Addr) (m c : Nat) (w : World) :
    Calls Try.prog 67 #[.slice p m c] w fun e w' => e = .returned (.func (.func 91) #[] #[.pointer (some ⟨w.heap.size, 0, none⟩)]) ∧ w' = w.alloc (.cells #[.slice p m c] 22) := by
  go_enter Try.func67, Try.ntmps67
  go_wp2
  go_ret
  exact ⟨rfl, rfl⟩
set_option maxRecDepth 100000 in
set_option maxHeartbeats 4000000 in
theorem pairs_C_iter (n : Nat) (xs : List Co) (p : Option Addr) (c : Nat) (w0 w : World) (Bl : Nat) (U : Nat → Prop) (h0 : Ext w0 w) (hs : SlC w0 p xs) (hl : xs.length ≤ 1000) (hc : w.cell? ⟨Bl, 0, none⟩ = some (.slice p xs.length c)) (lb : Lt Bl w) (hU : ∀ k, U k → w0.heap.size ≤ k ∧ k ≠ Bl) :
    Iter Fence.wide n Try.prog 91 #[.pointer (some ⟨Bl, 0, none⟩)] (fun x : Co × Co => #[.agg #[.int .u32 x.1.t.a, .int .u32 x.1.t.b, .int .u16 x.1.t.c, .int .u16 x.1.t.d, .int .i64 x.1.s, .int .i64 x.1.l], .agg #[.int .u32 x.2.t.a, .int .u32 x.2.t.b, .int .u16 x.2.t.c, .int .u16 x.2.t.d, .int .i64 x.2.s, .int .i64 x.2.l]]) (fun _ => False) U (pairsC xs) w := by
  intro y J Jx W hW hJ hJx hY hJ0
  have HJ := Lib.hid hJ
  have HJx := Lib.hid hJx
  have HU := Lib.hid hU
  clear hJ hJx hU
  obtain ⟨yfn, ytm, yas, ybo, hY⟩ := hY
  have HY := Lib.hid hY
  clear hY
  have hcW : W.cell? ⟨Bl, 0, none⟩ = some (.slice p xs.length c) := (hW.cell (p := ⟨Bl, 0, none⟩) lb).trans hc
  have lbW : Lt Bl W := Nat.lt_of_lt_of_le lb hW.size
  have h0W := h0.tr hW
  refine callsIn_of_wp Try.func91 rfl trivial ?_ rfl
  simp only [Try.ntmps91, List.size_toArray, List.length_cons, List.length_nil, Nat.reduceAdd, Nat.reduceSub, Array.replicate_succ, Array.replicate_zero, List.push_toArray, List.append_toArray, List.nil_append, List.cons_append]
  refine wpIn_wide.2 ?_
  go_wp2
  go_loopw [3] (fun a wr => ∃ i : Nat, (i = 0 ∨ i < xs.length) ∧ a = .int .i64 ((i : Int) + 1) ∧ J i wr ∧ wr.cell? ⟨Bl, 0, none⟩ = some (.slice p xs.length c) ∧ Lt Bl wr ∧ Ext w0 wr) (fun a _ => xs.length + 1 - (intOf a).toNat)
  case atStart => exact ⟨0, .inl rfl, rfl, hJ0, hcW, lbW, h0W⟩
  case round =>
    clear hcW lbW h0W hJ0
    obtain ⟨i, hi, rfl, hJi, hcw, lbw, hE⟩ := hrel
    by_cases hlt : i + 1 < xs.length
    · have hg : decide ((i : Int) + 1 < xs.length) = true := decide_eq_true (by omega)
      have hi1 : 0 ≤ (i : Int) + 1 - 1 ∧ (i : Int) + 1 - 1 < xs.length := by omega
      have HJI := Lib.hid hJi
      clear hJi
      have HXS := Lib.hid (pairsC_get xs i hlt)
      obtain ⟨b, off, rfl, hb, c0, c1, c2, c3, c4, c5⟩ := (hs.ext hE) i (by omega)
      obtain ⟨b', off', hpe, -, d0, d1, d2, d3, d4, d5⟩ := (hs.ext hE) (i + 1) hlt
      cases hpe
      have lbb : Lt b wr := hb
      obtain ⟨x, hx⟩ : ∃ x, xs[i] = x := ⟨_, rfl⟩
      obtain ⟨z, hz⟩ : ∃ z, xs[i + 1] = z := ⟨_, rfl⟩
      rw [hx] at c0 c1 c2 c3 c4 c5
      rw [hz] at d0 d1 d2 d3 d4 d5
      have hw8 : IntKind.i64.wrap ((i : Int) + 1 - 1) = i := by
        have a1 : ((i : Int) + 1 - 1) = i := by omega
        rw [a1]
        simp only [IntKind.wrap, IntKind.bits, IntKind.signed]
        simp
        omega
      go_wp2_with (fail)
      refine (wpIn_wide (n := n)).1 ?_
      refine wp_region_R 15 (by kernel_rfl) ?_
      obtain ⟨W1, hW1⟩ : ∃ W1, wr.drew = W1 := ⟨_, rfl⟩
      have g1 : Ext wr W1 := by rw [← hW1]; exact Ext.dr (Ext.rf _)
      rw [hW1]
      clear hW1
      have hJ1 : J i W1 := HJ.out _ _ _ HJI.out (Mv.of_ext g1)
      have hcw1 : W1.cell? ⟨Bl, 0, none⟩ = some (.slice (some ⟨b, off, none⟩) xs.length c) := (g1.cell (p := ⟨Bl, 0, none⟩) lbw).trans hcw
      have lbw1 : Lt Bl W1 := Nat.lt_of_lt_of_le lbw g1.size
      have lb1 : Lt b W1 := Nat.lt_of_lt_of_le lbb g1.size
      have hE1 := hE.tr g1
      have c0 := (g1.cell (p := ⟨b, _, none⟩) lbb).trans c0
      have d0 := (g1.cell (p := ⟨b, _, none⟩) lbb).trans d0
      have c1 := (g1.cell (p := ⟨b, _, none⟩) lbb).trans c1
      have d1 := (g1.cell (p := ⟨b, _, none⟩) lbb).trans d1
      have c2 := (g1.cell (p := ⟨b, _, none⟩) lbb).trans c2
      have d2 := (g1.cell (p := ⟨b, _, none⟩) lbb).trans d2
      have c3 := (g1.cell (p := ⟨b, _, none⟩) lbb).trans c3
      have d3 := (g1.cell (p := ⟨b, _, none⟩) lbb).trans d3
      have c4 := (g1.cell (p := ⟨b, _, none⟩) lbb).trans c4
      have d4 := (g1.cell (p := ⟨b, _, none⟩) lbb).trans d4
      have c5 := (g1.cell (p := ⟨b, _, none⟩) lbb).trans c5
      have d5 := (g1.cell (p := ⟨b, _, none⟩) lbb).trans d5
      refine withR (N := 17) (R := SchPC) (E := ((Try.f91.body.bind (findR 1)).getD #[])) (by kernel_rfl) schPC (by kernel_rfl) fun hS => ?_
      refine takeR (N := 17) (k := 0) (l := [3, 4, 15]) (v := .int .i64 ((i : Int) + 1)) hS.1 (hS.2.1 0 (by decide)) (hS.2.2.1 0 (by decide)) (hS.2.2.2.1 0 [3, 4, 15] (by decide)) rfl (by decide) rfl (by kernel_rfl) (fun _ _ => by kernel_rfl) ?_
      refine takeR (N := 17) (k := 1) (l := [2, 3, 4, 15]) (v := .slice (some ⟨b, off, none⟩) xs.length c) hS.1 (hS.2.1 1 (by decide)) (hS.2.2.1 1 (by decide)) (hS.2.2.2.1 1 [2, 3, 4, 15] (by decide)) rfl (by decide) rfl (by kernel_rfl) (load_slC_X hcw1 lbw1 _ _ _ _ _ _ _ (by kernel_rfl)) ?_
      refine takeR (N := 17) (k := 2) (l := [3, 4, 15]) (v := .int .i64 xs.length) hS.1 (hS.2.1 2 (by decide)) (hS.2.2.1 2 (by decide)) (hS.2.2.2.1 2 [3, 4, 15] (by decide)) rfl (by decide) rfl (by kernel_rfl) (fun _ _ => by kernel_rfl) ?_
      refine takeR (N := 17) (k := 3) (l := [4, 15]) (v := .bool (decide ((i : Int) + 1 < xs.length))) hS.1 (hS.2.1 3 (by decide)) (hS.2.2.1 3 (by decide)) (hS.2.2.2.1 3 [4, 15] (by decide)) rfl (by decide) rfl (by kernel_rfl) (fun _ _ => by kernel_rfl) ?_
      rw [hg]
      refine takeR (N := 17) (k := 4) (l := [15]) (v := .bool true) hS.1 (hS.2.1 4 (by decide)) (hS.2.2.1 4 (by decide)) (hS.2.2.2.1 4 [15] (by decide)) rfl (by decide) rfl (by kernel_rfl) (fun _ _ => by kernel_rfl) ?_
      refine takeR (N := 17) (k := 5) (l := [15]) (v := .func (.yield y) #[] #[]) hS.1 (hS.2.1 5 (by decide)) (hS.2.2.1 5 (by decide)) (hS.2.2.2.1 5 [15] (by decide)) rfl (by decide) rfl (by kernel_rfl) (fun _ _ => by kernel_rfl) ?_
      refine takeR (N := 17) (k := 6) (l := [9, 10, 15]) (v := .slice (some ⟨b, off, none⟩) xs.length c) hS.1 (hS.2.1 6 (by decide)) (hS.2.2.1 6 (by decide)) (hS.2.2.2.1 6 [9, 10, 15] (by decide)) rfl (by decide) rfl (by kernel_rfl) (load_slC_X hcw1 lbw1 _ _ _ _ _ _ _ (by kernel_rfl)) ?_
      refine takeR (N := 17) (k := 7) (l := [8, 9, 10, 15]) (v := .int .i64 ((i : Int) + 1)) hS.1 (hS.2.1 7 (by decide)) (hS.2.2.1 7 (by decide)) (hS.2.2.2.1 7 [8, 9, 10, 15] (by decide)) rfl (by decide) rfl (by kernel_rfl) (fun _ _ => by kernel_rfl) ?_
      refine takeR (N := 17) (k := 8) (l := [9, 10, 15]) (v := .int .i64 (IntKind.i64.wrap ((i : Int) + 1 - 1))) hS.1 (hS.2.1 8 (by decide)) (hS.2.2.1 8 (by decide)) (hS.2.2.2.1 8 [9, 10, 15] (by decide)) rfl (by decide) rfl (by kernel_rfl) (fun _ _ => by kernel_rfl) ?_
      rw [hw8]
      refine takeR (N := 17) (k := 9) (l := [10, 15]) (v := .pointer (some ⟨b, off + i * 6, none⟩)) hS.1 (hS.2.1 9 (by decide)) (hS.2.2.1 9 (by decide)) (hS.2.2.2.1 9 [10, 15] (by decide)) rfl (by decide) rfl (by kernel_rfl) (index_C_X (i := i) (m := xs.length) (c := c) (by omega) _ _ _ _ _ _ _ _ (by kernel_rfl) (by kernel_rfl)) ?_
      refine takeR (N := 17) (k := 10) (l := [15]) (v := .agg #[.int .u32 x.t.a, .int .u32 x.t.b, .int .u16 x.t.c, .int .u16 x.t.d, .int .i64 x.s, .int .i64 x.l]) hS.1 (hS.2.1 10 (by decide)) (hS.2.2.1 10 (by decide)) (hS.2.2.2.1 10 [15] (by decide)) rfl (by decide) rfl (by kernel_rfl) (load_C_X c0 c1 c2 c3 c4 c5 lb1 _ _ _ _ _ _ _ (by kernel_rfl)) ?_
      refine takeR (N := 17) (k := 11) (l := [13, 14, 15]) (v := .slice (some ⟨b, off, none⟩) xs.length c) hS.1 (hS.2.1 11 (by decide)) (hS.2.2.1 11 (by decide)) (hS.2.2.2.1 11 [13, 14, 15] (by decide)) rfl (by decide) rfl (by kernel_rfl) (load_slC_X hcw1 lbw1 _ _ _ _ _ _ _ (by kernel_rfl)) ?_
      refine takeR (N := 17) (k := 12) (l := [13, 14, 15]) (v := .int .i64 ((i : Int) + 1)) hS.1 (hS.2.1 12 (by decide)) (hS.2.2.1 12 (by decide)) (hS.2.2.2.1 12 [13, 14, 15] (by decide)) rfl (by decide) rfl (by kernel_rfl) (fun _ _ => by kernel_rfl) ?_
      refine takeR (N := 17) (k := 13) (l := [14, 15]) (v := .pointer (some ⟨b, off + (i + 1) * 6, none⟩)) hS.1 (hS.2.1 13 (by decide)) (hS.2.2.1 13 (by decide)) (hS.2.2.2.1 13 [14, 15] (by decide)) rfl (by decide) rfl (by kernel_rfl) (index_C_X (i := i + 1) (m := xs.length) (c := c) (by omega) _ _ _ _ _ _ _ _ (by kernel_rfl) (by kernel_rfl)) ?_
      refine takeR (N := 17) (k := 14) (l := [15]) (v := .agg #[.int .u32 z.t.a, .int .u32 z.t.b, .int .u16 z.t.c, .int .u16 z.t.d, .int .i64 z.s, .int .i64 z.l]) hS.1 (hS.2.1 14 (by decide)) (hS.2.2.1 14 (by decide)) (hS.2.2.2.1 14 [15] (by decide)) rfl (by decide) rfl (by kernel_rfl) (load_C_X d0 d1 d2 d3 d4 d5 lb1 _ _ _ _ _ _ _ (by kernel_rfl)) ?_
      have hrun : (Instr.yield y #[.agg #[.int .u32 x.t.a, .int .u32 x.t.b, .int .u16 x.t.c, .int .u16 x.t.d, .int .i64 x.s, .int .i64 x.l], .agg #[.int .u32 z.t.a, .int .u32 z.t.b, .int .u16 z.t.c, .int .u16 z.t.d, .int .i64 z.s, .int .i64 z.l]]).run Try.prog W1 = .ok (.round y yfn (ytm #[.agg #[.int .u32 x.t.a, .int .u32 x.t.b, .int .u16 x.t.c, .int .u16 x.t.d, .int .i64 x.s, .int .i64 x.l], .agg #[.int .u32 z.t.a, .int .u32 z.t.b, .int .u16 z.t.c, .int .u16 z.t.d, .int .i64 z.s, .int .i64 z.l]]) yas ybo) W1 := by
        have := (HY.out i (x, z) W1 hJ1 (by rw [HXS.out, hx, hz])).1
        exact this
      have HRD := Lib.hid (HY.out i (x, z) W1 hJ1 (by rw [HXS.out, hx, hz])).2
      refine roundR (N := 17) hS.2.2.2.2.1 rfl (by kernel_rfl) (yield_C_X hrun _ _ _ _ _ _ _ _ _ _ (by kernel_rfl) (by kernel_rfl) (by kernel_rfl)) HRD.out ?_
      rintro e w6 ⟨bb, rfl, hP⟩
      refine ⟨_, rfl, ?_⟩
      refine valueR (N := 17) (k := 16) (v := .bool bb) hS.2.2.2.2.2.1 rfl (by kernel_rfl) (by kernel_rfl) ?_
      refine doneR hS.2.2.2.2.2.2 ?_
      clear hS HRD hrun
      go_simp
      obtain ⟨rfl, hJ6, hm6⟩ | ⟨rfl, hx6⟩ := hP
      · have hcw6 : w6.cell? ⟨Bl, 0, none⟩ = some (.slice (some ⟨b, off, none⟩) xs.length c) := by
          rw [cell_rowD, rowD_same (hm6.same Bl lbw1 (fun h => by rcases h with h | h; exact (HU.out _ h).2 rfl; unfold Lt at lb; omega)), ← cell_rowD]; exact hcw1
        have lbw6 : Lt Bl w6 := Nat.lt_of_lt_of_le lbw1 hm6.size
        have hE6 : Ext w0 w6 := Mv.ext_of hE1 hm6 (fun k h => by rcases h with h | h; exact (HU.out _ h).1; exact Nat.le_trans h0.size h)
        clear hm6
        go_wp2
        have hcast : (i : Int) + 1 + 1 = ((i + 1 : Nat) : Int) + 1 := by omega
        exact ⟨⟨i + 1, .inr hlt, by rw [hcast], hJ6, hcw6, lbw6, hE6⟩, by simp [intOf]; omega⟩
      · go_wp2
        go_end0
        exact ⟨⟨_, rfl⟩, .inr hx6⟩
    · have hg : decide ((i : Int) + 1 < xs.length) = false := decide_eq_false (by omega)
      have hln : (pairsC xs).length = i := by rw [pairsC_len]; omega
      have HLN := Lib.hid hln
      clear hln
      go_wp2_with (fail)
      refine wp_region_later (by kernel_rfl) (by kernel_rfl) ?_; (repeat (go_big_quiet_step (fail))); refine wpQuiet_nil ?_; intro d
      have hd := later_ext d
      generalize later d = w6 at *
      go_wp2
      go_end0
      exact ⟨⟨_, rfl⟩, .inl (by rw [HLN.out]; exact HJ.out _ _ _ hJi (Mv.of_ext hd))⟩

def SchPH (ops : Array Oper) : Prop := Region.noSelect ops = true ∧ (∀ k, k < 15 → okX ops 17 k = true) ∧ (∀ k, k < 15 → closedB .any ops (lst 17 k) = true) ∧ (∀ k l, (k, l) ∈ pathsX → waitsB .any ops (k :: l) = true) ∧ Region.ready .any ops (lst 17 15) = [15] ∧ Region.ready .any ops (lst 17 16) = [16] ∧ Region.ready .any ops (lst 17 17) = []
theorem schPH : SchPH ((Try.f108.body.bind (findR 1)).getD #[]) := by
  have h1 : ((List.range 15).all fun k => okX ((Try.f108.body.bind (findR 1)).getD #[]) 17 k) = true := by kernel_rfl
  have h2 : ((List.range 15).all fun k => closedB .any ((Try.f108.body.bind (findR 1)).getD #[]) (lst 17 k)) = true := by kernel_rfl
  have h3 : (pathsX.all fun kl => waitsB .any ((Try.f108.body.bind (findR 1)).getD #[]) (kl.1 :: kl.2)) = true := by kernel_rfl
  exact ⟨by kernel_rfl, fun k hk => List.all_eq_true.1 h1 k (List.mem_range.2 hk), fun k hk => List.all_eq_true.1 h2 k (List.mem_range.2 hk), fun k l h => List.all_eq_true.1 h3 (k, l) h, by kernel_rfl, by kernel_rfl, by kernel_rfl⟩
theorem load_slH_X {w : World} {B O : Nat} {a : Option Addr} {m c : Nat} (h0 : w.cell? ⟨B, O, none⟩ = some (.slice a m c)) (hl : Lt B w) (ρ : Operand → Value) (dst : Option Tmp) (x : Operand) (ty : TypeId) (pos : String) (after : Array Edge) (g : Option (Nat × Bool))
    (hx : ρ x = .pointer (some ⟨B, O, none⟩)) : ∀ w', Ext w w' → (execOp ρ ⟨dst, .load 50 x, ty, pos, after, g⟩).run Try.prog w' = .ok (.value (.slice a m c)) w' := by
  intro w' hE
  have h0 := (hE.cell (p := ⟨B, _, none⟩) hl).trans h0
  simp only [execOp, hx]
  go_simp
theorem index_H_X {w : World} {B O i m c : Nat} (hi : i < m) (ρ : Operand → Value) (dst : Option Tmp) (x y : Operand) (ty : TypeId) (pos : String) (after : Array Edge) (g : Option (Nat × Bool))
    (hx : ρ x = .slice (some ⟨B, O, none⟩) m c) (hy : ρ y = .int .i64 (i : Nat)) : ∀ w', Ext w w' → (execOp ρ ⟨dst, .indexAddr 50 x y, ty, pos, after, g⟩).run Try.prog w' = .ok (.value (.pointer (some ⟨B, O + i * 5, none⟩))) w' := by
  intro w' hE
  have hi' : (i : Int) < m := by omega
  simp only [execOp, hx, hy]
  go_simp
theorem load_H_X {w : World} {B O i : Nat} {x : Ho} (h0 : w.cell? ⟨B, O + i * 5, none⟩ = some (.int .u32 x.t.a)) (h1 : w.cell? ⟨B, O + i * 5 + 1, none⟩ = some (.int .u32 x.t.b)) (h2 : w.cell? ⟨B, O + i * 5 + 2, none⟩ = some (.int .u16 x.t.c)) (h3 : w.cell? ⟨B, O + i * 5 + 3, none⟩ = some (.int .u16 x.t.d)) (h4 : w.cell? ⟨B, O + i * 5 + 4, none⟩ = some (.int .i64 x.n)) (hl : Lt B w) (ρ : Operand → Value) (dst : Option Tmp) (q : Operand) (ty : TypeId) (pos : String) (after : Array Edge) (g : Option (Nat × Bool))
    (hx : ρ q = .pointer (some ⟨B, O + i * 5, none⟩)) : ∀ w', Ext w w' → (execOp ρ ⟨dst, .load 70 q, ty, pos, after, g⟩).run Try.prog w' = .ok (.value (.agg #[.int .u32 x.t.a, .int .u32 x.t.b, .int .u16 x.t.c, .int .u16 x.t.d, .int .i64 x.n])) w' := by
  intro w' hE
  have h0 := (hE.cell (p := ⟨B, _, none⟩) hl).trans h0
  have h1 := (hE.cell (p := ⟨B, _, none⟩) hl).trans h1
  have h2 := (hE.cell (p := ⟨B, _, none⟩) hl).trans h2
  have h3 := (hE.cell (p := ⟨B, _, none⟩) hl).trans h3
  have h4 := (hE.cell (p := ⟨B, _, none⟩) hl).trans h4
  simp only [execOp, hx]
  go_simp
theorem yield_H_X {w : World} {y : Nat} {v1 v2 : Value} {R : Result Next} (h : (Instr.yield y #[v1, v2]).run Try.prog w = R) (ρ : Operand → Value) (dst : Option Tmp) (x q1 q2 : Operand) (tys : Array TypeId) (ty : TypeId) (pos : String) (after : Array Edge) (g : Option (Nat × Bool))
    (hx : ρ x = .func (.yield y) #[] #[]) (h1 : ρ q1 = v1) (h2 : ρ q2 = v2) : (execOp ρ ⟨dst, .call { callee := .value x, args := #[q1, q2], argTypes := tys }, ty, pos, after, g⟩).run Try.prog w = R := by
  rw [← h]
  subst h1 h2
  simp only [execOp, hx]
  go_simp
def pairsH (xs : List Ho) : List (Ho × Ho) := xs.zip xs.tail
theorem pairsH_len (xs : List Ho) : (pairsH xs).length = xs.length - 1 := by simp [pairsH]
theorem pairsH_get (xs : List Ho) (i : Nat) (hi : i + 1 < xs.length) : (pairsH xs)[i]? = some (xs[i], xs[i + 1]) := by
  unfold pairsH
  rw [List.getElem?_eq_getElem (by simp; omega)]
  simp
theorem pairs_H_any (p : Option Addr) (m c : Nat) (w : World) :
    Calls Try.prog 81 #[.slice p m c] w fun e w' => e = .returned (.func (.func 108) #[] #[.pointer (some ⟨w.heap.size, 0, none⟩)]) ∧ w' = w.alloc (.cells #[.slice p m c] 50) := by
  go_enter Try.func81, Try.ntmps81
  go_wp2
  go_ret
  exact ⟨rfl, rfl⟩
set_option maxRecDepth 100000 in
set_option maxHeartbeats 4000000 in
theorem pairs_H_iter (n : Nat) (xs : List Ho) (p : Option Addr) (c : Nat) (w0 w : World) (Bl : Nat) (U : Nat → Prop) (h0 : Ext w0 w) (hs : SlH w0 p xs) (hl : xs.length ≤ 1000) (hc : w.cell? ⟨Bl, 0, none⟩ = some (.slice p xs.length c)) (lb : Lt Bl w) (hU : ∀ k, U k → w0.heap.size ≤ k ∧ k ≠ Bl) :
    Iter Fence.wide n Try.prog 108 #[.pointer (some ⟨Bl, 0, none⟩)] (fun x : Ho × Ho => #[.agg #[.int .u32 x.1.t.a, .int .u32 x.1.t.b, .int .u16 x.1.t.c, .int .u16 x.1.t.d, .int .i64 x.1.n], .agg #[.int .u32 x.2.t.a, .int .u32 x.2.t.b, .int .u16 x.2.t.c, .int .u16 x.2.t.d, .int .i64 x.2.n]]) (fun _ => False) U (pairsH xs) w := by
  intro y J Jx W hW hJ hJx hY hJ0
  have HJ := Lib.hid hJ
  have HJx := Lib.hid hJx
  have HU := Lib.hid hU
  clear hJ hJx hU
  obtain ⟨yfn, ytm, yas, ybo, hY⟩ := hY
  have HY := Lib.hid hY
  clear hY
  have hcW : W.cell? ⟨Bl, 0, none⟩ = some (.slice p xs.length c) := (hW.cell (p := ⟨Bl, 0, none⟩) lb).trans hc
  have lbW : Lt Bl W := Nat.lt_of_lt_of_le lb hW.size
  have h0W := h0.tr hW
  refine callsIn_of_wp Try.func108 rfl trivial ?_ rfl
  simp only [Try.ntmps108, List.size_toArray, List.length_cons, List.length_nil, Nat.reduceAdd, Nat.reduceSub, Array.replicate_succ, Array.replicate_zero, List.push_toArray, List.append_toArray, List.nil_append, List.cons_append]
  refine wpIn_wide.2 ?_
  go_wp2
  go_loopw [3] (fun a wr => ∃ i : Nat, (i = 0 ∨ i < xs.length) ∧ a = .int .i64 ((i : Int) + 1) ∧ J i wr ∧ wr.cell? ⟨Bl, 0, none⟩ = some (.slice p xs.length c) ∧ Lt Bl wr ∧ Ext w0 wr) (fun a _ => xs.length + 1 - (intOf a).toNat)
  case atStart => exact ⟨0, .inl rfl, rfl, hJ0, hcW, lbW, h0W⟩
  case round =>
    clear hcW lbW h0W hJ0
    obtain ⟨i, hi, rfl, hJi, hcw, lbw, hE⟩ := hrel
    by_cases hlt : i + 1 < xs.length
    · have hg : decide ((i : Int) + 1 < xs.length) = true := decide_eq_true (by omega)
      have hi1 : 0 ≤ (i : Int) + 1 - 1 ∧ (i : Int) + 1 - 1 < xs.length := by omega
      have HJI := Lib.hid hJi
      clear hJi
      have HXS := Lib.hid (pairsH_get xs i hlt)
      obtain ⟨b, off, rfl, hb, c0, c1, c2, c3, c4⟩ := (hs.ext hE) i (by omega)
      obtain ⟨b', off', hpe, -, d0, d1, d2, d3, d4⟩ := (hs.ext hE) (i + 1) hlt
      cases hpe
      have lbb : Lt b wr := hb
      obtain ⟨x, hx⟩ : ∃ x, xs[i] = x := ⟨_, rfl⟩
      obtain ⟨z, hz⟩ : ∃ z, xs[i + 1] = z := ⟨_, rfl⟩
      rw [hx] at c0 c1 c2 c3 c4
      rw [hz] at d0 d1 d2 d3 d4
      have hw8 : IntKind.i64.wrap ((i : Int) + 1 - 1) = i := by
        have a1 : ((i : Int) + 1 - 1) = i := by omega
        rw [a1]
        simp only [IntKind.wrap, IntKind.bits, IntKind.signed]
        simp
        omega
      go_wp2_with (fail)
      refine (wpIn_wide (n := n)).1 ?_
      refine wp_region_R 15 (by kernel_rfl) ?_
      obtain ⟨W1, hW1⟩ : ∃ W1, wr.drew = W1 := ⟨_, rfl⟩
      have g1 : Ext wr W1 := by rw [← hW1]; exact Ext.dr (Ext.rf _)
      rw [hW1]
      clear hW1
      have hJ1 : J i W1 := HJ.out _ _ _ HJI.out (Mv.of_ext g1)
      have hcw1 : W1.cell? ⟨Bl, 0, none⟩ = some (.slice (some ⟨b, off, none⟩) xs.length c) := (g1.cell (p := ⟨Bl, 0, none⟩) lbw).trans hcw
      have lbw1 : Lt Bl W1 := Nat.lt_of_lt_of_le lbw g1.size
      have lb1 : Lt b W1 := Nat.lt_of_lt_of_le lbb g1.size
      have hE1 := hE.tr g1
      have c0 := (g1.cell (p := ⟨b, _, none⟩) lbb).trans c0
      have d0 := (g1.cell (p := ⟨b, _, none⟩) lbb).trans d0
      have c1 := (g1.cell (p := ⟨b, _, none⟩) lbb).trans c1
      have d1 := (g1.cell (p := ⟨b, _, none⟩) lbb).trans d1
      have c2 := (g1.cell (p := ⟨b, _, none⟩) lbb).trans c2
      have d2 := (g1.cell (p := ⟨b, _, none⟩) lbb).trans d2
      have c3 := (g1.cell (p := ⟨b, _, none⟩) lbb).trans c3
      have d3 := (g1.cell (p := ⟨b, _, none⟩) lbb).trans d3
      have c4 := (g1.cell (p := ⟨b, _, none⟩) lbb).trans c4
      have d4 := (g1.cell (p := ⟨b, _, none⟩) lbb).trans d4
      refine withR (N := 17) (R := SchPH) (E := ((Try.f108.body.bind (findR 1)).getD #[])) (by kernel_rfl) schPH (by kernel_rfl) fun hS => ?_
      refine takeR (N := 17) (k := 0) (l := [3, 4, 15]) (v := .int .i64 ((i : Int) + 1)) hS.1 (hS.2.1 0 (by decide)) (hS.2.2.1 0 (by decide)) (hS.2.2.2.1 0 [3, 4, 15] (by decide)) rfl (by decide) rfl (by kernel_rfl) (fun _ _ => by kernel_rfl) ?_
      refine takeR (N := 17) (k := 1) (l := [2, 3, 4, 15]) (v := .slice (some ⟨b, off, none⟩) xs.length c) hS.1 (hS.2.1 1 (by decide)) (hS.2.2.1 1 (by decide)) (hS.2.2.2.1 1 [2, 3, 4, 15] (by decide)) rfl (by decide) rfl (by kernel_rfl) (load_slH_X hcw1 lbw1 _ _ _ _ _ _ _ (by kernel_rfl)) ?_
      refine takeR (N := 17) (k := 2) (l := [3, 4, 15]) (v := .int .i64 xs.length) hS.1 (hS.2.1 2 (by decide)) (hS.2.2.1 2 (by decide)) (hS.2.2.2.1 2 [3, 4, 15] (by decide)) rfl (by decide) rfl (by kernel_rfl) (fun _ _ => by kernel_rfl) ?_
      refine takeR (N := 17) (k := 3) (l := [4, 15]) (v := .bool (decide ((i : Int) + 1 < xs.length))) hS.1 (hS.2.1 3 (by decide)) (hS.2.2.1 3 (by decide)) (hS.2.2.2.1 3 [4, 15] (by decide)) rfl (by decide) rfl (by kernel_rfl) (fun _ _ => by kernel_rfl) ?_
      rw [hg]
      refine takeR (N := 17) (k := 4) (l := [15]) (v := .bool true) hS.1 (hS.2.1 4 (by decide)) (hS.2.2.1 4 (by decide)) (hS.2.2.2.1 4 [15] (by decide)) rfl (by decide) rfl (by kernel_rfl) (fun _ _ => by kernel_rfl) ?_
      refine takeR (N := 17) (k := 5) (l := [15]) (v := .func (.yield y) #[] #[]) hS.1 (hS.2.1 5 (by decide)) (hS.2.2.1 5 (by decide)) (hS.2.2.2.1 5 [15] (by decide)) rfl (by decide) rfl (by kernel_rfl) (fun _ _ => by kernel_rfl) ?_
      refine takeR (N := 17) (k := 6) (l := [9, 10, 15]) (v := .slice (some ⟨b, off, none⟩) xs.length c) hS.1 (hS.2.1 6 (by decide)) (hS.2.2.1 6 (by decide)) (hS.2.2.2.1 6 [9, 10, 15] (by decide)) rfl (by decide) rfl (by kernel_rfl) (load_slH_X hcw1 lbw1 _ _ _ _ _ _ _ (by kernel_rfl)) ?_
      refine takeR (N := 17) (k := 7) (l := [8, 9, 10, 15]) (v := .int .i64 ((i : Int) + 1)) hS.1 (hS.2.1 7 (by decide)) (hS.2.2.1 7 (by decide)) (hS.2.2.2.1 7 [8, 9, 10, 15] (by decide)) rfl (by decide) rfl (by kernel_rfl) (fun _ _ => by kernel_rfl) ?_
      refine takeR (N := 17) (k := 8) (l := [9, 10, 15]) (v := .int .i64 (IntKind.i64.wrap ((i : Int) + 1 - 1))) hS.1 (hS.2.1 8 (by decide)) (hS.2.2.1 8 (by decide)) (hS.2.2.2.1 8 [9, 10, 15] (by decide)) rfl (by decide) rfl (by kernel_rfl) (fun _ _ => by kernel_rfl) ?_
      rw [hw8]
      refine takeR (N := 17) (k := 9) (l := [10, 15]) (v := .pointer (some ⟨b, off + i * 5, none⟩)) hS.1 (hS.2.1 9 (by decide)) (hS.2.2.1 9 (by decide)) (hS.2.2.2.1 9 [10, 15] (by decide)) rfl (by decide) rfl (by kernel_rfl) (index_H_X (i := i) (m := xs.length) (c := c) (by omega) _ _ _ _ _ _ _ _ (by kernel_rfl) (by kernel_rfl)) ?_
      refine takeR (N := 17) (k := 10) (l := [15]) (v := .agg #[.int .u32 x.t.a, .int .u32 x.t.b, .int .u16 x.t.c, .int .u16 x.t.d, .int .i64 x.n]) hS.1 (hS.2.1 10 (by decide)) (hS.2.2.1 10 (by decide)) (hS.2.2.2.1 10 [15] (by decide)) rfl (by decide) rfl (by kernel_rfl) (load_H_X c0 c1 c2 c3 c4 lb1 _ _ _ _ _ _ _ (by kernel_rfl)) ?_
      refine takeR (N := 17) (k := 11) (l := [13, 14, 15]) (v := .slice (some ⟨b, off, none⟩) xs.length c) hS.1 (hS.2.1 11 (by decide)) (hS.2.2.1 11 (by decide)) (hS.2.2.2.1 11 [13, 14, 15] (by decide)) rfl (by decide) rfl (by kernel_rfl) (load_slH_X hcw1 lbw1 _ _ _ _ _ _ _ (by kernel_rfl)) ?_
      refine takeR (N := 17) (k := 12) (l := [13, 14, 15]) (v := .int .i64 ((i : Int) + 1)) hS.1 (hS.2.1 12 (by decide)) (hS.2.2.1 12 (by decide)) (hS.2.2.2.1 12 [13, 14, 15] (by decide)) rfl (by decide) rfl (by kernel_rfl) (fun _ _ => by kernel_rfl) ?_
      refine takeR (N := 17) (k := 13) (l := [14, 15]) (v := .pointer (some ⟨b, off + (i + 1) * 5, none⟩)) hS.1 (hS.2.1 13 (by decide)) (hS.2.2.1 13 (by decide)) (hS.2.2.2.1 13 [14, 15] (by decide)) rfl (by decide) rfl (by kernel_rfl) (index_H_X (i := i + 1) (m := xs.length) (c := c) (by omega) _ _ _ _ _ _ _ _ (by kernel_rfl) (by kernel_rfl)) ?_
      refine takeR (N := 17) (k := 14) (l := [15]) (v := .agg #[.int .u32 z.t.a, .int .u32 z.t.b, .int .u16 z.t.c, .int .u16 z.t.d, .int .i64 z.n]) hS.1 (hS.2.1 14 (by decide)) (hS.2.2.1 14 (by decide)) (hS.2.2.2.1 14 [15] (by decide)) rfl (by decide) rfl (by kernel_rfl) (load_H_X d0 d1 d2 d3 d4 lb1 _ _ _ _ _ _ _ (by kernel_rfl)) ?_
      have hrun : (Instr.yield y #[.agg #[.int .u32 x.t.a, .int .u32 x.t.b, .int .u16 x.t.c, .int .u16 x.t.d, .int .i64 x.n], .agg #[.int .u32 z.t.a, .int .u32 z.t.b, .int .u16 z.t.c, .int .u16 z.t.d, .int .i64 z.n]]).run Try.prog W1 = .ok (.round y yfn (ytm #[.agg #[.int .u32 x.t.a, .int .u32 x.t.b, .int .u16 x.t.c, .int .u16 x.t.d, .int .i64 x.n], .agg #[.int .u32 z.t.a, .int .u32 z.t.b, .int .u16 z.t.c, .int .u16 z.t.d, .int .i64 z.n]]) yas ybo) W1 := by
        have := (HY.out i (x, z) W1 hJ1 (by rw [HXS.out, hx, hz])).1
        exact this
      have HRD := Lib.hid (HY.out i (x, z) W1 hJ1 (by rw [HXS.out, hx, hz])).2
      refine roundR (N := 17) hS.2.2.2.2.1 rfl (by kernel_rfl) (yield_H_X hrun _ _ _ _ _ _ _ _ _ _ (by kernel_rfl) (by kernel_rfl) (by kernel_rfl)) HRD.out ?_
      rintro e w6 ⟨bb, rfl, hP⟩
      refine ⟨_, rfl, ?_⟩
      refine valueR (N := 17) (k := 16) (v := .bool bb) hS.2.2.2.2.2.1 rfl (by kernel_rfl) (by kernel_rfl) ?_
      refine doneR hS.2.2.2.2.2.2 ?_
      clear hS HRD hrun
      go_simp
      obtain ⟨rfl, hJ6, hm6⟩ | ⟨rfl, hx6⟩ := hP
      · have hcw6 : w6.cell? ⟨Bl, 0, none⟩ = some (.slice (some ⟨b, off, none⟩) xs.length c) := by
          rw [cell_rowD, rowD_same (hm6.same Bl lbw1 (fun h => by rcases h with h | h; exact (HU.out _ h).2 rfl; unfold Lt at lb; omega)), ← cell_rowD]; exact hcw1
        have lbw6 : Lt Bl w6 := Nat.lt_of_lt_of_le lbw1 hm6.size
        have hE6 : Ext w0 w6 := Mv.ext_of hE1 hm6 (fun k h => by rcases h with h | h; exact (HU.out _ h).1; exact Nat.le_trans h0.size h)
        clear hm6
        go_wp2
        have hcast : (i : Int) + 1 + 1 = ((i + 1 : Nat) : Int) + 1 := by omega
        exact ⟨⟨i + 1, .inr hlt, by rw [hcast], hJ6, hcw6, lbw6, hE6⟩, by simp [intOf]; omega⟩
      · go_wp2
        go_end0
        exact ⟨⟨_, rfl⟩, .inr hx6⟩
    · have hg : decide ((i : Int) + 1 < xs.length) = false := decide_eq_false (by omega)
      have hln : (pairsH xs).length = i := by rw [pairsH_len]; omega
      have HLN := Lib.hid hln
      clear hln
      go_wp2_with (fail)
      refine wp_region_later (by kernel_rfl) (by kernel_rfl) ?_; (repeat (go_big_quiet_step (fail))); refine wpQuiet_nil ?_; intro d
      have hd := later_ext d
      generalize later d = w6 at *
      go_wp2
      go_end0
      exact ⟨⟨_, rfl⟩, .inl (by rw [HLN.out]; exact HJ.out _ _ _ hJi (Mv.of_ext hd))⟩

end Go.Proofs.Ytookffaojlkfaaa

/- Connections: Right. -/
namespace Go.Proofs.Ytookffaojlkfaaa
open Go.RowKit

def wrongC (x : Co) : Bool := decide (x.s < 0) || decide (x.l < x.s) || decide (1099511627776 < x.l)
set_option maxHeartbeats 1000000 in
theorem wrong_any (x : Co) (w : World) :
    Calls Try.prog 65 #[.agg #[.int .u32 x.t.a, .int .u32 x.t.b, .int .u16 x.t.c, .int .u16 x.t.d, .int .i64 x.s, .int .i64 x.l]] w fun e w' => e = .returned (.bool (wrongC x)) ∧ Ext w w' := by
  go_enter Try.func65, Try.ntmps65
  go_wp2
  all_goals go_ret
  all_goals refine ⟨ret_bool ?_, ?_⟩
  all_goals first | (guard_target =~ Below _ _ _; (repeat (first | with_reducible exact Ext.rf _ | with_reducible assumption | with_reducible refine Ext.al ?_ _ | with_reducible refine Ext.dr ?_ | with_reducible refine Ext.dn ?_ _ | ((with_reducible refine Ext.st _ ?_ ?_); focus (first | omega | (simp; omega) | simp)) | with_reducible refine Ext.tr ?_ (by assumption) | with_reducible refine Ext.tr ?_ (up_ext (by assumption)) | with_reducible refine Ext.of (by assumption) ?_))) | (simp [wrongC, *]; done) | grind [wrongC]
theorem wrong_cl (x : Co) (w : World) :
    Calls Try.prog 65 (#[.agg #[.int .u32 x.t.a, .int .u32 x.t.b, .int .u16 x.t.c, .int .u16 x.t.d, .int .i64 x.s, .int .i64 x.l]] ++ #[]) w fun e w' => e = .returned (.bool (wrongC x)) ∧ Ext w w' := by
  rw [show (#[Value.agg #[.int .u32 x.t.a, .int .u32 x.t.b, .int .u16 x.t.c, .int .u16 x.t.d, .int .i64 x.s, .int .i64 x.l]] ++ #[] : Array Value) = #[.agg #[.int .u32 x.t.a, .int .u32 x.t.b, .int .u16 x.t.c, .int .u16 x.t.d, .int .i64 x.s, .int .i64 x.l]] from rfl]
  exact wrong_any x w
theorem enters_wrong : ∀ args w, (callFunc 65 args).run Try.prog w = .ok (.enter 65 args) w := enters_of Try.func65 (by kernel_rfl) rfl
theorem enters_pairs : ∀ args w, (callFunc 91 args).run Try.prog w = .ok (.enter 91 args) w := enters_of Try.func91 (by kernel_rfl) rfl
def lessC (p : Co × Co) : Bool := decide (cmpT p.1.t p.2.t < 0)
def rightC (xs : List Co) : Bool := decide (xs.length ≤ 32) && !xs.any wrongC && (pairsC xs).all lessC
set_option maxRecDepth 100000 in
set_option maxHeartbeats 4000000 in
theorem right_any (p : Option Addr) (xs : List Co) (c : Nat) (w : World) (hs : SlC w p xs) (hl : xs.length ≤ 1000) :
    Calls Try.prog 26 #[.slice p xs.length c] w fun e w' => e = .returned (.bool (rightC xs)) ∧ Ext w w' := by
  have HCF := Lib.hid (fun W (hE : Ext w W) => containsFunc_C 65 #[] enters_wrong wrongC p xs c W (hs.ext hE) hl (fun x W' _ _ => wrong_cl x W'))
  refine (callsIn_wide (n := 5)).1 ?_
  refine callsIn_of_wp_marks Try.func26 rfl trivial ?_ rfl
  simp only [Try.ntmps26, List.size_toArray, List.length_cons, List.length_nil, Nat.reduceAdd, Nat.reduceSub, Array.replicate_succ, Array.replicate_zero, List.push_toArray, List.append_toArray, List.nil_append, List.cons_append]
  refine wpIn_wide.2 ?_
  go_wp2
  refine wp_scope_fwd 0 rfl ?_
  cases h1 : decide (32 < (xs.length : Int))
  · have hle : decide (xs.length ≤ 32) = true := by have := of_decide_eq_false h1; exact decide_eq_true (by omega)
    cases h2 : xs.any wrongC
    · have HRC := Lib.hid (show rightC xs = (pairsC xs).all lessC by unfold rightC; rw [hle, h2]; rfl)
      rw [h2] at HCF
      clear h2 hle
      go_wp2_with (first | (go_at_call 66; (with_reducible refine (HCF.out _ (Ext.rf _)).mono ?_); rintro e w1 ⟨rfl, g1⟩) | (go_at_call 67; (with_reducible refine (pairs_C_any _ _ _ _).mono ?_); rintro e w2 ⟨rfl, rfl⟩))
      obtain ⟨W2, hW⟩ : ∃ W2, w1.alloc (.cells #[.slice p xs.length c] 22) = W2 := ⟨_, rfl⟩
      have g2 : Ext w1 W2 := by rw [← hW]; exact Ext.al (Ext.rf _) _
      have hcl : W2.cell? ⟨w1.heap.size, 0, none⟩ = some (.slice p xs.length c) := by rw [← hW, cell_rowD, rowD_new]; rfl
      have hlb : Lt w1.heap.size W2 := by rw [← hW]; simp [Lt]
      have hs1 := hs.ext g1
      rw [hW]
      clear hW HCF
      refine (wpIn_wide (n := 5)).1 ?_
      refine wpIn_range rfl (by omega) (gf := 91) (lb := #[.pointer (some ⟨w1.heap.size, 0, none⟩)]) rfl trivial enters_pairs
        (pairs_C_iter _ xs p c w1 W2 w1.heap.size (fun _ => False) g2 hs1 hl hcl hlb (fun _ h => h.elim))
        (fun k h => h.elim) (fun k h => h.elim) (fun _ => rfl)
        (fun i _ => ∀ j, j < i → ∀ h : j < (pairsC xs).length, lessC (pairsC xs)[j] = true) (fun cc _ => cc = .goto 0 ∧ (pairsC xs).all lessC = false)
        (fun _ _ _ h _ => h) (fun _ _ _ h _ => h) (fun j hj => by omega)
        (fun x a' W => ∃ Bx By, W2.heap.size + 2 ≤ Bx ∧ Bx < W.heap.size ∧ W2.heap.size + 2 ≤ By ∧ By < W.heap.size ∧ rowD W Bx = #[.int .u32 x.1.t.a, .int .u32 x.1.t.b, .int .u16 x.1.t.c, .int .u16 x.1.t.d, .int .i64 x.1.s, .int .i64 x.1.l] ∧ rowD W By = #[.int .u32 x.2.t.a, .int .u32 x.2.t.b, .int .u16 x.2.t.c, .int .u16 x.2.t.d, .int .i64 x.2.s, .int .i64 x.2.l] ∧ a' = { tmps := #[.slice p xs.length c, undef, .bool false, .func (.func 65) #[] #[], .pointer (some ⟨Bx, 0, none⟩), .pointer (some ⟨By, 0, none⟩), .slice p xs.length c, .int .i64 xs.length, .bool false, .bool false, .slice p xs.length c, .func (.func 65) #[] #[], .bool false, .bool false, .slice p xs.length c, .func (.func 91) #[] #[.pointer (some ⟨w1.heap.size, 0, none⟩)], .agg #[.int .u32 x.1.t.a, .int .u32 x.1.t.b, .int .u16 x.1.t.c, .int .u16 x.1.t.d, .int .i64 x.1.s, .int .i64 x.1.l], .agg #[.int .u32 x.2.t.a, .int .u32 x.2.t.b, .int .u16 x.2.t.c, .int .u16 x.2.t.d, .int .i64 x.2.s, .int .i64 x.2.l], undef, undef, undef, undef, undef, undef], defers := [] })
        (fun x a' A B h hm => by
          obtain ⟨Bx, By, q1, q2, q3, q4, q5, q6, q7⟩ := h
          exact ⟨Bx, By, q1, Nat.lt_of_lt_of_le q2 hm.size, q3, Nat.lt_of_lt_of_le q4 hm.size, by rw [rowD_same (hm.same Bx q2 (by omega))]; exact q5, by rw [rowD_same (hm.same By q4 (by omega))]; exact q6, q7⟩)
        ?assign ?body ?done ?stop
      case assign =>
        intro y i x W K hsz hv hI hx hK
        gi_wp2
        repeat (rw [Oper.semAt_some _ _ _ (by intro c h; cases h)]; go_simp; gi_wp2)
        refine hK _ _ ?_ hI ⟨W.heap.size, W.heap.size + 1, hsz, ?_, by omega, ?_, ?_, ?_, rfl⟩
        · exact Mv.al _ (Mv.al _ (Mv.refl _ _))
        · simp; omega
        · simp
        · simp [go_sem]
        · simp [go_sem]
      case body =>
        rintro y i x a' W hyl ⟨rr, hr⟩ hsz hv hI hx ⟨Bx, By, q1, q2, q3, q4, q5, q6, rfl⟩
        have hil : i < (pairsC xs).length := (List.getElem?_eq_some_iff.1 hx).1
        have hxi : (pairsC xs)[i] = x := (List.getElem?_eq_some_iff.1 hx).2
        have c0 : W.cell? ⟨Bx, 0, none⟩ = some (.int .u32 x.1.t.a) := by rw [cell_rowD, q5]; rfl
        have c1 : W.cell? ⟨Bx, 1, none⟩ = some (.int .u32 x.1.t.b) := by rw [cell_rowD, q5]; rfl
        have c2 : W.cell? ⟨Bx, 2, none⟩ = some (.int .u16 x.1.t.c) := by rw [cell_rowD, q5]; rfl
        have c3 : W.cell? ⟨Bx, 3, none⟩ = some (.int .u16 x.1.t.d) := by rw [cell_rowD, q5]; rfl
        have d0 : W.cell? ⟨By, 0, none⟩ = some (.int .u32 x.2.t.a) := by rw [cell_rowD, q6]; rfl
        have d1 : W.cell? ⟨By, 1, none⟩ = some (.int .u32 x.2.t.b) := by rw [cell_rowD, q6]; rfl
        have d2 : W.cell? ⟨By, 2, none⟩ = some (.int .u16 x.2.t.c) := by rw [cell_rowD, q6]; rfl
        have d3 : W.cell? ⟨By, 3, none⟩ = some (.int .u16 x.2.t.d) := by rw [cell_rowD, q6]; rfl
        have HI := Lib.hid hI
        have HXI := Lib.hid hxi
        clear hI hxi hx hr q5 q6 hv
        cases hq : decide (0 ≤ cmpT x.1.t x.2.t)
        · have hlt := of_decide_eq_false hq
          have HLS := Lib.hid (show lessC x = true from decide_eq_true (by omega))
          gi_wp2
          repeat (rw [Oper.semAt_some _ _ _ (by intro c h; cases h)]; go_simp; gi_wp2)
          refine ⟨trivial, CallsIn.mono (CallsIn.inRound y (callsIn_wide.2 (cmp_any x.1.t x.2.t _))) ?_⟩
          rintro e w6 ⟨rfl, hb⟩
          gi_wp2
          repeat (rw [Oper.semAt_some _ _ _ (by intro c h; cases h)]; go_simp; gi_wp2)
          exact ⟨(Mv.of_ext hb), fun j hj hjl => by
            rcases Nat.lt_or_ge j i with h | h
            · exact HI.out j h hjl
            · obtain rfl : j = i := by omega
              rw [HXI.out]; exact HLS.out⟩
        · have hge := of_decide_eq_true hq
          have HLS := Lib.hid (show lessC x = false from decide_eq_false (by omega))
          gi_wp2
          repeat (rw [Oper.semAt_some _ _ _ (by intro c h; cases h)]; go_simp; gi_wp2)
          refine ⟨trivial, CallsIn.mono (CallsIn.inRound y (callsIn_wide.2 (cmp_any x.1.t x.2.t _))) ?_⟩
          rintro e w6 ⟨rfl, hb⟩
          gi_wp2
          repeat (rw [Oper.semAt_some _ _ _ (by intro c h; cases h)]; go_simp; gi_wp2)
          refine wpIn_goto ?_
          exact ⟨Mv.of_ext hb, rfl, List.all_eq_false.2 ⟨x, by rw [← HXI.out]; exact List.getElem_mem hil, by rw [HLS.out]; decide⟩⟩
      case done =>
        rintro W hI hv hK
        have HRT := Lib.hid (show rightC xs = true by rw [HRC.out]; exact List.all_eq_true.2 fun z hz => by obtain ⟨j, hj, rfl⟩ := List.mem_iff_getElem.1 hz; exact hI j hj hj)
        clear hI
        go_wp2
        simp only [Exit.jump]
        refine ⟨by simp, .inl ⟨_, _, rfl, run_takeDeferred hK, ?_⟩⟩
        refine ⟨_, results_tmp rfl _ _ _, by rw [HRT.out]; rfl, ?_⟩
        have hE2 : Ext w W := Mv.ext_of (g1.tr g2) hv (fun k h => by rcases h with h | h <;> exact h.elim)
        exact Mv.ext_of hE2 (Mv.put (C := fun k => k = W2.heap.size) _ _ _ rfl) (fun k h => by have := g1.size; have := g2.size; omega)
      case stop =>
        rintro cc W ⟨rfl, hn⟩ hv hK
        have HRF := Lib.hid (show rightC xs = false by rw [HRC.out]; exact hn)
        clear hn
        refine wpIn_goto ?_
        simp only [Exit.inBlock, Exit.then, Exit.jump]
        refine ⟨rfl, ?_⟩
        go_wp2
        rw [Exit.noGoto_ret]
        refine ⟨by simp, .inl ⟨_, _, rfl, run_takeDeferred hK, ?_⟩⟩
        refine ⟨_, results_tmp rfl _ _ _, by rw [HRF.out]; rfl, ?_⟩
        have hE2 : Ext w W := Mv.ext_of (g1.tr g2) hv (fun k h => by rcases h with h | h <;> exact h.elim)
        exact Mv.ext_of hE2 (Mv.put (C := fun k => k = W2.heap.size) _ _ _ rfl) (fun k h => by have := g1.size; have := g2.size; omega)
    · have HRC := Lib.hid (show rightC xs = false by unfold rightC; rw [h2]; simp)
      rw [h2] at HCF
      go_wp2_with (go_at_call 66; (with_reducible refine (HCF.out _ (Ext.rf _)).mono ?_); rintro e w1 ⟨rfl, g1⟩)
      go_step3
      refine ⟨rfl, ?_⟩
      go_wp2
      rw [Exit.noGoto_ret]
      exact ⟨_, results_tmp rfl _ _ _, by rw [HRC.out]; rfl, g1⟩
  · have HRC := Lib.hid (show rightC xs = false by unfold rightC; rw [show decide (xs.length ≤ 32) = false from decide_eq_false (by have := of_decide_eq_true h1; omega)]; rfl)
    go_wp2
    go_step3
    refine ⟨rfl, ?_⟩
    go_wp2
    rw [Exit.noGoto_ret]
    exact ⟨_, results_tmp rfl _ _ _, by rw [HRC.out]; rfl, Ext.rf _⟩

end Go.Proofs.Ytookffaojlkfaaa

/- Slices of connections and holders of one's own: Clone. -/
namespace Go.Proofs.Ytookffaojlkfaaa
open Go.RowKit

def Co.cl (x : Co) : List Value := [.int .u32 x.t.a, .int .u32 x.t.b, .int .u16 x.t.c, .int .u16 x.t.d, .int .i64 x.s, .int .i64 x.l]
def flC (xs : List Co) : List Value := xs.flatMap Co.cl
theorem flC_len : ∀ xs : List Co, (flC xs).length = xs.length * 6
  | [] => rfl
  | x :: xs => by
    show (Co.cl x ++ flC xs).length = _
    rw [List.length_append, flC_len xs, List.length_cons]
    show 6 + _ = _
    omega
theorem flC_get : ∀ (xs : List Co) (k j : Nat) (hk : k < xs.length), j < 6 → (flC xs)[k * 6 + j]? = (xs[k]).cl[j]?
  | x :: xs, 0, j, _, hj => by
    show (Co.cl x ++ flC xs)[0 * 6 + j]? = _
    rw [Nat.zero_mul, Nat.zero_add, List.getElem?_append_left (by show j < 6; exact hj)]; rfl
  | x :: xs, k + 1, j, hk, hj => by
    show (Co.cl x ++ flC xs)[(k + 1) * 6 + j]? = _
    have hc : (Co.cl x).length = 6 := rfl
    rw [List.getElem?_append_right (by omega), hc, show (k + 1) * 6 + j - 6 = k * 6 + j by omega]
    exact flC_get xs k j (by simpa using hk) hj
theorem flC_snoc (xs : List Co) (x : Co) : flC (xs ++ [x]) = flC xs ++ x.cl := by unfold flC; simp
theorem flC_one (xs : List Co) : ∀ u ∈ flC xs, u.oneCell' = true := by
  intro u hu
  unfold flC at hu
  rw [List.mem_flatMap] at hu
  obtain ⟨x, _, hx⟩ := hu
  unfold Co.cl at hx
  simp only [List.mem_cons, List.not_mem_nil, or_false] at hx
  rcases hx with rfl | rfl | rfl | rfl | rfl | rfl <;> rfl
theorem info_C : (Try.prog.info? 43).map (fun i => (i.zero, i.size, i.bytes)) = some (some (.agg #[.int .u32 0, .int .u32 0, .int .u16 0, .int .u16 0, .int .i64 0, .int .i64 0]), 6, 32) := by kernel_rfl
theorem SlC.own {w : World} {base : Nat} {v : Value} {xs : List Co} (h : w.ownsRow base 43 6 v xs.length (flC xs)) : ∃ p c, v = .slice p xs.length c ∧ xs.length ≤ c ∧ SlC w p xs := by
  rcases h.2 with ⟨rfl, h0⟩ | ⟨g, cap, cur, rfl, hg, hgb, h1, h2, h3, h4⟩
  · have : xs = [] := List.length_eq_zero_iff.1 h0
    subst this
    exact ⟨none, 0, rfl, Nat.le_refl _, SlC.nil _ _⟩
  · refine ⟨some ⟨g, 0, none⟩, cap, rfl, h1, fun k hk => ?_⟩
    have key : ∀ j, j < 6 → w.cell? ⟨g, 0 + k * 6 + j, none⟩ = (xs[k]).cl[j]? := fun j hj => by
      rw [← flC_get xs k j hk hj, ← h4, List.getElem?_take_of_lt (by have := flC_len xs; omega)]
      simp only [World.cell?, hgb]
      simp
    exact ⟨g, 0, rfl, (Array.getElem?_eq_some_iff.1 hgb).1, key 0 (by omega), key 1 (by omega), key 2 (by omega), key 3 (by omega), key 4 (by omega), key 5 (by omega)⟩
set_option maxRecDepth 20000 in
set_option maxHeartbeats 2000000 in
theorem clone_C (p : Option Addr) (xs : List Co) (c : Nat) (w : World) (hs : SlC w p xs) (hl : xs.length ≤ 1000) :
    Calls Try.prog 52 #[.slice p xs.length c] w fun e w' => ∃ v, e = .returned v ∧ w'.ownsRow w.heap.size 43 6 v xs.length (flC xs) ∧ Ext w w' := by
  obtain ⟨i0, hi, hz0, hz1, hz2⟩ := info_parts info_C
  have hnil := fun (W : World) (a : Option Addr) (n c : Nat) => Lib.run_eql_slice_nil (P := Try.prog) W 22 43 a n c 0 0 Try.underlying22
  cases p with
  | none =>
    have h0 : xs = [] := by
      cases xs with
      | nil => rfl
      | cons m r => obtain ⟨b, off, h, _⟩ := hs 0 (by simp); cases h
    subst h0
    go_enter Try.func52, Try.ntmps52
    go_wp2
    go_ret
    exact ⟨_, rfl, World.ownsRow_nil _ _ _ _, Ext.rf _⟩
  | some a =>
    have own0 : (w.alloc (.cells #[] 43)).ownsRow w.heap.size 43 6 (.slice (some ⟨w.heap.size, 0, none⟩) 0 0) 0 [] := ⟨rfl, .inr ⟨w.heap.size, 0, #[], rfl, Nat.le_refl _, World.alloc_heap_new _ _, Nat.le_refl _, by unfold maxLen; omega, rfl, rfl⟩⟩
    have hnews : ∀ j u, (flC xs)[j]? = some u → (w.alloc (.cells #[] 43)).cell? (a.add j) = some u := by
      intro j u hu
      have hj : j < xs.length * 6 := by have := (List.getElem?_eq_some_iff.1 hu).1; rwa [flC_len] at this
      have hk : j / 6 < xs.length := by omega
      obtain ⟨b, off, h, hb, c0, c1, c2, c3, c4, c5⟩ := hs (j / 6) hk
      cases h
      have e : (⟨b, off, none⟩ : Addr).add j = ⟨b, off + j, none⟩ := by unfold Addr.add; split <;> simp_all
      have hg := flC_get xs (j / 6) (j % 6) hk (Nat.mod_lt _ (by omega))
      rw [show j / 6 * 6 + j % 6 = j by omega] at hg
      rw [e, World.cell?_alloc_past _ _ _ hb, ← hu, hg]
      have hm : j % 6 < 6 := Nat.mod_lt _ (by omega)
      generalize hq : j / 6 = q at *
      generalize hr : j % 6 = r at *
      have hjq : j = q * 6 + r := by omega
      subst hjq
      obtain rfl | rfl | rfl | rfl | rfl | rfl : r = 0 ∨ r = 1 ∨ r = 2 ∨ r = 3 ∨ r = 4 ∨ r = 5 := by omega
      · exact c0
      · exact c1
      · exact c2
      · exact c3
      · exact c4
      · exact c5
    have HN := Lib.hid hnews
    have HO := Lib.hid own0
    clear hnews own0 hs
    go_enter Try.func52, Try.ntmps52
    go_wp2_with (at_builtin; refine wpList_append_own _ rfl _ _ 22 rfl w.heap.size 43 i0 (.agg #[.int .u32 0, .int .u32 0, .int .u16 0, .int .u16 0, .int .i64 0, .int .i64 0]) 6 32 Try.underlying22 hi hz0 hz1 hz2 rfl (by decide) _ _ _ rfl HO.out a xs.length c (flC xs) rfl (by simp [flC_len]) HN.out (flC_one xs) (by unfold maxLen; omega) (by omega) (by simp) ?_; intro v' w2 hown' hgrow _; have HOW := Lib.hid hown'; have HG := Lib.hid hgrow; clear hown' hgrow)
    go_ret
    refine ⟨v', rfl, ?_, ?_⟩
    · have := HOW.out; rw [Nat.zero_add, List.nil_append] at this; exact this
    · exact Mv.ext (C := fun k => k = w.heap.size) ((Mv.al _ (Mv.refl _ _)).trans (Mv.of_grown HG.out fun r e => .inl (by have e' : some w.heap.size = some r := e; injection e' with h; exact h.symm))) (fun k hk e => by omega)

end Go.Proofs.Ytookffaojlkfaaa

/- Connections: parted. -/
namespace Go.Proofs.Ytookffaojlkfaaa
open Go.RowKit

/-- A row of one's own stays where another grows. -/
theorem own_keep {A B : World} {row : Option Nat} {base : Nat} {e : TypeId} {size : Nat} {v : Value} {n : Nat} {xs : List Value} (h : A.ownsRow base e size v n xs) (hg : A.grownBy B row) (hne : ∀ g, v.ownBlock = some g → row ≠ some g) : B.ownsRow base e size v n xs := by
  refine ⟨h.1, ?_⟩
  rcases h.2 with h | ⟨g, cap, cur, rfl, hb, hgb, h1, h2, h3, h4⟩
  · exact .inl h
  · have hm : Mv (fun k => row = some k) A B := Mv.of_grown hg fun r e => .inl e
    exact .inr ⟨g, cap, cur, rfl, hb, (hm.same g (Array.getElem?_eq_some_iff.1 hgb).1 (hne g rfl)).trans hgb, h1, h2, h3, h4⟩
theorem own_ext {A B : World} {base : Nat} {e : TypeId} {size : Nat} {v : Value} {n : Nat} {xs : List Value} (h : A.ownsRow base e size v n xs) (he : Ext A B) : B.ownsRow base e size v n xs :=
  ownsRow_mv (C := fun _ => False) h (Mv.of_ext he) (fun _ _ h => h)
theorem own_lt {A : World} {base : Nat} {e : TypeId} {size : Nat} {v : Value} {n : Nat} {xs : List Value} (h : A.ownsRow base e size v n xs) : ∀ g, v.ownBlock = some g → g < A.heap.size := by
  intro g hg
  rcases h.2 with ⟨rfl, _⟩ | ⟨b, cap, cur, rfl, hb, hgb, _⟩
  · cases hg
  · have e : b = g := by simpa [Value.ownBlock] using hg
    subst e
    exact (Array.getElem?_eq_some_iff.1 hgb).1
theorem co_one (x : Co) : ∀ u ∈ x.cl, u.oneCell' = true := by
  intro u hu
  unfold Co.cl at hu
  simp only [List.mem_cons, List.not_mem_nil, or_false] at hu
  rcases hu with rfl | rfl | rfl | rfl | rfl | rfl <;> rfl
theorem cell_co_new (W : World) (x : Co) (t : TypeId) : ∀ j u, x.cl[j]? = some u → (W.alloc (.cells #[.int .u32 x.t.a, .int .u32 x.t.b, .int .u16 x.t.c, .int .u16 x.t.d, .int .i64 x.s, .int .i64 x.l] t)).cell? ((⟨W.heap.size, 0, none⟩ : Addr).add j) = some u := by
  intro j u hu
  have hj : j < 6 := (List.getElem?_eq_some_iff.1 hu).1
  have e : (⟨W.heap.size, 0, none⟩ : Addr).add j = ⟨W.heap.size, j, none⟩ := by unfold Addr.add; split <;> simp_all
  rw [e, cell_rowD, rowD_new, ← hu]
  obtain rfl | rfl | rfl | rfl | rfl | rfl : j = 0 ∨ j = 1 ∨ j = 2 ∨ j = 3 ∨ j = 4 ∨ j = 5 := by omega
  all_goals rfl
def yesN (so : Co → Bool) (xs : List Co) (k : Nat) : List Co := (xs.take k).filter so
def noN (so : Co → Bool) (xs : List Co) (k : Nat) : List Co := (xs.take k).filter fun x => !so x
theorem yesN_yes (so : Co → Bool) (xs : List Co) (k : Nat) (x : Co) (h : k < xs.length) (hx : xs[k] = x) (hs : so x = true) : yesN so xs (k + 1) = yesN so xs k ++ [x] ∧ noN so xs (k + 1) = noN so xs k := by
  unfold yesN noN
  rw [List.take_succ_eq_append_getElem h, List.filter_append, List.filter_append, hx]
  simp [hs]
theorem yesN_no (so : Co → Bool) (xs : List Co) (k : Nat) (x : Co) (h : k < xs.length) (hx : xs[k] = x) (hs : so x = false) : yesN so xs (k + 1) = yesN so xs k ∧ noN so xs (k + 1) = noN so xs k ++ [x] := by
  unfold yesN noN
  rw [List.take_succ_eq_append_getElem h, List.filter_append, List.filter_append, hx]
  simp [hs]
theorem yesN_len (so : Co → Bool) (xs : List Co) (k : Nat) : (yesN so xs k).length ≤ xs.length ∧ (noN so xs k).length ≤ xs.length := by
  unfold yesN noN
  exact ⟨Nat.le_trans (List.length_filter_le _ _) (List.length_take_le' _ _), Nat.le_trans (List.length_filter_le _ _) (List.length_take_le' _ _)⟩
/-- Two rows of one's own, apart. -/
def TwoC (base : Nat) (w : World) (v1 v2 : Value) (l1 l2 : List Co) : Prop :=
  w.ownsRow base 43 6 v1 l1.length (flC l1) ∧ w.ownsRow base 43 6 v2 l2.length (flC l2) ∧ ∀ g, v1.ownBlock = some g → v2.ownBlock ≠ some g
set_option maxRecDepth 20000 in
set_option maxHeartbeats 4000000 in
theorem parted_any (g : Nat) (lb : Array Value) (eg : ∀ args w, (callFunc g args).run Try.prog w = .ok (.enter g args) w) (so : Co → Bool) (p : Option Addr) (xs : List Co) (c : Nat) (w : World)
    (hs : SlC w p xs) (hl : xs.length ≤ 1000) (hf : ∀ x W, x ∈ xs → Ext w W → Calls Try.prog g (#[.agg #[.int .u32 x.t.a, .int .u32 x.t.b, .int .u16 x.t.c, .int .u16 x.t.d, .int .i64 x.s, .int .i64 x.l]] ++ lb) W fun e w' => e = .returned (.bool (so x)) ∧ Ext W w') :
    Calls Try.prog 59 #[.slice p xs.length c, .func (.func g) #[] lb] w fun e w' => ∃ v1 v2, e = .returned (.tuple #[v1, v2]) ∧ TwoC w.heap.size w' v1 v2 (xs.filter so) (xs.filter fun x => !so x) ∧ Ext w w' := by
  obtain ⟨i0, hi, hz0, hz1, hz2⟩ := info_parts info_C
  have HF := Lib.hid hf
  clear hf
  go_enter Try.func59, Try.ntmps59
  go_wp2
  go_loopw [4, 5, 7, 10] (fun vy vn _ a wr => ∃ k : Nat, k ≤ xs.length ∧ a = .int .i64 k ∧ TwoC w.heap.size wr vy vn (yesN so xs k) (noN so xs k) ∧ Ext w wr) (fun _ _ _ a _ => xs.length - (intOf a).toNat)
  case atStart => exact ⟨0, Nat.zero_le _, rfl, ⟨World.ownsRow_nil _ _ _ _, World.ownsRow_nil _ _ _ _, fun g h => by cases h⟩, Ext.rf _⟩
  case round =>
    obtain ⟨k, hk, rfl, ⟨hy, hn, hd⟩, hE⟩ := hrel
    by_cases hlt : k < xs.length
    · have hil : (k : Int) < xs.length := by omega
      obtain ⟨b, off, rfl, hb, c0, c1, c2, c3, c4, c5⟩ := (hs.ext hE) k hlt
      have lbb : Lt b wr := hb
      obtain ⟨x, hx⟩ : ∃ x, xs[k] = x := ⟨_, rfl⟩
      have hmem : x ∈ xs := by rw [← hx]; exact List.getElem_mem hlt
      rw [hx] at c0 c1 c2 c3 c4 c5
      have HY := Lib.hid hy
      have HN := Lib.hid hn
      have HD := Lib.hid hd
      have hlen := yesN_len so xs k
      clear hy hn hd
      go_upto_region 4 with (fail)
      obtain ⟨W1, hW⟩ : ∃ W1, wr.alloc (.cells #[.int .u32 x.t.a, .int .u32 x.t.b, .int .u16 x.t.c, .int .u16 x.t.d, .int .i64 x.s, .int .i64 x.l] 43) = W1 := ⟨_, rfl⟩
      have g1 : Ext wr W1 := by rw [← hW]; exact Ext.al (Ext.rf _) _
      have rx : rowD W1 wr.heap.size = #[.int .u32 x.t.a, .int .u32 x.t.b, .int .u16 x.t.c, .int .u16 x.t.d, .int .i64 x.s, .int .i64 x.l] := by rw [← hW]; simp [go_sem]
      have lx : Lt wr.heap.size W1 := by rw [← hW]; simp [Lt]
      rw [hW]
      have hbw := hE.size
      clear hW c0 c1 c2 c3 c4 c5 lbb hb
      generalize wr.heap.size = BX at *
      have x0 : W1.cell? ⟨BX, 0, none⟩ = some (.int .u32 x.t.a) := by rw [cell_rowD, rx]; rfl
      have x1 : W1.cell? ⟨BX, 1, none⟩ = some (.int .u32 x.t.b) := by rw [cell_rowD, rx]; rfl
      have x2 : W1.cell? ⟨BX, 2, none⟩ = some (.int .u16 x.t.c) := by rw [cell_rowD, rx]; rfl
      have x3 : W1.cell? ⟨BX, 3, none⟩ = some (.int .u16 x.t.d) := by rw [cell_rowD, rx]; rfl
      have x4 : W1.cell? ⟨BX, 4, none⟩ = some (.int .i64 x.s) := by rw [cell_rowD, rx]; rfl
      have x5 : W1.cell? ⟨BX, 5, none⟩ = some (.int .i64 x.l) := by rw [cell_rowD, rx]; rfl
      have hE1 := hE.tr g1
      have HC := HF.out x W1 hmem hE1
      clear rx
      cases hso : so x
      · rw [hso] at HC
        have HCC := Lib.hid HC
        obtain ⟨n1, n2⟩ := yesN_no so xs k x hlt hx hso
        have HN1 := Lib.hid n1
        have HN2 := Lib.hid n2
        clear HC n1 n2 hx hso hmem
        go_wp2_with (first | (at_builtin; go_must (refine wpList_append_own_at _ rfl _ _ 22 rfl w.heap.size 43 i0 (.agg #[.int .u32 0, .int .u32 0, .int .u16 0, .int .u16 0, .int .i64 0, .int .i64 0]) 6 32 Try.underlying22 hi hz0 hz1 hz2 rfl (by decide) u5 _ _ rfl (HON.out.alloc _) ⟨W2.heap.size, 0, none⟩ 1 1 x.cl rfl rfl (cell_co_new _ _ _) (co_one x) (by unfold maxLen; omega) (by omega) (by simp; omega) ?_); intro v' w3 hown' hgrow _ hat; have HOW := Lib.hid hown'; have HG := Lib.hid hgrow; have HAT := Lib.hid hat; clear hown' hgrow hat) | ((with_reducible refine (HCC.out).mono ?_); rintro e W2 ⟨rfl, g2⟩; obtain ⟨hc2, hf2, hl2, hz2', -⟩ := kept g2; (try simp at hz2'); have HOY := Lib.hid (own_ext HY.out (g1.tr g2)); have HON := Lib.hid (own_ext HN.out (g1.tr g2)); have hsz2 := (hE1.tr g2).size))
        go_roundw
        case rel =>
          have gX : Ext w (W2.alloc (.cells #[.int .u32 x.t.a, .int .u32 x.t.b, .int .u16 x.t.c, .int .u16 x.t.d, .int .i64 x.s, .int .i64 x.l] 43)) := Ext.al (hE1.tr g2) _
          refine ⟨k + 1, by omega, by go_num, ⟨?_, ?_, ?_⟩, ?_⟩
          · rw [HN1.out]; exact own_keep (HOY.out.alloc _) HG.out (fun g h e => HD.out g h e)
          · rw [HN2.out, List.length_append, flC_snoc]; exact HOW.out
          · intro gg hg1 hg2
            have b1 := own_lt HOY.out
            have b2 := own_lt HON.out
            rcases HAT.out with e | e
            · exact HD.out gg hg1 (e ▸ hg2)
            · have := b1 gg hg1; rw [hg2] at e; simp at e; omega
          · exact Mv.ext_of gX (Mv.of_grown (C := fun k => w.heap.size ≤ k) HG.out fun r e => .inl (ownBlock_ge HON.out r e)) (fun k h => h)
        case measure => simp [intOf]; omega
      · rw [hso] at HC
        have HCC := Lib.hid HC
        obtain ⟨n1, n2⟩ := yesN_yes so xs k x hlt hx hso
        have HN1 := Lib.hid n1
        have HN2 := Lib.hid n2
        clear HC n1 n2 hx hso hmem
        go_wp2_with (first | (at_builtin; go_must (refine wpList_append_own_at _ rfl _ _ 22 rfl w.heap.size 43 i0 (.agg #[.int .u32 0, .int .u32 0, .int .u16 0, .int .u16 0, .int .i64 0, .int .i64 0]) 6 32 Try.underlying22 hi hz0 hz1 hz2 rfl (by decide) u4 _ _ rfl (HOY.out.alloc _) ⟨W2.heap.size, 0, none⟩ 1 1 x.cl rfl rfl (cell_co_new _ _ _) (co_one x) (by unfold maxLen; omega) (by omega) (by simp; omega) ?_); intro v' w3 hown' hgrow _ hat; have HOW := Lib.hid hown'; have HG := Lib.hid hgrow; have HAT := Lib.hid hat; clear hown' hgrow hat) | ((with_reducible refine (HCC.out).mono ?_); rintro e W2 ⟨rfl, g2⟩; obtain ⟨hc2, hf2, hl2, hz2', -⟩ := kept g2; (try simp at hz2'); have HOY := Lib.hid (own_ext HY.out (g1.tr g2)); have HON := Lib.hid (own_ext HN.out (g1.tr g2)); have hsz2 := (hE1.tr g2).size))
        go_roundw
        case rel =>
          have gX : Ext w (W2.alloc (.cells #[.int .u32 x.t.a, .int .u32 x.t.b, .int .u16 x.t.c, .int .u16 x.t.d, .int .i64 x.s, .int .i64 x.l] 43)) := Ext.al (hE1.tr g2) _
          refine ⟨k + 1, by omega, by go_num, ⟨?_, ?_, ?_⟩, ?_⟩
          · rw [HN1.out, List.length_append, flC_snoc]; exact HOW.out
          · rw [HN2.out]; exact own_keep (HON.out.alloc _) HG.out (fun g h e => HD.out g e h)
          · intro gg hg1 hg2
            have b1 := own_lt HOY.out
            have b2 := own_lt HON.out
            rcases HAT.out with e | e
            · exact HD.out gg (e ▸ hg1) hg2
            · have := b2 gg hg2; rw [hg1] at e; simp at e; omega
          · exact Mv.ext_of gX (Mv.of_grown (C := fun k => w.heap.size ≤ k) HG.out fun r e => .inl (ownBlock_ge HOY.out r e)) (fun k h => h)
        case measure => simp [intOf]; omega
    · obtain rfl : k = xs.length := by omega
      have e1 : yesN so xs xs.length = xs.filter so := by unfold yesN; rw [List.take_length]
      have e2 : noN so xs xs.length = xs.filter fun x => !so x := by unfold noN; rw [List.take_length]
      rw [e1] at hy
      rw [e2] at hn
      have HY := Lib.hid hy
      have HN := Lib.hid hn
      have HD := Lib.hid hd
      clear hy hn hd
      go_wp2
      exact bodyPost_ret (v := .tuple #[u4, u5]) (by simp [results, Try.results59, go_sem]) rfl ⟨u4, u5, rfl, ⟨HY.out, HN.out, HD.out⟩, hE⟩

end Go.Proofs.Ytookffaojlkfaaa

/- Connections: Idle. -/
namespace Go.Proofs.Ytookffaojlkfaaa
open Go.RowKit

def asksB (idle now : Int) : Bool := decide (0 ≤ idle) && decide (0 ≤ now) && decide (now ≤ 1099511627776)
def idleB (idle now : Int) (x : Co) : Bool := asksB idle now && decide (x.l ≤ now - idle)
set_option maxHeartbeats 1000000 in
theorem idle1_any (x : Co) (idle now : Int) (ba bn bi : Nat) (w : World) (hi : idle ≤ 9223372036854775807) (la : Lt ba w) (ln : Lt bn w) (li : Lt bi w) (ha : w.cell? ⟨ba, 0, none⟩ = some (.bool (asksB idle now))) (hn : w.cell? ⟨bn, 0, none⟩ = some (.int .i64 now)) (hd : w.cell? ⟨bi, 0, none⟩ = some (.int .i64 idle)) :
    Calls Try.prog 60 #[.agg #[.int .u32 x.t.a, .int .u32 x.t.b, .int .u16 x.t.c, .int .u16 x.t.d, .int .i64 x.s, .int .i64 x.l], .pointer (some ⟨ba, 0, none⟩), .pointer (some ⟨bn, 0, none⟩), .pointer (some ⟨bi, 0, none⟩)] w fun e w' => e = .returned (.bool (idleB idle now x)) ∧ Ext w w' := by
  cases hq : asksB idle now
  · rw [hq] at ha
    have HV := Lib.hid (show idleB idle now x = false by unfold idleB; rw [hq]; rfl)
    clear hq
    go_enter Try.func60, Try.ntmps60
    go_wp2
    go_ret
    refine ⟨by rw [HV.out]; rfl, ?_⟩
    (repeat (first | with_reducible exact Ext.rf _ | with_reducible assumption | with_reducible refine Ext.al ?_ _ | with_reducible refine Ext.dr ?_ | with_reducible refine Ext.dn ?_ _ | ((with_reducible refine Ext.st _ ?_ ?_); focus (first | omega | (simp; omega) | simp)) | with_reducible refine Ext.tr ?_ (by assumption) | with_reducible refine Ext.tr ?_ (up_ext (by assumption)) | with_reducible refine Ext.of (by assumption) ?_))
  · rw [hq] at ha
    have HV := Lib.hid (show idleB idle now x = decide (x.l ≤ now - idle) by unfold idleB; rw [hq]; rfl)
    unfold asksB at hq
    simp only [Bool.and_eq_true, decide_eq_true_eq] at hq
    obtain ⟨⟨q1, q2⟩, q3⟩ := hq
    go_enter Try.func60, Try.ntmps60
    go_wp2
    go_ret
    refine ⟨by rw [HV.out]; rfl, ?_⟩
    (repeat (first | with_reducible exact Ext.rf _ | with_reducible assumption | with_reducible refine Ext.al ?_ _ | with_reducible refine Ext.dr ?_ | with_reducible refine Ext.dn ?_ _ | ((with_reducible refine Ext.st _ ?_ ?_); focus (first | omega | (simp; omega) | simp)) | with_reducible refine Ext.tr ?_ (by assumption) | with_reducible refine Ext.tr ?_ (up_ext (by assumption)) | with_reducible refine Ext.of (by assumption) ?_))
theorem idle1_cl (x : Co) (idle now : Int) (ba bn bi : Nat) (w : World) (hi : idle ≤ 9223372036854775807) (la : Lt ba w) (ln : Lt bn w) (li : Lt bi w) (ha : w.cell? ⟨ba, 0, none⟩ = some (.bool (asksB idle now))) (hn : w.cell? ⟨bn, 0, none⟩ = some (.int .i64 now)) (hd : w.cell? ⟨bi, 0, none⟩ = some (.int .i64 idle)) :
    Calls Try.prog 60 (#[.agg #[.int .u32 x.t.a, .int .u32 x.t.b, .int .u16 x.t.c, .int .u16 x.t.d, .int .i64 x.s, .int .i64 x.l]] ++ #[.pointer (some ⟨ba, 0, none⟩), .pointer (some ⟨bn, 0, none⟩), .pointer (some ⟨bi, 0, none⟩)]) w fun e w' => e = .returned (.bool (idleB idle now x)) ∧ Ext w w' := by
  rw [show (#[Value.agg #[.int .u32 x.t.a, .int .u32 x.t.b, .int .u16 x.t.c, .int .u16 x.t.d, .int .i64 x.s, .int .i64 x.l]] ++ #[Value.pointer (some ⟨ba, 0, none⟩), .pointer (some ⟨bn, 0, none⟩), .pointer (some ⟨bi, 0, none⟩)] : Array Value) = #[.agg #[.int .u32 x.t.a, .int .u32 x.t.b, .int .u16 x.t.c, .int .u16 x.t.d, .int .i64 x.s, .int .i64 x.l], .pointer (some ⟨ba, 0, none⟩), .pointer (some ⟨bn, 0, none⟩), .pointer (some ⟨bi, 0, none⟩)] from rfl]
  exact idle1_any x idle now ba bn bi w hi la ln li ha hn hd
theorem enters_idle : ∀ args w, (callFunc 60 args).run Try.prog w = .ok (.enter 60 args) w := enters_of Try.func60 (by kernel_rfl) rfl
set_option maxRecDepth 20000 in
set_option maxHeartbeats 2000000 in
theorem idle_any (p : Option Addr) (xs : List Co) (c : Nat) (idle now : Int) (w : World) (hs : SlC w p xs) (hl : xs.length ≤ 1000) (hi : idle ≤ 9223372036854775807) (b1 b2 b3 : Bool) (e1 : decide (0 ≤ idle) = b1) (e2 : decide (0 ≤ now) = b2) (e3 : decide (now ≤ 1099511627776) = b3) :
    Calls Try.prog 21 #[.slice p xs.length c, .int .i64 idle, .int .i64 now] w fun e w' => ∃ v1 v2, e = .returned (.tuple #[v1, v2]) ∧ TwoC w.heap.size w' v1 v2 (xs.filter (idleB idle now)) (xs.filter fun x => !idleB idle now x) ∧ Ext w w' := by
  have HA := Lib.hid (show asksB idle now = (b1 && b2 && b3) by unfold asksB; rw [e1, e2, e3])
  cases b1 <;> cases b2 <;> cases b3
  · have HAL := Lib.hid (show asksB idle now = false from HA.out)
    go_enter Try.func21, Try.ntmps21
    go_upto_region 2 with (fail)
    obtain ⟨W0, hW⟩ : ∃ W0, ((w.alloc (.cells #[.int .i64 idle] 3)).alloc (.cells #[.int .i64 now] 3)).alloc (.cells #[.bool false] 4) = W0 := ⟨_, rfl⟩
    rw [hW]
    have g0 : Ext w W0 := by rw [← hW]; exact Ext.al (Ext.al (Ext.al (Ext.rf _) _) _) _
    have ci : W0.cell? ⟨w.heap.size, 0, none⟩ = some (.int .i64 idle) := by rw [← hW]; simp [go_sem]
    have cn : W0.cell? ⟨w.heap.size + 1, 0, none⟩ = some (.int .i64 now) := by rw [← hW]; simp [go_sem]
    have ca : W0.cell? ⟨w.heap.size + 1 + 1, 0, none⟩ = some (.bool (asksB idle now)) := by rw [HAL.out, ← hW]; simp [go_sem]
    have li : Lt w.heap.size W0 := by rw [← hW]; simp [Lt]; try omega
    have ln : Lt (w.heap.size + 1) W0 := by rw [← hW]; simp [Lt]; try omega
    have la : Lt (w.heap.size + 1 + 1) W0 := by rw [← hW]; simp [Lt]; try omega
    have s0 := hs.ext g0
    have hsz : w.heap.size ≤ W0.heap.size := g0.size
    clear hW hs
    have HCL := Lib.hid (fun (x : Co) (W : World) (_ : x ∈ xs) (hE : Ext W0 W) => idle1_cl x idle now _ _ _ W hi (Nat.lt_of_lt_of_le la hE.size) (Nat.lt_of_lt_of_le ln hE.size) (Nat.lt_of_lt_of_le li hE.size) ((hE.cell (p := ⟨w.heap.size + 1 + 1, 0, none⟩) la).trans ca) ((hE.cell (p := ⟨w.heap.size + 1, 0, none⟩) ln).trans cn) ((hE.cell (p := ⟨w.heap.size, 0, none⟩) li).trans ci))
    go_wp2_with (go_at_call 59; go_must (with_reducible refine (parted_any 60 #[.pointer (some ⟨w.heap.size + 1 + 1, 0, none⟩), .pointer (some ⟨w.heap.size + 1, 0, none⟩), .pointer (some ⟨w.heap.size, 0, none⟩)] enters_idle (idleB idle now) p xs c _ s0 hl HCL.out).mono ?_); rintro e w' ⟨v1, v2, rfl, ⟨o1, o2, o3⟩, g1⟩; have O1 := Lib.hid o1; have O2 := Lib.hid o2; have O3 := Lib.hid o3; clear o1 o2 o3)
    exact bodyPost_ret (v := .tuple #[v1, v2]) (by simp [results, Try.results21, go_sem]) rfl ⟨v1, v2, rfl, ⟨ownsRow_le O1.out hsz, ownsRow_le O2.out hsz, O3.out⟩, g0.tr g1⟩
  · have HAL := Lib.hid (show asksB idle now = false from HA.out)
    go_enter Try.func21, Try.ntmps21
    go_upto_region 2 with (fail)
    obtain ⟨W0, hW⟩ : ∃ W0, ((w.alloc (.cells #[.int .i64 idle] 3)).alloc (.cells #[.int .i64 now] 3)).alloc (.cells #[.bool false] 4) = W0 := ⟨_, rfl⟩
    rw [hW]
    have g0 : Ext w W0 := by rw [← hW]; exact Ext.al (Ext.al (Ext.al (Ext.rf _) _) _) _
    have ci : W0.cell? ⟨w.heap.size, 0, none⟩ = some (.int .i64 idle) := by rw [← hW]; simp [go_sem]
    have cn : W0.cell? ⟨w.heap.size + 1, 0, none⟩ = some (.int .i64 now) := by rw [← hW]; simp [go_sem]
    have ca : W0.cell? ⟨w.heap.size + 1 + 1, 0, none⟩ = some (.bool (asksB idle now)) := by rw [HAL.out, ← hW]; simp [go_sem]
    have li : Lt w.heap.size W0 := by rw [← hW]; simp [Lt]; try omega
    have ln : Lt (w.heap.size + 1) W0 := by rw [← hW]; simp [Lt]; try omega
    have la : Lt (w.heap.size + 1 + 1) W0 := by rw [← hW]; simp [Lt]; try omega
    have s0 := hs.ext g0
    have hsz : w.heap.size ≤ W0.heap.size := g0.size
    clear hW hs
    have HCL := Lib.hid (fun (x : Co) (W : World) (_ : x ∈ xs) (hE : Ext W0 W) => idle1_cl x idle now _ _ _ W hi (Nat.lt_of_lt_of_le la hE.size) (Nat.lt_of_lt_of_le ln hE.size) (Nat.lt_of_lt_of_le li hE.size) ((hE.cell (p := ⟨w.heap.size + 1 + 1, 0, none⟩) la).trans ca) ((hE.cell (p := ⟨w.heap.size + 1, 0, none⟩) ln).trans cn) ((hE.cell (p := ⟨w.heap.size, 0, none⟩) li).trans ci))
    go_wp2_with (go_at_call 59; go_must (with_reducible refine (parted_any 60 #[.pointer (some ⟨w.heap.size + 1 + 1, 0, none⟩), .pointer (some ⟨w.heap.size + 1, 0, none⟩), .pointer (some ⟨w.heap.size, 0, none⟩)] enters_idle (idleB idle now) p xs c _ s0 hl HCL.out).mono ?_); rintro e w' ⟨v1, v2, rfl, ⟨o1, o2, o3⟩, g1⟩; have O1 := Lib.hid o1; have O2 := Lib.hid o2; have O3 := Lib.hid o3; clear o1 o2 o3)
    exact bodyPost_ret (v := .tuple #[v1, v2]) (by simp [results, Try.results21, go_sem]) rfl ⟨v1, v2, rfl, ⟨ownsRow_le O1.out hsz, ownsRow_le O2.out hsz, O3.out⟩, g0.tr g1⟩
  · have HAL := Lib.hid (show asksB idle now = false from HA.out)
    go_enter Try.func21, Try.ntmps21
    go_upto_region 2 with (fail)
    obtain ⟨W0, hW⟩ : ∃ W0, ((w.alloc (.cells #[.int .i64 idle] 3)).alloc (.cells #[.int .i64 now] 3)).alloc (.cells #[.bool false] 4) = W0 := ⟨_, rfl⟩
    rw [hW]
    have g0 : Ext w W0 := by rw [← hW]; exact Ext.al (Ext.al (Ext.al (Ext.rf _) _) _) _
    have ci : W0.cell? ⟨w.heap.size, 0, none⟩ = some (.int .i64 idle) := by rw [← hW]; simp [go_sem]
    have cn : W0.cell? ⟨w.heap.size + 1, 0, none⟩ = some (.int .i64 now) := by rw [← hW]; simp [go_sem]
    have ca : W0.cell? ⟨w.heap.size + 1 + 1, 0, none⟩ = some (.bool (asksB idle now)) := by rw [HAL.out, ← hW]; simp [go_sem]
    have li : Lt w.heap.size W0 := by rw [← hW]; simp [Lt]; try omega
    have ln : Lt (w.heap.size + 1) W0 := by rw [← hW]; simp [Lt]; try omega
    have la : Lt (w.heap.size + 1 + 1) W0 := by rw [← hW]; simp [Lt]; try omega
    have s0 := hs.ext g0
    have hsz : w.heap.size ≤ W0.heap.size := g0.size
    clear hW hs
    have HCL := Lib.hid (fun (x : Co) (W : World) (_ : x ∈ xs) (hE : Ext W0 W) => idle1_cl x idle now _ _ _ W hi (Nat.lt_of_lt_of_le la hE.size) (Nat.lt_of_lt_of_le ln hE.size) (Nat.lt_of_lt_of_le li hE.size) ((hE.cell (p := ⟨w.heap.size + 1 + 1, 0, none⟩) la).trans ca) ((hE.cell (p := ⟨w.heap.size + 1, 0, none⟩) ln).trans cn) ((hE.cell (p := ⟨w.heap.size, 0, none⟩) li).trans ci))
    go_wp2_with (go_at_call 59; go_must (with_reducible refine (parted_any 60 #[.pointer (some ⟨w.heap.size + 1 + 1, 0, none⟩), .pointer (some ⟨w.heap.size + 1, 0, none⟩), .pointer (some ⟨w.heap.size, 0, none⟩)] enters_idle (idleB idle now) p xs c _ s0 hl HCL.out).mono ?_); rintro e w' ⟨v1, v2, rfl, ⟨o1, o2, o3⟩, g1⟩; have O1 := Lib.hid o1; have O2 := Lib.hid o2; have O3 := Lib.hid o3; clear o1 o2 o3)
    exact bodyPost_ret (v := .tuple #[v1, v2]) (by simp [results, Try.results21, go_sem]) rfl ⟨v1, v2, rfl, ⟨ownsRow_le O1.out hsz, ownsRow_le O2.out hsz, O3.out⟩, g0.tr g1⟩
  · have HAL := Lib.hid (show asksB idle now = false from HA.out)
    go_enter Try.func21, Try.ntmps21
    go_upto_region 2 with (fail)
    obtain ⟨W0, hW⟩ : ∃ W0, ((w.alloc (.cells #[.int .i64 idle] 3)).alloc (.cells #[.int .i64 now] 3)).alloc (.cells #[.bool false] 4) = W0 := ⟨_, rfl⟩
    rw [hW]
    have g0 : Ext w W0 := by rw [← hW]; exact Ext.al (Ext.al (Ext.al (Ext.rf _) _) _) _
    have ci : W0.cell? ⟨w.heap.size, 0, none⟩ = some (.int .i64 idle) := by rw [← hW]; simp [go_sem]
    have cn : W0.cell? ⟨w.heap.size + 1, 0, none⟩ = some (.int .i64 now) := by rw [← hW]; simp [go_sem]
    have ca : W0.cell? ⟨w.heap.size + 1 + 1, 0, none⟩ = some (.bool (asksB idle now)) := by rw [HAL.out, ← hW]; simp [go_sem]
    have li : Lt w.heap.size W0 := by rw [← hW]; simp [Lt]; try omega
    have ln : Lt (w.heap.size + 1) W0 := by rw [← hW]; simp [Lt]; try omega
    have la : Lt (w.heap.size + 1 + 1) W0 := by rw [← hW]; simp [Lt]; try omega
    have s0 := hs.ext g0
    have hsz : w.heap.size ≤ W0.heap.size := g0.size
    clear hW hs
    have HCL := Lib.hid (fun (x : Co) (W : World) (_ : x ∈ xs) (hE : Ext W0 W) => idle1_cl x idle now _ _ _ W hi (Nat.lt_of_lt_of_le la hE.size) (Nat.lt_of_lt_of_le ln hE.size) (Nat.lt_of_lt_of_le li hE.size) ((hE.cell (p := ⟨w.heap.size + 1 + 1, 0, none⟩) la).trans ca) ((hE.cell (p := ⟨w.heap.size + 1, 0, none⟩) ln).trans cn) ((hE.cell (p := ⟨w.heap.size, 0, none⟩) li).trans ci))
    go_wp2_with (go_at_call 59; go_must (with_reducible refine (parted_any 60 #[.pointer (some ⟨w.heap.size + 1 + 1, 0, none⟩), .pointer (some ⟨w.heap.size + 1, 0, none⟩), .pointer (some ⟨w.heap.size, 0, none⟩)] enters_idle (idleB idle now) p xs c _ s0 hl HCL.out).mono ?_); rintro e w' ⟨v1, v2, rfl, ⟨o1, o2, o3⟩, g1⟩; have O1 := Lib.hid o1; have O2 := Lib.hid o2; have O3 := Lib.hid o3; clear o1 o2 o3)
    exact bodyPost_ret (v := .tuple #[v1, v2]) (by simp [results, Try.results21, go_sem]) rfl ⟨v1, v2, rfl, ⟨ownsRow_le O1.out hsz, ownsRow_le O2.out hsz, O3.out⟩, g0.tr g1⟩
  · have HAL := Lib.hid (show asksB idle now = false from HA.out)
    go_enter Try.func21, Try.ntmps21
    go_upto_region 2 with (fail)
    obtain ⟨W0, hW⟩ : ∃ W0, ((w.alloc (.cells #[.int .i64 idle] 3)).alloc (.cells #[.int .i64 now] 3)).alloc (.cells #[.bool false] 4) = W0 := ⟨_, rfl⟩
    rw [hW]
    have g0 : Ext w W0 := by rw [← hW]; exact Ext.al (Ext.al (Ext.al (Ext.rf _) _) _) _
    have ci : W0.cell? ⟨w.heap.size, 0, none⟩ = some (.int .i64 idle) := by rw [← hW]; simp [go_sem]
    have cn : W0.cell? ⟨w.heap.size + 1, 0, none⟩ = some (.int .i64 now) := by rw [← hW]; simp [go_sem]
    have ca : W0.cell? ⟨w.heap.size + 1 + 1, 0, none⟩ = some (.bool (asksB idle now)) := by rw [HAL.out, ← hW]; simp [go_sem]
    have li : Lt w.heap.size W0 := by rw [← hW]; simp [Lt]; try omega
    have ln : Lt (w.heap.size + 1) W0 := by rw [← hW]; simp [Lt]; try omega
    have la : Lt (w.heap.size + 1 + 1) W0 := by rw [← hW]; simp [Lt]; try omega
    have s0 := hs.ext g0
    have hsz : w.heap.size ≤ W0.heap.size := g0.size
    clear hW hs
    have HCL := Lib.hid (fun (x : Co) (W : World) (_ : x ∈ xs) (hE : Ext W0 W) => idle1_cl x idle now _ _ _ W hi (Nat.lt_of_lt_of_le la hE.size) (Nat.lt_of_lt_of_le ln hE.size) (Nat.lt_of_lt_of_le li hE.size) ((hE.cell (p := ⟨w.heap.size + 1 + 1, 0, none⟩) la).trans ca) ((hE.cell (p := ⟨w.heap.size + 1, 0, none⟩) ln).trans cn) ((hE.cell (p := ⟨w.heap.size, 0, none⟩) li).trans ci))
    go_wp2_with (go_at_call 59; go_must (with_reducible refine (parted_any 60 #[.pointer (some ⟨w.heap.size + 1 + 1, 0, none⟩), .pointer (some ⟨w.heap.size + 1, 0, none⟩), .pointer (some ⟨w.heap.size, 0, none⟩)] enters_idle (idleB idle now) p xs c _ s0 hl HCL.out).mono ?_); rintro e w' ⟨v1, v2, rfl, ⟨o1, o2, o3⟩, g1⟩; have O1 := Lib.hid o1; have O2 := Lib.hid o2; have O3 := Lib.hid o3; clear o1 o2 o3)
    exact bodyPost_ret (v := .tuple #[v1, v2]) (by simp [results, Try.results21, go_sem]) rfl ⟨v1, v2, rfl, ⟨ownsRow_le O1.out hsz, ownsRow_le O2.out hsz, O3.out⟩, g0.tr g1⟩
  · have HAL := Lib.hid (show asksB idle now = false from HA.out)
    go_enter Try.func21, Try.ntmps21
    go_upto_region 2 with (fail)
    obtain ⟨W0, hW⟩ : ∃ W0, ((w.alloc (.cells #[.int .i64 idle] 3)).alloc (.cells #[.int .i64 now] 3)).alloc (.cells #[.bool false] 4) = W0 := ⟨_, rfl⟩
    rw [hW]
    have g0 : Ext w W0 := by rw [← hW]; exact Ext.al (Ext.al (Ext.al (Ext.rf _) _) _) _
    have ci : W0.cell? ⟨w.heap.size, 0, none⟩ = some (.int .i64 idle) := by rw [← hW]; simp [go_sem]
    have cn : W0.cell? ⟨w.heap.size + 1, 0, none⟩ = some (.int .i64 now) := by rw [← hW]; simp [go_sem]
    have ca : W0.cell? ⟨w.heap.size + 1 + 1, 0, none⟩ = some (.bool (asksB idle now)) := by rw [HAL.out, ← hW]; simp [go_sem]
    have li : Lt w.heap.size W0 := by rw [← hW]; simp [Lt]; try omega
    have ln : Lt (w.heap.size + 1) W0 := by rw [← hW]; simp [Lt]; try omega
    have la : Lt (w.heap.size + 1 + 1) W0 := by rw [← hW]; simp [Lt]; try omega
    have s0 := hs.ext g0
    have hsz : w.heap.size ≤ W0.heap.size := g0.size
    clear hW hs
    have HCL := Lib.hid (fun (x : Co) (W : World) (_ : x ∈ xs) (hE : Ext W0 W) => idle1_cl x idle now _ _ _ W hi (Nat.lt_of_lt_of_le la hE.size) (Nat.lt_of_lt_of_le ln hE.size) (Nat.lt_of_lt_of_le li hE.size) ((hE.cell (p := ⟨w.heap.size + 1 + 1, 0, none⟩) la).trans ca) ((hE.cell (p := ⟨w.heap.size + 1, 0, none⟩) ln).trans cn) ((hE.cell (p := ⟨w.heap.size, 0, none⟩) li).trans ci))
    go_wp2_with (go_at_call 59; go_must (with_reducible refine (parted_any 60 #[.pointer (some ⟨w.heap.size + 1 + 1, 0, none⟩), .pointer (some ⟨w.heap.size + 1, 0, none⟩), .pointer (some ⟨w.heap.size, 0, none⟩)] enters_idle (idleB idle now) p xs c _ s0 hl HCL.out).mono ?_); rintro e w' ⟨v1, v2, rfl, ⟨o1, o2, o3⟩, g1⟩; have O1 := Lib.hid o1; have O2 := Lib.hid o2; have O3 := Lib.hid o3; clear o1 o2 o3)
    exact bodyPost_ret (v := .tuple #[v1, v2]) (by simp [results, Try.results21, go_sem]) rfl ⟨v1, v2, rfl, ⟨ownsRow_le O1.out hsz, ownsRow_le O2.out hsz, O3.out⟩, g0.tr g1⟩
  · have HAL := Lib.hid (show asksB idle now = false from HA.out)
    go_enter Try.func21, Try.ntmps21
    go_upto_region 2 with (fail)
    obtain ⟨W0, hW⟩ : ∃ W0, ((w.alloc (.cells #[.int .i64 idle] 3)).alloc (.cells #[.int .i64 now] 3)).alloc (.cells #[.bool false] 4) = W0 := ⟨_, rfl⟩
    rw [hW]
    have g0 : Ext w W0 := by rw [← hW]; exact Ext.al (Ext.al (Ext.al (Ext.rf _) _) _) _
    have ci : W0.cell? ⟨w.heap.size, 0, none⟩ = some (.int .i64 idle) := by rw [← hW]; simp [go_sem]
    have cn : W0.cell? ⟨w.heap.size + 1, 0, none⟩ = some (.int .i64 now) := by rw [← hW]; simp [go_sem]
    have ca : W0.cell? ⟨w.heap.size + 1 + 1, 0, none⟩ = some (.bool (asksB idle now)) := by rw [HAL.out, ← hW]; simp [go_sem]
    have li : Lt w.heap.size W0 := by rw [← hW]; simp [Lt]; try omega
    have ln : Lt (w.heap.size + 1) W0 := by rw [← hW]; simp [Lt]; try omega
    have la : Lt (w.heap.size + 1 + 1) W0 := by rw [← hW]; simp [Lt]; try omega
    have s0 := hs.ext g0
    have hsz : w.heap.size ≤ W0.heap.size := g0.size
    clear hW hs
    have HCL := Lib.hid (fun (x : Co) (W : World) (_ : x ∈ xs) (hE : Ext W0 W) => idle1_cl x idle now _ _ _ W hi (Nat.lt_of_lt_of_le la hE.size) (Nat.lt_of_lt_of_le ln hE.size) (Nat.lt_of_lt_of_le li hE.size) ((hE.cell (p := ⟨w.heap.size + 1 + 1, 0, none⟩) la).trans ca) ((hE.cell (p := ⟨w.heap.size + 1, 0, none⟩) ln).trans cn) ((hE.cell (p := ⟨w.heap.size, 0, none⟩) li).trans ci))
    go_wp2_with (go_at_call 59; go_must (with_reducible refine (parted_any 60 #[.pointer (some ⟨w.heap.size + 1 + 1, 0, none⟩), .pointer (some ⟨w.heap.size + 1, 0, none⟩), .pointer (some ⟨w.heap.size, 0, none⟩)] enters_idle (idleB idle now) p xs c _ s0 hl HCL.out).mono ?_); rintro e w' ⟨v1, v2, rfl, ⟨o1, o2, o3⟩, g1⟩; have O1 := Lib.hid o1; have O2 := Lib.hid o2; have O3 := Lib.hid o3; clear o1 o2 o3)
    exact bodyPost_ret (v := .tuple #[v1, v2]) (by simp [results, Try.results21, go_sem]) rfl ⟨v1, v2, rfl, ⟨ownsRow_le O1.out hsz, ownsRow_le O2.out hsz, O3.out⟩, g0.tr g1⟩
  · have HAL := Lib.hid (show asksB idle now = true from HA.out)
    go_enter Try.func21, Try.ntmps21
    go_upto_region 2 with (fail)
    obtain ⟨W0, hW⟩ : ∃ W0, ((w.alloc (.cells #[.int .i64 idle] 3)).alloc (.cells #[.int .i64 now] 3)).alloc (.cells #[.bool true] 4) = W0 := ⟨_, rfl⟩
    rw [hW]
    have g0 : Ext w W0 := by rw [← hW]; exact Ext.al (Ext.al (Ext.al (Ext.rf _) _) _) _
    have ci : W0.cell? ⟨w.heap.size, 0, none⟩ = some (.int .i64 idle) := by rw [← hW]; simp [go_sem]
    have cn : W0.cell? ⟨w.heap.size + 1, 0, none⟩ = some (.int .i64 now) := by rw [← hW]; simp [go_sem]
    have ca : W0.cell? ⟨w.heap.size + 1 + 1, 0, none⟩ = some (.bool (asksB idle now)) := by rw [HAL.out, ← hW]; simp [go_sem]
    have li : Lt w.heap.size W0 := by rw [← hW]; simp [Lt]; try omega
    have ln : Lt (w.heap.size + 1) W0 := by rw [← hW]; simp [Lt]; try omega
    have la : Lt (w.heap.size + 1 + 1) W0 := by rw [← hW]; simp [Lt]; try omega
    have s0 := hs.ext g0
    have hsz : w.heap.size ≤ W0.heap.size := g0.size
    clear hW hs
    have HCL := Lib.hid (fun (x : Co) (W : World) (_ : x ∈ xs) (hE : Ext W0 W) => idle1_cl x idle now _ _ _ W hi (Nat.lt_of_lt_of_le la hE.size) (Nat.lt_of_lt_of_le ln hE.size) (Nat.lt_of_lt_of_le li hE.size) ((hE.cell (p := ⟨w.heap.size + 1 + 1, 0, none⟩) la).trans ca) ((hE.cell (p := ⟨w.heap.size + 1, 0, none⟩) ln).trans cn) ((hE.cell (p := ⟨w.heap.size, 0, none⟩) li).trans ci))
    go_wp2_with (go_at_call 59; go_must (with_reducible refine (parted_any 60 #[.pointer (some ⟨w.heap.size + 1 + 1, 0, none⟩), .pointer (some ⟨w.heap.size + 1, 0, none⟩), .pointer (some ⟨w.heap.size, 0, none⟩)] enters_idle (idleB idle now) p xs c _ s0 hl HCL.out).mono ?_); rintro e w' ⟨v1, v2, rfl, ⟨o1, o2, o3⟩, g1⟩; have O1 := Lib.hid o1; have O2 := Lib.hid o2; have O3 := Lib.hid o3; clear o1 o2 o3)
    exact bodyPost_ret (v := .tuple #[v1, v2]) (by simp [results, Try.results21, go_sem]) rfl ⟨v1, v2, rfl, ⟨ownsRow_le O1.out hsz, ownsRow_le O2.out hsz, O3.out⟩, g0.tr g1⟩

end Go.Proofs.Ytookffaojlkfaaa

/- Connections: with. -/
namespace Go.Proofs.Ytookffaojlkfaaa
open Go.RowKit

/-- What a closure of 'with' does to a row of one's own. -/
def DoesC (g : Nat) (lb : Array Value) (f : List Co → Nat → List Co) (W0 : World) : Prop :=
  ∀ (base : Nat) (W : World) (v : Value) (xs : List Co) (k : Nat), Ext W0 W → W0.heap.size ≤ base → xs.length ≤ 1000 → W.ownsRow base 43 6 v xs.length (flC xs) → k < xs.length →
    Calls Try.prog g (#[v, .int .i64 k] ++ lb) W fun e w' => ∃ v', e = .returned v' ∧ w'.ownsRow base 43 6 v' (f xs k).length (flC (f xs k)) ∧ Mv (fun b => base ≤ b) W w'
def withOk (xs : List Co) (t : Tu) : Bool := okC xs t && rightC xs
def withX (f : List Co → Nat → List Co) (xs : List Co) (t : Tu) : List Co := if withOk xs t = true then f xs (atC xs t) else xs
theorem okC_lt {xs : List Co} {t : Tu} (h : okC xs t = true) : atC xs t < xs.length := by
  unfold okC at h
  cases hg : xs[atC xs t]? with
  | none => rw [hg] at h; cases h
  | some x => exact (List.getElem?_eq_some_iff.1 hg).1
set_option maxRecDepth 20000 in
set_option maxHeartbeats 4000000 in
theorem with_any (g : Nat) (lb : Array Value) (eg : ∀ args w, (callFunc g args).run Try.prog w = .ok (.enter g args) w) (f : List Co → Nat → List Co) (t : Tu) (p : Option Addr) (xs : List Co) (c : Nat) (w : World)
    (hs : SlC w p xs) (hl : xs.length ≤ 1000) (hf : DoesC g lb f w) :
    Calls Try.prog 55 #[.slice p xs.length c, tu t.a t.b t.c t.d, .func (.func g) #[] lb] w fun e w' => ∃ v, e = .returned (.tuple #[v, .bool (withOk xs t)]) ∧ w'.ownsRow w.heap.size 43 6 v (withX f xs t).length (flC (withX f xs t)) ∧ Ext w w' := by
  have HF := Lib.hid hf
  clear hf
  go_enter Try.func55, Try.ntmps55
  go_upto_region 1 with (fail)
  obtain ⟨W0, hW⟩ : ∃ W0, w.alloc (.cells #[.int .u32 t.a, .int .u32 t.b, .int .u16 t.c, .int .u16 t.d] 26) = W0 := ⟨_, rfl⟩
  have e0 : Ext w W0 := by rw [← hW]; exact Ext.al (Ext.rf _) _
  have s0 := hs.ext e0
  have ht : TuAt W0 w.heap.size t := by rw [← hW]; unfold TuAt; simp [go_sem, Lt]
  have hsz : w.heap.size ≤ W0.heap.size := e0.size
  rw [hW]
  clear hW hs
  go_upto_region 2 with (go_at_call 52; go_must (with_reducible refine (clone_C p xs c _ s0 hl).mono ?_); rintro e W1 ⟨v, rfl, ho, g1⟩)
  have ht := ht.ext g1
  have e1 := e0.tr g1
  have ho : W1.ownsRow w.heap.size 43 6 v xs.length (flC xs) := ownsRow_le ho hsz
  obtain ⟨p1, c1, rfl, hc1, s1⟩ := SlC.own ho
  have HO := Lib.hid ho
  obtain ⟨d0, d1, d2, d3⟩ := ht.cells
  have lB : Lt w.heap.size W1 := ht.2
  clear ho s0 e0 g1 ht
  go_upto_region 3 with (go_at_call 24; go_must (with_reducible refine (find_any t p1 xs c1 _ s1 hl).mono ?_); rintro e W2 ⟨rfl, g2⟩)
  have s2 := s1.ext g2
  have e2 := e1.tr g2
  have HO2 := Lib.hid (own_ext HO.out g2)
  clear s1 e1 d0 d1 d2 d3 lB g2 HO
  cases hk : okC xs t
  · have HV := Lib.hid (show withOk xs t = false ∧ withX f xs t = xs by unfold withX withOk; rw [hk]; exact ⟨rfl, rfl⟩)
    go_wp2
    exact bodyPost_ret (v := .tuple #[.slice p1 xs.length c1, .bool false]) (by simp [results, Try.results55, go_sem]) rfl ⟨_, by rw [HV.out.1], by rw [HV.out.2]; exact HO2.out, e2⟩
  have hat := okC_lt hk
  cases hr : rightC xs
  · have HV := Lib.hid (show withOk xs t = false ∧ withX f xs t = xs by unfold withX withOk; rw [hk, hr]; exact ⟨rfl, rfl⟩)
    have HR := Lib.hid hr
    clear hr hk
    go_wp2_with (go_at_call 26; (with_reducible refine (right_any p1 xs c1 _ s2 hl).mono ?_); rw [HR.out]; rintro e W3 ⟨rfl, g3⟩)
    exact bodyPost_ret (v := .tuple #[.slice p1 xs.length c1, .bool false]) (by simp [results, Try.results55, go_sem]) rfl ⟨_, by rw [HV.out.1], by rw [HV.out.2]; exact own_ext HO2.out g3, e2.tr g3⟩
  · have HV := Lib.hid (show withOk xs t = true ∧ withX f xs t = f xs (atC xs t) by unfold withX withOk; rw [hk, hr]; exact ⟨rfl, rfl⟩)
    have HR := Lib.hid hr
    clear hr hk
    generalize atC xs t = k at *
    go_upto_region 5 with (go_at_call 26; (with_reducible refine (right_any p1 xs c1 _ s2 hl).mono ?_); rw [HR.out]; rintro e W3 ⟨rfl, g3⟩)
    have HC := Lib.hid (HF.out w.heap.size W3 _ xs k (e2.tr g3) (Nat.le_refl _) hl (own_ext HO2.out g3) hat)
    go_wp2_with ((with_reducible refine (HC.out).mono ?_); rintro e W4 ⟨v', rfl, ho4, m4⟩; have HO4 := Lib.hid ho4; clear ho4)
    exact bodyPost_ret (v := .tuple #[v', .bool true]) (by simp [results, Try.results55, go_sem]) rfl ⟨_, by rw [HV.out.1], by rw [HV.out.2]; exact HO4.out, Mv.ext_of (e2.tr g3) m4 (fun _ h => h)⟩

end Go.Proofs.Ytookffaojlkfaaa

/- Connections: Touch. -/
namespace Go.Proofs.Ytookffaojlkfaaa
open Go.RowKit

theorem own_set {w : World} {base : Nat} {e : TypeId} {size n cap g : Nat} {xs : List Value} (h : w.ownsRow base e size (.slice (some ⟨g, 0, none⟩) n cap) n xs) (i : Nat) (u : Value) :
    (w.setCell ⟨g, i, none⟩ u).ownsRow base e size (.slice (some ⟨g, 0, none⟩) n cap) n (xs.set i u) := by
  refine ⟨by rw [List.length_set]; exact h.1, ?_⟩
  rcases h.2 with ⟨h0, _⟩ | ⟨g', cap', cur, e1, hb, hgb, h1, h2, h3, h4⟩
  · cases h0
  · cases e1
    refine .inr ⟨g, cap, cur.setIfInBounds i u, rfl, hb, ?_, h1, h2, by simpa using h3, ?_⟩
    · simp only [World.setCell]
      rw [Array.getElem?_modify, if_pos rfl, hgb]; rfl
    · rw [Array.toList_setIfInBounds, List.take_set, h4]
theorem flC_set (xs : List Co) (k : Nat) (x : Co) (y : Int) (hk : k < xs.length) (hx : xs[k] = x) : (flC xs).set (k * 6 + 5) (.int .i64 y) = flC (xs.set k { x with l := y }) := by
  refine List.ext_getElem? fun j => ?_
  by_cases hj : j < xs.length * 6
  · have hq : j / 6 < xs.length := by omega
    have e : j / 6 * 6 + j % 6 = j := by omega
    have h6 : j % 6 < 6 := Nat.mod_lt _ (by omega)
    have g1 := flC_get xs (j / 6) (j % 6) hq h6
    have g2 := flC_get (xs.set k { x with l := y }) (j / 6) (j % 6) (by simpa using hq) h6
    rw [e] at g1 g2
    rw [g2, List.getElem?_set, List.getElem_set, g1]
    have hlen : (flC xs).length = xs.length * 6 := flC_len xs
    by_cases hkq : k = j / 6
    · subst hkq
      rw [if_pos rfl]
      rw [hx]
      by_cases h5 : j % 6 = 5
      · rw [if_pos (by omega), if_pos (by omega), h5]; rfl
      · rw [if_neg (by omega)]
        generalize j % 6 = r at *
        obtain rfl | rfl | rfl | rfl | rfl : r = 0 ∨ r = 1 ∨ r = 2 ∨ r = 3 ∨ r = 4 := by omega
        all_goals rfl
    · rw [if_neg hkq, if_neg (by omega)]
  · rw [List.getElem?_eq_none (by rw [List.length_set, flC_len]; omega), List.getElem?_eq_none (by rw [flC_len, List.length_set]; omega)]
def touchF (now : Int) (xs : List Co) (k : Nat) : List Co := match xs[k]? with | some x => xs.set k { x with l := max x.l (min now 1099511627776) } | none => xs
theorem enters_touch : ∀ args w, (callFunc 56 args).run Try.prog w = .ok (.enter 56 args) w := enters_of Try.func56 (by kernel_rfl) rfl
set_option maxRecDepth 20000 in
set_option maxHeartbeats 4000000 in
theorem touch1_any (now : Int) (bn : Nat) (W0 : World) (ln : Lt bn W0) (hn : W0.cell? ⟨bn, 0, none⟩ = some (.int .i64 now)) : DoesC 56 #[.pointer (some ⟨bn, 0, none⟩)] (touchF now) W0 := by
  intro base W v xs k hE hb hl ho hk
  have hcn := (hE.cell (p := ⟨bn, 0, none⟩) ln).trans hn
  have lnW : Lt bn W := Nat.lt_of_lt_of_le ln hE.size
  obtain ⟨g, cap, rfl, hg, hgl, hfz, hc1⟩ : ∃ g cap, v = .slice (some ⟨g, 0, none⟩) xs.length cap ∧ base ≤ g ∧ g < W.heap.size ∧ frzD W g = (0, 0) ∧ xs.length ≤ cap := by
    rcases ho.2 with ⟨_, h0⟩ | ⟨g, cap, cur, rfl, h1, hgb, h2, h3, h4, h5⟩
    · omega
    · exact ⟨g, cap, rfl, h1, (Array.getElem?_eq_some_iff.1 hgb).1, by unfold frzD; rw [hgb], h2⟩
  obtain ⟨p1, c1, e1, _, s1⟩ := SlC.own ho
  cases e1
  obtain ⟨b, off, e2, _, c0, c1', c2, c3, c4, c5⟩ := s1 k hk
  cases e2
  obtain ⟨x, hx⟩ : ∃ x, xs[k] = x := ⟨_, rfl⟩
  rw [hx, Nat.zero_add] at c5
  have HO := Lib.hid ho
  have HX := Lib.hid hx
  have hkl : (k : Int) < xs.length := by omega
  have lg : Lt g W := hgl
  have hf5 := frozen_of_frz hfz (k * 6 + 5)
  have hne : ¬ bn = g := by unfold Lt at ln; omega
  have HT := Lib.hid (show touchF now xs k = xs.set k { x with l := max x.l (min now 1099511627776) } by unfold touchF; rw [List.getElem?_eq_getElem hk, hx])
  clear ho s1 hx c0 c1' c2 c3 c4 hfz
  rw [show (#[Value.slice (some ⟨g, 0, none⟩) xs.length cap, Value.int .i64 (k : Nat)] ++ #[Value.pointer (some ⟨bn, 0, none⟩)] : Array Value) = #[.slice (some ⟨g, 0, none⟩) xs.length cap, .int .i64 (k : Nat), .pointer (some ⟨bn, 0, none⟩)] from rfl]
  go_enter Try.func56, Try.ntmps56
  go_wp2_with (fail)
  go_region
  generalize hz : (if 1099511627776 < now then 1099511627776 else now) = z
  generalize hy : (if x.l < z then z else x.l) = y
  have hzm : min now 1099511627776 = z := by rw [← hz]; split <;> omega
  have hmax : max x.l (min now 1099511627776) = y := by rw [hzm, ← hy]; split <;> omega
  have HM := Lib.hid hmax
  clear hy hmax hz hzm
  go_wp2
  go_ret
  refine ⟨_, rfl, ?_, Mv.dr (Mv.st _ (.inl hg) (Mv.refl _ _))⟩
  show (W.setCell ⟨g, k * 6 + 5, none⟩ (.int .i64 y)).ownsRow base 43 6 (.slice (some ⟨g, 0, none⟩) xs.length cap) (touchF now xs k).length (flC (touchF now xs k))
  rw [HT.out, HM.out, List.length_set, ← flC_set xs k x y hk HX.out]
  exact own_set HO.out _ _
set_option maxRecDepth 20000 in
set_option maxHeartbeats 2000000 in
theorem touch_any (t : Tu) (now : Int) (p : Option Addr) (xs : List Co) (c : Nat) (w : World) (hs : SlC w p xs) (hl : xs.length ≤ 1000) :
    Calls Try.prog 17 #[.slice p xs.length c, tu t.a t.b t.c t.d, .int .i64 now] w fun e w' => ∃ v, e = .returned (.tuple #[v, .bool (withOk xs t)]) ∧ w'.ownsRow w.heap.size 43 6 v (withX (touchF now) xs t).length (flC (withX (touchF now) xs t)) ∧ Ext w w' := by
  go_enter Try.func17, Try.ntmps17
  go_upto_region 1 with (fail)
  obtain ⟨W0, hW⟩ : ∃ W0, (w.alloc (.cells #[.int .u32 t.a, .int .u32 t.b, .int .u16 t.c, .int .u16 t.d] 26)).alloc (.cells #[.int .i64 now] 3) = W0 := ⟨_, rfl⟩
  rw [hW]
  have g0 : Ext w W0 := by rw [← hW]; exact Ext.al (Ext.al (Ext.rf _) _) _
  have ht : TuAt W0 w.heap.size t := by rw [← hW]; unfold TuAt; simp [go_sem, Lt]; try omega
  have cn : W0.cell? ⟨w.heap.size + 1, 0, none⟩ = some (.int .i64 now) := by rw [← hW]; simp [go_sem]
  have ln : Lt (w.heap.size + 1) W0 := by rw [← hW]; simp [Lt]; try omega
  have s0 := hs.ext g0
  have hsz : w.heap.size ≤ W0.heap.size := g0.size
  obtain ⟨d0, d1, d2, d3⟩ := ht.cells
  have lB : Lt w.heap.size W0 := ht.2
  have HD := Lib.hid (touch1_any now (w.heap.size + 1) W0 ln cn)
  clear hW hs ht
  go_wp2_with (go_at_call 55; go_must (with_reducible refine (with_any 56 #[.pointer (some ⟨w.heap.size + 1, 0, none⟩)] enters_touch (touchF now) t p xs c _ s0 hl HD.out).mono ?_); rintro e w' ⟨v, rfl, ho, g1⟩; have HO := Lib.hid ho; clear ho)
  exact bodyPost_ret (v := .tuple #[v, .bool (withOk xs t)]) (by simp [results, Try.results17, go_sem]) rfl ⟨v, rfl, ownsRow_le HO.out hsz, g0.tr g1⟩

end Go.Proofs.Ytookffaojlkfaaa

/- Connections: Delete, Close. -/
namespace Go.Proofs.Ytookffaojlkfaaa
open Go.RowKit

/-- The cells from o on are set. -/
def setL : List Value → Nat → List Value → List Value
  | xs, _, [] => xs
  | xs, o, v :: vs => setL (xs.set o v) (o + 1) vs
theorem setL_len : ∀ (vs : List Value) (xs : List Value) (o : Nat), (setL xs o vs).length = xs.length
  | [], _, _ => rfl
  | v :: vs, xs, o => by unfold setL; rw [setL_len vs, List.length_set]
theorem setL_get : ∀ (vs : List Value) (xs : List Value) (o j : Nat), j < xs.length → (setL xs o vs)[j]? = if o ≤ j ∧ j < o + vs.length then vs[j - o]? else xs[j]?
  | [], xs, o, j, _ => by
    unfold setL
    rw [if_neg (by simp <;> omega)]
  | v :: vs, xs, o, j, hj => by
    unfold setL
    rw [setL_get vs _ _ _ (by simpa using hj), List.getElem?_set, List.length_cons]
    by_cases h : o = j
    · subst h
      rw [if_neg (by omega), if_pos rfl, if_pos hj, if_pos (by omega), Nat.sub_self]; rfl
    · by_cases h2 : o + 1 ≤ j ∧ j < o + 1 + vs.length
      · rw [if_pos h2, if_pos (by omega), show j - o = (j - (o + 1)) + 1 by omega]; rfl
      · rw [if_neg h2, if_neg h, if_neg (by omega)]
theorem own_setCells {base : Nat} {e : TypeId} {size n cap g : Nat} : ∀ (vs : List Value) (o : Nat) (w : World) (xs : List Value), w.ownsRow base e size (.slice (some ⟨g, 0, none⟩) n cap) n xs → (w.setCells g o vs).ownsRow base e size (.slice (some ⟨g, 0, none⟩) n cap) n (setL xs o vs)
  | [], _, _, _, h => h
  | v :: vs, o, w, xs, h => own_setCells vs (o + 1) _ _ (own_set h o v)
theorem own_shrink {w : World} {base : Nat} {e : TypeId} {size n m cap g : Nat} {xs : List Value} (h : w.ownsRow base e size (.slice (some ⟨g, 0, none⟩) n cap) n xs) (hm : m ≤ n) : w.ownsRow base e size (.slice (some ⟨g, 0, none⟩) m cap) m (xs.take (m * size)) := by
  have hms : m * size ≤ n * size := Nat.mul_le_mul_right _ hm
  refine ⟨by rw [List.length_take, h.1]; omega, ?_⟩
  rcases h.2 with ⟨h0, _⟩ | ⟨g', cap', cur, e1, hb, hgb, h1, h2, h3, h4⟩
  · cases h0
  · cases e1
    refine .inr ⟨g, cap, cur, rfl, hb, hgb, by omega, h2, h3, ?_⟩
    rw [← h4, List.take_take, Nat.min_eq_left hms]
theorem Mv.sc {C : Nat → Prop} {b : Nat} (hb : C b) : ∀ (vs : List Value) (o : Nat) (A B : World), Mv C A B → Mv C A (B.setCells b o vs)
  | [], _, _, _, h => h
  | v :: vs, o, A, B, h => Mv.sc hb vs (o + 1) A _ (Mv.st v (.inl hb) h)
theorem flC_app (xs ys : List Co) : flC (xs ++ ys) = flC xs ++ flC ys := by unfold flC; simp
/-- What is left behind one is taken out. -/
theorem setL_erase (xs : List Co) (k : Nat) (zs : List Value) (hk : k < xs.length) :
    (setL (setL (flC xs) (k * 6) (flC (xs.drop (k + 1)))) ((xs.length - 1) * 6) zs).take ((xs.length - 1) * 6) = flC (xs.eraseIdx k) := by
  rw [List.eraseIdx_eq_take_drop_succ, flC_app]
  have l0 := flC_len xs
  have l1 : (flC (xs.take k)).length = k * 6 := by rw [flC_len, List.length_take]; rw [Nat.min_eq_left (by omega)]
  have l2 : (flC (xs.drop (k + 1))).length = (xs.length - (k + 1)) * 6 := by rw [flC_len, List.length_drop]
  refine List.ext_getElem? fun j => ?_
  rw [List.getElem?_take]
  by_cases hj : j < (xs.length - 1) * 6
  · rw [if_pos hj, setL_get _ _ _ _ (by rw [setL_len]; omega), if_neg (by omega), setL_get _ _ _ _ (by omega)]
    by_cases h1 : k * 6 ≤ j
    · rw [if_pos (by omega), List.getElem?_append_right (by omega), l1]
    · rw [if_neg (by omega), List.getElem?_append_left (by omega)]
      have h3 : flC xs = flC (xs.take k) ++ flC (xs.drop k) := by rw [← flC_app, List.take_append_drop]
      rw [h3, List.getElem?_append_left (by omega)]
  · rw [if_neg hj, List.getElem?_eq_none (by rw [List.length_append]; omega)]
theorem some_setCells {g n : Nat} : ∀ (vs : List Value) (o : Nat) (w : World), (∀ i, i < n → (w.cell? ⟨g, i, none⟩).isSome = true) → ∀ i, i < n → ((w.setCells g o vs).cell? ⟨g, i, none⟩).isSome = true
  | [], _, _, h => h
  | v :: vs, o, w, h => some_setCells vs (o + 1) _ fun i hi => by
    have h0 := h i hi
    rw [cell_rowD] at h0 ⊢
    rw [rowD_setCell, if_pos rfl]
    simpa using h0
theorem frz_setCells {g b : Nat} : ∀ (vs : List Value) (o : Nat) (w : World), frzD (w.setCells g o vs) b = frzD w b
  | [], _, _ => rfl
  | v :: vs, o, w => (frz_setCells vs (o + 1) _).trans (frzD_setCell _ _ _ _ _)
theorem run_clear_one {P : Program} (w : World) (t e ty : TypeId) (z : Value) (ht : P.underlying t = some (.slice e)) (hv : ∀ w, (zeroValue e).run P w = .ok z w) (b o c : Nat)
    (hc : ∀ j, j < z.cells.toList.length → (w.cell? ⟨b, o + j, none⟩).isSome = true) (hf : ∀ j, j < z.cells.toList.length → w.frozen? ⟨b, o + j, none⟩ = false) (h1 : ∀ u ∈ z.cells.toList, u.oneCell' = true) :
    (Builtin.clear_ #[t] ty #[.slice (some ⟨b, o, none⟩) 1 c]).run P w = .ok (.tuple #[]) (w.setCells b o z.cells.toList) := by
  have hzc : (Builtin.zeroCells z.cells 1).toList = z.cells.toList := by
    simp [Builtin.zeroCells]
    apply List.ext_getElem
    · simp
    · intro i h1 h2
      simp at h2
      simp [Nat.mod_eq_of_lt h2, h2]
  have hst := run_storeCells_cells (P := P) b o z.cells.toList 0 w (by simpa using hc) (by simpa using hf) h1
  simp only [Nat.add_zero] at hst
  simp [Builtin.clear_, run_underlying ht, hv, hzc, hst]
set_option maxRecDepth 100000 in
set_option maxHeartbeats 4000000 in
theorem delete_any (base : Nat) (w : World) (v : Value) (xs : List Co) (k j : Nat) (hj : j = k + 1) (hl : xs.length ≤ 1000) (ho : w.ownsRow base 43 6 v xs.length (flC xs)) (hk : k < xs.length) :
    Calls Try.prog 58 #[v, .int .i64 k, .int .i64 j] w fun e w' => ∃ v', e = .returned v' ∧ w'.ownsRow base 43 6 v' (xs.eraseIdx k).length (flC (xs.eraseIdx k)) ∧ Mv (fun b => base ≤ b) w w' := by
  obtain ⟨i0, hi, hz0, hz1, hz2⟩ := info_parts info_C
  obtain ⟨g, cap, cur, rfl, hg, hgb, hc1, hcm, hcs, hct⟩ : ∃ g cap cur, v = .slice (some ⟨g, 0, none⟩) xs.length cap ∧ base ≤ g ∧ w.heap[g]? = some (.cells cur 43 (0, 0)) ∧ xs.length ≤ cap ∧ cap ≤ maxLen ∧ cur.size = cap * 6 ∧ cur.toList.take (xs.length * 6) = flC xs := by
    rcases ho.2 with ⟨_, h0⟩ | h
    · omega
    · obtain ⟨g, cap, cur, h1, h2, h3, h4, h5, h6, h7⟩ := h; exact ⟨g, cap, cur, h1, h2, h3, h4, h5, h6, h7⟩
  have hrow : rowD w g = cur := by unfold rowD; rw [hgb]
  have hfz : frzD w g = (0, 0) := by unfold frzD; rw [hgb]
  have hsome : ∀ j, j < cap * 6 → (w.cell? ⟨g, j, none⟩).isSome = true := fun j hj => by rw [cell_rowD, hrow, Array.getElem?_eq_getElem (by omega)]; rfl
  have HSM := Lib.hid hsome
  have HO := Lib.hid ho
  have hk1 : ((k : Int) == (j : Int)) = false := by rw [beq_eq_false_iff_ne]; omega
  have hic : k ≤ cap := by omega
  have hjc : j ≤ cap := by omega
  have hjl : j ≤ xs.length := by omega
  have hkj : k ≤ j := by omega
  have hkl : (k : Int) < xs.length := by omega
  obtain ⟨A, hA, hsrc⟩ : ∃ A : Addr, (if cap = j then some (⟨g, 0, none⟩ : Addr) else some ⟨g, j * 6, none⟩) = some A ∧ Hid (∀ t u, (flC (xs.drop j))[t]? = some u → w.drew.cell? (A.add t) = some u) := by
    by_cases h : cap = j
    · refine ⟨⟨g, 0, none⟩, by simp [h], fun t u hu => ?_⟩
      rw [show xs.drop j = [] from List.drop_eq_nil_of_le (by omega)] at hu
      cases hu
    · refine ⟨⟨g, j * 6, none⟩, by simp [h], fun t u hu => ?_⟩
      have ht : t < (xs.length - j) * 6 := by
        have := (List.getElem?_eq_some_iff.1 hu).1
        rwa [flC_len, List.length_drop] at this
      have e1 : (flC xs)[j * 6 + t]? = some u := by
        rw [← List.take_append_drop j xs, flC_app, List.getElem?_append_right (by rw [flC_len, List.length_take]; omega), ← hu]
        congr 1
        rw [flC_len, List.length_take]; omega
      rw [Addr.add_lit]
      show w.cell? _ = _
      rw [cell_rowD, hrow]
      rw [← hct, List.getElem?_take, if_pos (by omega), Array.getElem?_toList] at e1
      exact e1
  have s1 : Hid ((flC (xs.drop j)).length = (xs.length - j) * 6) := by rw [flC_len, List.length_drop]; rfl
  have s2 : Hid (∀ u ∈ flC (xs.drop j), u.oneCell' = true) := flC_one _
  have s3 : Hid (∀ t, t < (flC (xs.drop j)).length → (w.drew.cell? ⟨g, 0 + k * 6 + t, none⟩).isSome = true ∧ w.drew.frozen? ⟨g, 0 + k * 6 + t, none⟩ = false) := by
    intro t ht
    rw [flC_len, List.length_drop] at ht
    exact ⟨hsome _ (by omega), frozen_of_frz hfz _⟩
  obtain ⟨W1, hW1⟩ : ∃ W1, W1 = w.drew.setCells g (0 + k * 6) (flC (xs.drop j)) := ⟨_, rfl⟩
  have hs1 : ∀ i, i < cap * 6 → (W1.cell? ⟨g, i, none⟩).isSome = true := by rw [hW1]; exact some_setCells _ _ w.drew hsome
  have hf1 : frzD W1 g = (0, 0) := by rw [hW1, frz_setCells]; exact hfz
  have hlj : k + (xs.length - j) = xs.length - 1 := by omega
  have hcl : ∀ ty, (Builtin.clear_ #[22] ty #[.slice (some ⟨g, (k + (xs.length - j)) * 6, none⟩) (xs.length - (k + (xs.length - j))) (cap - (k + (xs.length - j)))]).run Try.prog W1 = .ok (.tuple #[]) (W1.setCells g ((k + (xs.length - j)) * 6) [.int .u32 0, .int .u32 0, .int .u16 0, .int .u16 0, .int .i64 0, .int .i64 0]) := fun ty => by
    rw [show xs.length - (k + (xs.length - j)) = 1 by omega]
    exact run_clear_one W1 22 43 ty (.agg #[.int .u32 0, .int .u32 0, .int .u16 0, .int .u16 0, .int .i64 0, .int .i64 0]) Try.underlying22 (fun w => by kernel_rfl) g _ _ (fun i hi => hs1 _ (by have : i < 6 := hi; omega)) (fun i hi => frozen_of_frz hf1 _) (by intro u hu; simp [Value.cells] at hu; rcases hu with rfl | rfl | rfl | rfl | rfl | rfl <;> rfl)
  have hW : Hid (W1 = w.drew.setCells g (0 + k * 6) (flC (xs.drop j))) := hW1
  have HJ := Lib.hid hj
  have hne : ¬ cap = k + (xs.length - j) := by omega
  clear hW1 hs1 hf1 hlj
  clear ho hsome hct hj
  go_enter Try.func58, Try.ntmps58
  go_wp2_with (fail)
  go_region_law (refine step_append_room rfl (.tmp 22) (.tmp 25) 22 rfl 43 i0 6 Try.underlying22 hi hz1 g 0 k cap (by simp [Act.eval, Act.put]) A (xs.length - j) (cap - j) (flC (xs.drop j)) (by simp [Act.eval, Act.put]) s1.out hsrc.out s2.out (by omega) s3.out ?_; rw [← hW.out])
  go_wp2
  have hj := HJ.out
  have h0 : w.drew.ownsRow base 43 6 (.slice (some ⟨g, 0, none⟩) xs.length cap) xs.length (flC xs) := HO.out
  have e1 : k + (xs.length - j) = xs.length - 1 := by omega
  have h1 := own_shrink (own_setCells [.int .u32 0, .int .u32 0, .int .u16 0, .int .u16 0, .int .i64 0, .int .i64 0] ((k + (xs.length - j)) * 6) _ _ (own_setCells (flC (xs.drop j)) (0 + k * 6) w.drew _ h0)) (m := k + (xs.length - j)) (by omega)
  rw [← hW.out] at h1
  refine bodyPost_ret (v := .slice (some ⟨g, 0, none⟩) (k + (xs.length - j)) cap) (by kernel_rfl) rfl ⟨_, rfl, ?_, ?_⟩
  · rw [List.length_eraseIdx_of_lt hk, ← e1]
    rw [e1, Nat.zero_add] at h1
    subst hj
    rw [setL_erase xs k _ hk] at h1
    rw [e1]
    exact h1
  · rw [hW.out]
    exact Mv.sc hg _ _ _ _ (Mv.sc hg _ _ _ _ (Mv.dr (Mv.refl _ _)))

end Go.Proofs.Ytookffaojlkfaaa
