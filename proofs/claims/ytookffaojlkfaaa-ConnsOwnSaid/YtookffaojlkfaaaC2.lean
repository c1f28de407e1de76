/- Tuples: Cmp (its region draws: reads and comparisons are taken first). -/
import Derived.Test.YtookffaojlkfaaaC1
set_option linter.unusedSimpArgs false
set_option linter.unusedVariables false
namespace Go.Proofs.Ytookffaojlkfaaa
open Go.RowKit

def SchC (ops : Array Oper) : Prop := Region.noSelect ops = true ∧ (∀ k, k < 23 → [20, 21].contains k = false → okX ops 23 k = true) ∧ (∀ k, [20, 21].contains k = true → Region.ready .any ops (lst 23 k) = [k]) ∧ Region.ready .any ops (lst 23 23) = []
theorem schC_s : schedX ((Try.f63.body.bind (findR 1)).getD #[]) 23 [20, 21] 0 23 = true := by kernel_rfl
theorem schC_20 : Region.ready .any ((Try.f63.body.bind (findR 1)).getD #[]) (lst 23 20) = [20] := by kernel_rfl
theorem schC_21 : Region.ready .any ((Try.f63.body.bind (findR 1)).getD #[]) (lst 23 21) = [21] := by kernel_rfl
theorem schC : SchC ((Try.f63.body.bind (findR 1)).getD #[]) := by
  refine ⟨by kernel_rfl, fun k hk hl => schedX_at schC_s (Nat.zero_le _) hk hl, fun k hk => ?_, by kernel_rfl⟩
  simp only [List.contains_iff_mem, List.mem_cons, List.not_mem_nil, or_false] at hk
  rcases hk with rfl | rfl
  · exact schC_20
  · exact schC_21
set_option maxRecDepth 20000 in
set_option maxHeartbeats 4000000 in
theorem cmp_any (s t : Tu) (w : World) :
    Calls Try.prog 63 #[tu s.a s.b s.c s.d, tu t.a t.b t.c t.d] w fun e w' => e = .returned (.int .i64 (cmpT s t)) ∧ Ext w w' := by
  go_enter Try.func63, Try.ntmps63
  go_wp2_with (fail)
  obtain ⟨W0, hW⟩ : ∃ W0, (w.alloc (.cells #[.int .u32 s.a, .int .u32 s.b, .int .u16 s.c, .int .u16 s.d] 26)).alloc (.cells #[.int .u32 t.a, .int .u32 t.b, .int .u16 t.c, .int .u16 t.d] 26) = W0 := ⟨_, rfl⟩
  rw [hW]
  have e0 : Ext w W0 := by rw [← hW]; exact Ext.al (Ext.al (Ext.rf _) _) _
  have rs : rowD W0 w.heap.size = #[.int .u32 s.a, .int .u32 s.b, .int .u16 s.c, .int .u16 s.d] := by rw [← hW]; simp [go_sem]
  have rt : rowD W0 (w.heap.size + 1) = #[.int .u32 t.a, .int .u32 t.b, .int .u16 t.c, .int .u16 t.d] := by rw [← hW]; simp [go_sem]
  have ls : Lt w.heap.size W0 := by rw [← hW]; simp [Lt]; try omega
  have lt : Lt (w.heap.size + 1) W0 := by rw [← hW]; simp [Lt]; try omega
  clear hW
  have s0 : W0.cell? ⟨w.heap.size, 0, none⟩ = some (.int .u32 s.a) := by rw [cell_rowD, rs]; rfl
  have s1 : W0.cell? ⟨w.heap.size, 1, none⟩ = some (.int .u32 s.b) := by rw [cell_rowD, rs]; rfl
  have s2 : W0.cell? ⟨w.heap.size, 2, none⟩ = some (.int .u16 s.c) := by rw [cell_rowD, rs]; rfl
  have s3 : W0.cell? ⟨w.heap.size, 3, none⟩ = some (.int .u16 s.d) := by rw [cell_rowD, rs]; rfl
  have t0 : W0.cell? ⟨w.heap.size + 1, 0, none⟩ = some (.int .u32 t.a) := by rw [cell_rowD, rt]; rfl
  have t1 : W0.cell? ⟨w.heap.size + 1, 1, none⟩ = some (.int .u32 t.b) := by rw [cell_rowD, rt]; rfl
  have t2 : W0.cell? ⟨w.heap.size + 1, 2, none⟩ = some (.int .u16 t.c) := by rw [cell_rowD, rt]; rfl
  have t3 : W0.cell? ⟨w.heap.size + 1, 3, none⟩ = some (.int .u16 t.d) := by rw [cell_rowD, rt]; rfl
  clear rs rt
  refine wp_region_X (by kernel_rfl) ?_
  obtain ⟨W1, hW⟩ : ∃ W1, W0.drew = W1 := ⟨_, rfl⟩
  have h1 : Ext W0 W1 := by rw [← hW]; exact Ext.dr (Ext.rf _)
  rw [hW]
  clear hW
  have s0 := (h1.cell (p := ⟨w.heap.size, _, none⟩) ls).trans s0
  have s1 := (h1.cell (p := ⟨w.heap.size, _, none⟩) ls).trans s1
  have s2 := (h1.cell (p := ⟨w.heap.size, _, none⟩) ls).trans s2
  have s3 := (h1.cell (p := ⟨w.heap.size, _, none⟩) ls).trans s3
  have t0 := (h1.cell (p := ⟨w.heap.size + 1, _, none⟩) lt).trans t0
  have t1 := (h1.cell (p := ⟨w.heap.size + 1, _, none⟩) lt).trans t1
  have t2 := (h1.cell (p := ⟨w.heap.size + 1, _, none⟩) lt).trans t2
  have t3 := (h1.cell (p := ⟨w.heap.size + 1, _, none⟩) lt).trans t3
  have ls : Lt w.heap.size W1 := Nat.lt_of_lt_of_le ls h1.size
  have lt : Lt (w.heap.size + 1) W1 := Nat.lt_of_lt_of_le lt h1.size
  refine withL (n := 23) (R := SchC) (E := ((Try.f63.body.bind (findR 1)).getD #[])) (by kernel_rfl) schC (by kernel_rfl) fun hS => ?_
  refine takeL (n := 23) (k := 0) (v := .pointer (some ⟨w.heap.size, 0, none⟩)) hS.1 (hS.2.1 0 (by decide) (by decide)) rfl (by kernel_rfl) (fun _ _ => by kernel_rfl) ?_
  refine takeL (n := 23) (k := 1) (v := .int .u32 s.a) hS.1 (hS.2.1 1 (by decide) (by decide)) rfl (by kernel_rfl) (load_u32_X s0 ls _ _ _ _ _ _ _ (by kernel_rfl)) ?_
  refine takeL (n := 23) (k := 2) (v := .pointer (some ⟨(w.heap.size + 1), 0, none⟩)) hS.1 (hS.2.1 2 (by decide) (by decide)) rfl (by kernel_rfl) (fun _ _ => by kernel_rfl) ?_
  refine takeL (n := 23) (k := 3) (v := .int .u32 t.a) hS.1 (hS.2.1 3 (by decide) (by decide)) rfl (by kernel_rfl) (load_u32_X t0 lt _ _ _ _ _ _ _ (by kernel_rfl)) ?_
  refine takeCL (n := 23) (k := 4) (v := .int .i64 (cmpI s.a t.a)) (f := 88) (args := #[.int .u32 s.a, .int .u32 t.a]) hS.1 (hS.2.1 4 (by decide) (by decide)) rfl (by kernel_rfl) (fun _ _ => by kernel_rfl) (fun w' _ => (compare_u32 s.a t.a w').mono fun _ _ h => ⟨h.1, h.2.symm⟩) ?_
  refine takeL (n := 23) (k := 5) (v := .pointer (some ⟨w.heap.size, 1, none⟩)) hS.1 (hS.2.1 5 (by decide) (by decide)) rfl (by kernel_rfl) (fun _ _ => by kernel_rfl) ?_
  refine takeL (n := 23) (k := 6) (v := .int .u32 s.b) hS.1 (hS.2.1 6 (by decide) (by decide)) rfl (by kernel_rfl) (load_u32_X s1 ls _ _ _ _ _ _ _ (by kernel_rfl)) ?_
  refine takeL (n := 23) (k := 7) (v := .pointer (some ⟨(w.heap.size + 1), 1, none⟩)) hS.1 (hS.2.1 7 (by decide) (by decide)) rfl (by kernel_rfl) (fun _ _ => by kernel_rfl) ?_
  refine takeL (n := 23) (k := 8) (v := .int .u32 t.b) hS.1 (hS.2.1 8 (by decide) (by decide)) rfl (by kernel_rfl) (load_u32_X t1 lt _ _ _ _ _ _ _ (by kernel_rfl)) ?_
  refine takeCL (n := 23) (k := 9) (v := .int .i64 (cmpI s.b t.b)) (f := 88) (args := #[.int .u32 s.b, .int .u32 t.b]) hS.1 (hS.2.1 9 (by decide) (by decide)) rfl (by kernel_rfl) (fun _ _ => by kernel_rfl) (fun w' _ => (compare_u32 s.b t.b w').mono fun _ _ h => ⟨h.1, h.2.symm⟩) ?_
  refine takeL (n := 23) (k := 10) (v := .pointer (some ⟨w.heap.size, 2, none⟩)) hS.1 (hS.2.1 10 (by decide) (by decide)) rfl (by kernel_rfl) (fun _ _ => by kernel_rfl) ?_
  refine takeL (n := 23) (k := 11) (v := .int .u16 s.c) hS.1 (hS.2.1 11 (by decide) (by decide)) rfl (by kernel_rfl) (load_u16_X s2 ls _ _ _ _ _ _ _ (by kernel_rfl)) ?_
  refine takeL (n := 23) (k := 12) (v := .pointer (some ⟨(w.heap.size + 1), 2, none⟩)) hS.1 (hS.2.1 12 (by decide) (by decide)) rfl (by kernel_rfl) (fun _ _ => by kernel_rfl) ?_
  refine takeL (n := 23) (k := 13) (v := .int .u16 t.c) hS.1 (hS.2.1 13 (by decide) (by decide)) rfl (by kernel_rfl) (load_u16_X t2 lt _ _ _ _ _ _ _ (by kernel_rfl)) ?_
  refine takeCL (n := 23) (k := 14) (v := .int .i64 (cmpI s.c t.c)) (f := 89) (args := #[.int .u16 s.c, .int .u16 t.c]) hS.1 (hS.2.1 14 (by decide) (by decide)) rfl (by kernel_rfl) (fun _ _ => by kernel_rfl) (fun w' _ => (compare_u16 s.c t.c w').mono fun _ _ h => ⟨h.1, h.2.symm⟩) ?_
  refine takeL (n := 23) (k := 15) (v := .pointer (some ⟨w.heap.size, 3, none⟩)) hS.1 (hS.2.1 15 (by decide) (by decide)) rfl (by kernel_rfl) (fun _ _ => by kernel_rfl) ?_
  refine takeL (n := 23) (k := 16) (v := .int .u16 s.d) hS.1 (hS.2.1 16 (by decide) (by decide)) rfl (by kernel_rfl) (load_u16_X s3 ls _ _ _ _ _ _ _ (by kernel_rfl)) ?_
  refine takeL (n := 23) (k := 17) (v := .pointer (some ⟨(w.heap.size + 1), 3, none⟩)) hS.1 (hS.2.1 17 (by decide) (by decide)) rfl (by kernel_rfl) (fun _ _ => by kernel_rfl) ?_
  refine takeL (n := 23) (k := 18) (v := .int .u16 t.d) hS.1 (hS.2.1 18 (by decide) (by decide)) rfl (by kernel_rfl) (load_u16_X t3 lt _ _ _ _ _ _ _ (by kernel_rfl)) ?_
  refine takeCL (n := 23) (k := 19) (v := .int .i64 (cmpI s.d t.d)) (f := 89) (args := #[.int .u16 s.d, .int .u16 t.d]) hS.1 (hS.2.1 19 (by decide) (by decide)) rfl (by kernel_rfl) (fun _ _ => by kernel_rfl) (fun w' _ => (compare_u16 s.d t.d w').mono fun _ _ h => ⟨h.1, h.2.symm⟩) ?_
  refine makeL (n := 23) (k := 20) (v := .slice (some ⟨W1.heap.size, 0, none⟩) 4 4) (w1 := W1.alloc (.cells #[.int .i64 (cmpI s.a t.a), .int .i64 (cmpI s.b t.b), .int .i64 (cmpI s.c t.c), .int .i64 (cmpI s.d t.d)] 3)) (hS.2.2.1 20 (by decide)) rfl (by kernel_rfl) (by kernel_rfl) (Ext.al (Ext.rf _) _) ?_
  refine callL (n := 23) (k := 21) (v := .int .i64 (cmpT s t)) (f := 87) (args := #[.slice (some ⟨W1.heap.size, 0, none⟩) 4 4]) (hS.2.2.1 21 (by decide)) rfl (by kernel_rfl) (by kernel_rfl) (or_four _ _ _ _ _) ?_
  intro W2 h2
  refine takeL (n := 23) (k := 22) (v := .int .i64 (cmpT s t)) hS.1 (hS.2.1 22 (by decide) (by decide)) rfl (by kernel_rfl) (fun _ _ => by kernel_rfl) ?_
  refine doneX hS.2.2.2 ?_
  generalize hA : Act.put _ _ _ = A
  go_wp2
  exact bodyPost_ret (v := .int .i64 (cmpT s t)) (by subst hA; kernel_rfl) (by subst hA; kernel_rfl) ⟨rfl, (((e0.tr h1).tr (Ext.al (Ext.rf _) _)).tr h2)⟩

end Go.Proofs.Ytookffaojlkfaaa
