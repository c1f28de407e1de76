/- Plans to remove and to fill, of the package plan. -/
import Derived.Test.YtlacidecomflkaaP11
set_option linter.unusedSimpArgs false
set_option linter.unusedVariables false
namespace Go.Proofs.Ytlacidecomflkaa
open Go.RowKit

theorem mv_cell {C : Nat → Prop} {A B : World} (h : Mv C A B) {b : Nat} (hb : b < A.heap.size) (hc : ¬ C b) (i : Nat) : B.cell? ⟨b, i, none⟩ = A.cell? ⟨b, i, none⟩ := by
  rw [cell_rowD, cell_rowD, rowD_same (h.same b hb hc)]
/-- The others. -/
def without (ms : List Int) (who : Int) : List Int := ms.filter fun x => !(x == who)
theorem without_len (ms : List Int) (who : Int) : (without ms who).length ≤ ms.length := List.length_filter_le _ _
theorem without_mem {ms : List Int} {who x : Int} (h : x ∈ without ms who) : x ∈ ms := (List.mem_filter.1 h).1
/-- A plan to remove: its error, its shifts. -/
def remE (o : Nat → Int) (ms : List Int) (who : Int) : Int :=
  if backB who && rightP o ms then (if (without ms who).length = ms.length then 202 else if (without ms who).length = 0 then 200 else 0) else 2
def remX (o : Nat → Int) (ms : List Int) (who : Int) : List Sh := if remE o ms who = 0 then moveP (fun i => o i == who) (without ms who) o else []
/-- A plan to fill. -/
def fillE (o : Nat → Int) (ms : List Int) : Int := if rightP o ms then (if ms.length = 0 then 200 else 0) else 2
def fillX (o : Nat → Int) (ms : List Int) : List Sh := if fillE o ms = 0 then moveP (fun i => !ms.any (o i == ·)) ms o else []
theorem moveP_len16 (so : Nat → Bool) (ms : List Int) (o : Nat → Int) : (moveP so ms o).length ≤ 1000 := by
  have := moveN_le so 16; rw [moveP_len]; omega

set_option maxRecDepth 20000 in
set_option maxHeartbeats 2000000 in
/-- What is left of Remove and Fill once all is asked: the shifts are collected. -/
theorem collected (g : Nat) (lb : Array Value) (eg : ∀ args w, (callFunc g args).run Try.prog w = .ok (.enter g args) w) (pr : Int → Bool) (o : Nat → Int) (p : Option Addr) (ms : List Int) (c : Nat) (w4 : World)
    (hs : Sl w4 p ms) (hlen : ms.length ≤ 1000) (hcap : ms.length ≤ c) (hp : 0 < ms.length) (hmm : ∀ m ∈ ms, 0 ≤ m ∧ m < 6)
    (hso : ∀ x W, Ext w4 W → Calls Try.prog g (#[.int .i64 x] ++ lb) W fun e w' => e = .returned (.bool (pr x)) ∧ Ext W w') :
    Calls Try.prog 53 #[.func (.func 77) #[] #[.pointer (some ⟨w4.heap.size, 0, none⟩), .pointer (some ⟨w4.heap.size + 2, 0, none⟩), .pointer (some ⟨w4.heap.size + 1, 0, none⟩)]]
      (((w4.alloc (.cells (ov o) 22)).alloc (.cells #[.slice p ms.length c] 23)).alloc (.cells #[.func (.func g) #[] lb] 69)) fun e W' => ∃ v, e = .returned v ∧ W'.ownsRow w4.heap.size 45 2 v (moveP (fun i => pr (o i)) ms o).length (shC (moveP (fun i => pr (o i)) ms o)) ∧ Ext w4 W' := by
  obtain ⟨w5, hw5⟩ : ∃ w5, ((w4.alloc (.cells (ov o) 22)).alloc (.cells #[.slice p ms.length c] 23)).alloc (.cells #[.func (.func g) #[] lb] 69) = w5 := ⟨_, rfl⟩
  have hE : Ext w4 w5 := by rw [← hw5]; exact Ext.al (Ext.al (Ext.al (Ext.rf _) _) _) _
  have hs5 : w5.heap.size = w4.heap.size + 3 := by rw [← hw5]; simp
  have r0 : rowD w5 w4.heap.size = ov o := by rw [← hw5]; simp [go_sem]; intro h; omega
  have z0 : frzD w5 w4.heap.size = (0, 0) := by rw [← hw5]; simp [go_sem]
  have m0 : w5.cell? ⟨w4.heap.size + 1, 0, none⟩ = some (.slice p ms.length c) := by rw [← hw5, cell_rowD]; simp [go_sem]
  have q0 : w5.cell? ⟨w4.heap.size + 2, 0, none⟩ = some (.func (.func g) #[] lb) := by rw [← hw5, cell_rowD]; simp [go_sem]
  rw [hw5]
  clear hw5
  refine (collect_any 77 _ enters_leaving1 (fun k => k = w4.heap.size) (moveP (fun i => pr (o i)) ms o) w5 (moveP_len16 _ _ _) (fun k e => by omega) ?_).mono ?_
  · intro n U w' hE' hU
    have l0 : Lt w4.heap.size w5 := by unfold Lt; omega
    have l1 : Lt (w4.heap.size + 1) w5 := by unfold Lt; omega
    have l2 : Lt (w4.heap.size + 2) w5 := by unfold Lt; omega
    refine leaving_iter n o ms g lb eg pr p c w4 w' w4.heap.size (w4.heap.size + 2) (w4.heap.size + 1) U (hE.tr hE') hs hlen hcap hp hmm ?_
      ((hE'.cell (p := ⟨_, 0, none⟩) l1).trans m0) ((hE'.cell (p := ⟨_, 0, none⟩) l2).trans q0) (row_ext hE' l0 r0) (by unfold frzD at z0 ⊢; rw [hE'.block _ l0]; exact z0)
      (Nat.lt_of_lt_of_le l1 hE'.size) (Nat.lt_of_lt_of_le l2 hE'.size) (Nat.lt_of_lt_of_le l0 hE'.size) (by omega) (by omega) (Nat.le_refl _) (fun k hk => by have := hU k hk; exact ⟨by omega, by omega, by omega, by omega⟩)
    intro x W hm
    exact hso x W (Mv.ext_of (hE.tr hE') hm (fun k hk => by
      have := hE'.size
      rcases hk with h | h | h
      · omega
      · have := hU k h; omega
      · omega))
  · rintro e W' ⟨v, rfl, h1, h2⟩
    exact ⟨v, rfl, ownsRow_le h1 (by omega), Mv.ext_of hE h2 (fun k e => by omega)⟩

end Go.Proofs.Ytlacidecomflkaa
