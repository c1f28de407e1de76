/- Arrays of sixteen moves. -/
import Derived.Test.YtlacidecomflkaaD4
import Derived.Test.YtlacidecomflkaaZ2
set_option linter.unusedSimpArgs false
set_option linter.unusedVariables false
namespace Go.Proofs.Ytlacidecomflkaa
open Go.RowKit

theorem info_mov : (Try.prog.info? 63).map (·.size) = some 96 := by kernel_rfl
theorem loadVar_mov {w : World} {b : Nat} (h : (rowD w b).size = 96) : (loadVar 63 ⟨b, 0, none⟩).run Try.prog w = .ok (.agg (rowD w b)) w := by
  unfold rowD at h ⊢
  cases hg : w.heap[b]? with
  | none => rw [hg] at h; simp at h
  | some o =>
    rw [hg] at h
    cases o with
    | cells cs t fr => exact run_loadVar_row w b t _ cs fr _ hg Try.underlying63 rfl (by rw [info_mov]; simpa using h.symm)
    | _ => simp at h
theorem loadAt_mov {w : World} {b : Nat} (h : (rowD w b).size = 96) : (Instr.loadAt 63 (.pointer (some ⟨b, 0, none⟩))).run Try.prog w = .ok (.agg (rowD w b)) w := by
  simp only [Instr.loadAt, Instr.sureAddr, Sem.run_bind, Sem.run_pure, Result.andThen_ok]
  exact loadVar_mov h
theorem storeAt_mov {w : World} {b : Nat} (cs : Array Value) (hs : cs.size = 96) (h : (rowD w b).size = 96) (hz : frzD w b = (0, 0)) (h1 : cs.all (·.oneCell') = true) : (Instr.storeAt 63 (.pointer (some ⟨b, 0, none⟩)) (.agg cs)).run Try.prog w = .ok () (setRow w b cs) := by
  refine run_storeAt_mid w b 0 63 cs (fun j hj => ⟨?_, frozen_of_frz hz _⟩) (by rw [info_mov, hs]) h1
  rw [cell_rowD, Nat.zero_add, Array.getElem?_eq_getElem (by omega)]; rfl
@[go_sem ↓ high] theorem exec_load_mov (ρ : Operand → Value) (dst : Option Tmp) (x : Operand) (ty : TypeId) (pos : String) (after : Array Edge) (g : Option (Nat × Bool)) (w : World)
    (hx : ρ x = .pointer (some ⟨blkOf (ρ x), 0, none⟩)) (h : (rowD w (blkOf (ρ x))).size = 96) :
    (execOp ρ ⟨dst, .load 63 x, ty, pos, after, g⟩).run Try.prog w = .ok (.value (.agg (rowD w (blkOf (ρ x))))) w := by
  generalize hB : blkOf (ρ x) = B at *
  simp only [execOp, hx, Sem.run_bind, loadAt_mov h, Result.andThen_ok, Sem.run_pure]
@[go_sem ↓ high] theorem exec_store_mov (ρ : Operand → Value) (dst : Option Tmp) (x y : Operand) (ty : TypeId) (pos : String) (after : Array Edge) (g : Option (Nat × Bool)) (w : World)
    (hx : ρ x = .pointer (some ⟨blkOf (ρ x), 0, none⟩)) (hy : ρ y = .agg (ρ y).cells) (hs : (ρ y).cells.size = 96) (h : (rowD w (blkOf (ρ x))).size = 96) (hz : frzD w (blkOf (ρ x)) = (0, 0)) (h1 : oneC (ρ y).cells) :
    (execOp ρ ⟨dst, .store 63 x y, ty, pos, after, g⟩).run Try.prog w = .ok .skip (setRow w (blkOf (ρ x)) (ρ y).cells) := by
  generalize hB : blkOf (ρ x) = B at *
  generalize hC : (ρ y).cells = C at *
  simp only [execOp, hx, hy, Sem.run_bind, storeAt_mov _ hs h hz h1, Result.andThen_ok, Sem.run_pure]

def Mo.at (m : Mo) : Nat → Value
  | 0 => .int .u8 m.ph
  | 1 => .int .i64 m.cur
  | 2 => .int .i64 m.nxt
  | 3 => .int .i64 m.gen
  | 4 => .int .i64 m.tick
  | _ => .int .i64 m.ver
/-- The cells of sixteen moves. -/
def lm (l : Nat → Mo) : Array Value := rowv 96 fun j => (l (j / 6)).at (j % 6)
@[go_sem, simp] theorem size_lm (l : Nat → Mo) : (lm l).size = 96 := size_rowv _ _
theorem get_lm (l : Nat → Mo) (i j : Nat) (hi : i < 16) (hj : j < 6) : (lm l)[i * 6 + j]? = some ((l i).at j) := by
  unfold lm
  rw [get_rowv, if_pos (by omega), show (i * 6 + j) / 6 = i by omega, show (i * 6 + j) % 6 = j by omega]
theorem at_one (m : Mo) (j : Nat) : (m.at j).oneCell' = true := by
  unfold Mo.at
  split <;> rfl
@[go_sem] theorem all_lm (l : Nat → Mo) : oneC (lm l) := all_rowv _ _ fun j => at_one _ _
@[go_sem ↓ high] theorem cells_lm (l : Nat → Mo) : (Value.agg (lm l)).cells = lm l := rfl
theorem lm_congr (l l' : Nat → Mo) (h : ∀ i, i < 16 → l i = l' i) : lm l = lm l' := rowv_congr _ _ _ fun j hj => by rw [h (j / 6) (by omega)]
def updM (l : Nat → Mo) (k : Nat) (m : Mo) : Nat → Mo := fun i => if i = k then m else l i
/-- What a block of sixteen moves holds, move by move. -/
theorem cells_row {w : World} {b : Nat} {l : Nat → Mo} (h : rowD w b = lm l) (i : Nat) (hi : i < 16) :
    w.cell? ⟨b, i * 6, none⟩ = some (.int .u8 (l i).ph) ∧ w.cell? ⟨b, i * 6 + 1, none⟩ = some (.int .i64 (l i).cur) ∧ w.cell? ⟨b, i * 6 + 2, none⟩ = some (.int .i64 (l i).nxt) ∧
    w.cell? ⟨b, i * 6 + 3, none⟩ = some (.int .i64 (l i).gen) ∧ w.cell? ⟨b, i * 6 + 4, none⟩ = some (.int .i64 (l i).tick) ∧ w.cell? ⟨b, i * 6 + 5, none⟩ = some (.int .i64 (l i).ver) := by
  refine ⟨?_, ?_, ?_, ?_, ?_, ?_⟩ <;> rw [cell_rowD, h]
  · exact get_lm l i 0 hi (by omega)
  · exact get_lm l i 1 hi (by omega)
  · exact get_lm l i 2 hi (by omega)
  · exact get_lm l i 3 hi (by omega)
  · exact get_lm l i 4 hi (by omega)
  · exact get_lm l i 5 hi (by omega)
theorem set_lm (l : Nat → Mo) (k : Nat) (m : Mo) (hk : k < 16) :
    ((((((lm l).setIfInBounds (k * 6) (.int .u8 m.ph)).setIfInBounds (k * 6 + 1) (.int .i64 m.cur)).setIfInBounds (k * 6 + 2) (.int .i64 m.nxt)).setIfInBounds (k * 6 + 3) (.int .i64 m.gen)).setIfInBounds (k * 6 + 4) (.int .i64 m.tick)).setIfInBounds (k * 6 + 5) (.int .i64 m.ver) = lm (updM l k m) := by
  refine Array.ext_getElem? fun j => ?_
  simp only [Array.getElem?_setIfInBounds, Array.size_setIfInBounds, size_lm]
  by_cases hj : j < 96
  · have hg : (lm (updM l k m))[j]? = some ((updM l k m (j / 6)).at (j % 6)) := by unfold lm; rw [get_rowv, if_pos hj]
    have hl : (lm l)[j]? = some ((l (j / 6)).at (j % 6)) := by unfold lm; rw [get_rowv, if_pos hj]
    rw [hg, hl]
    by_cases h : j / 6 = k
    · have h6 : j % 6 < 6 := Nat.mod_lt _ (by omega)
      have hu : updM l k m (j / 6) = m := by unfold updM; rw [if_pos h]
      rw [hu]
      obtain h0 | h0 | h0 | h0 | h0 | h0 : j % 6 = 0 ∨ j % 6 = 1 ∨ j % 6 = 2 ∨ j % 6 = 3 ∨ j % 6 = 4 ∨ j % 6 = 5 := by omega
      · rw [h0, if_neg (by omega), if_neg (by omega), if_neg (by omega), if_neg (by omega), if_neg (by omega), if_pos (by omega), if_pos (by omega)]; rfl
      · rw [h0, if_neg (by omega), if_neg (by omega), if_neg (by omega), if_neg (by omega), if_pos (by omega), if_pos (by omega)]; rfl
      · rw [h0, if_neg (by omega), if_neg (by omega), if_neg (by omega), if_pos (by omega), if_pos (by omega)]; rfl
      · rw [h0, if_neg (by omega), if_neg (by omega), if_pos (by omega), if_pos (by omega)]; rfl
      · rw [h0, if_neg (by omega), if_pos (by omega), if_pos (by omega)]; rfl
      · rw [h0, if_pos (by omega), if_pos (by omega)]; rfl
    · have hu : updM l k m (j / 6) = l (j / 6) := by unfold updM; rw [if_neg h]
      rw [hu, if_neg (by omega), if_neg (by omega), if_neg (by omega), if_neg (by omega), if_neg (by omega), if_neg (by omega)]
  · rw [if_neg (by omega), if_neg (by omega), if_neg (by omega), if_neg (by omega), if_neg (by omega), if_neg (by omega), Array.getElem?_eq_none (by simp; omega), Array.getElem?_eq_none (by simp; omega)]
theorem isAgg_mo (w : World) : (isAgg 48).run Try.prog w = .ok true w := by kernel_rfl
theorem size_mo (w : World) : (sizeOf 48).run Try.prog w = .ok 6 w := by kernel_rfl
theorem extract_lm (l : Nat → Mo) (k : Nat) (hk : k < 16) : (lm l).extract (k * 6) (k * 6 + 6) = #[.int .u8 (l k).ph, .int .i64 (l k).cur, .int .i64 (l k).nxt, .int .i64 (l k).gen, .int .i64 (l k).tick, .int .i64 (l k).ver] := by
  refine Array.ext_getElem? fun j => ?_
  rw [Array.getElem?_extract]
  simp only [size_lm]
  by_cases hj : j < 6
  · rw [if_pos (by omega), get_lm l k j hk hj]
    obtain rfl | rfl | rfl | rfl | rfl | rfl : j = 0 ∨ j = 1 ∨ j = 2 ∨ j = 3 ∨ j = 4 ∨ j = 5 := by omega
    all_goals rfl
  · rw [if_neg (by omega), Array.getElem?_eq_none (by simp; omega)]
@[go_sem ↓ high] theorem index_mov (l : Nat → Mo) (k : Nat) (w : World) (h1 : (k : Int) < 16) : (Instr.index 63 (.agg (lm l)) (.int .i64 k)).run Try.prog w = .ok (l k).v w := by
  have hu : (underlying 63).run Try.prog w = .ok (.array 16 48) w := run_underlying Try.underlying63 w
  have h2 : ¬ (16 : Int) ≤ (k : Int) := by omega
  have h3 : k < 16 := by omega
  have hx := extract_lm l k h3
  simp [Instr.index, asIntOf, Sem.run_bind, hu, h2, h3, part, isAgg_mo, size_mo, hx]
/-- Nobody's moves, as a new variable has them. -/
def mz : Nat → Mo := fun _ => ⟨0, 0, 0, 0, 0, 0⟩
@[go_sem ↓ high] theorem exec_alloc_mov (ρ : Operand → Value) (dst : Option Tmp) (ty : TypeId) (pos : String) (after : Array Edge) (g : Option (Nat × Bool)) (w : World) :
    (execOp ρ ⟨dst, .alloc 63, ty, pos, after, g⟩).run Try.prog w = .ok (.value (.pointer (some ⟨w.heap.size, 0, none⟩))) (w.alloc (.cells (lm mz) 63)) := by kernel_rfl

end Go.Proofs.Ytlacidecomflkaa
