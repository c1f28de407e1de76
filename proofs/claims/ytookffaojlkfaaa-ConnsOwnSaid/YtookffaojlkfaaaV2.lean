/- Blocks of cells: whole stores, frozen ranges, what is kept by calls. -/
import Derived.Test.YtookffaojlkfaaaV
import Derived.Deep.MidRow
set_option linter.unusedSimpArgs false
set_option linter.unusedVariables false
namespace Go.Proofs.Ytookffaojlkfaaa
open Go.RowKit

/-- The frozen range of a block of cells. -/
def frzD (w : World) (b : Nat) : Nat × Nat := match w.heap[b]? with | some (.cells _ _ fr) => fr | _ => (0, 0)
theorem frozen_frzD (w : World) (b i : Nat) : w.frozen? ⟨b, i, none⟩ = (decide ((frzD w b).1 ≤ i) && decide (i < (frzD w b).2)) := by
  unfold frzD World.frozen?
  cases h : w.heap[b]? with
  | none => simp
  | some o => cases o <;> simp
theorem frozen_of_frz {w : World} {b : Nat} (h : frzD w b = (0, 0)) (i : Nat) : w.frozen? ⟨b, i, none⟩ = false := by rw [frozen_frzD, h]; simp
@[go_sem] theorem frzD_alloc (w : World) (cs : Array Value) (t : TypeId) (b : Nat) : frzD (w.alloc (.cells cs t)) b = if b = w.heap.size then (0, 0) else frzD w b := by
  by_cases h : b = w.heap.size
  · subst h; rw [if_pos rfl]; unfold frzD; rw [World.alloc_heap_new]
  · rw [if_neg h]; unfold frzD
    by_cases h2 : b < w.heap.size
    · rw [Below.heap_alloc _ _ _ h2]
    · rw [Array.getElem?_eq_none (by simp; omega), Array.getElem?_eq_none (by omega)]
@[go_sem] theorem frzD_drew (w : World) (b : Nat) : frzD w.drew b = frzD w b := rfl
@[go_sem] theorem frzD_drewN (w : World) (n b : Nat) : frzD (w.drewN n) b = frzD w b := rfl
@[go_sem] theorem frzD_setCell (w : World) (b' i : Nat) (v : Value) (b : Nat) : frzD (w.setCell ⟨b', i, none⟩ v) b = frzD w b := by
  unfold frzD World.setCell
  simp only [Array.getElem?_modify]
  by_cases h : b' = b
  · subst h
    simp only [if_true]
    cases hh : w.heap[b']? with
    | none => simp
    | some o => cases o <;> simp
  · rw [if_neg h]
@[go_sem] theorem rowD_alloc (w : World) (cs : Array Value) (t : TypeId) (b : Nat) : rowD (w.alloc (.cells cs t)) b = if b = w.heap.size then cs else rowD w b := by
  by_cases h : b = w.heap.size
  · subst h; rw [rowD_new]; simp
  · rw [if_neg h]; unfold rowD
    by_cases h2 : b < w.heap.size
    · rw [Below.heap_alloc _ _ _ h2]
    · rw [Array.getElem?_eq_none (by simp; omega), Array.getElem?_eq_none (by omega)]
@[go_sem] theorem rowD_drew (w : World) (b : Nat) : rowD w.drew b = rowD w b := rfl
@[go_sem] theorem rowD_drewN (w : World) (n b : Nat) : rowD (w.drewN n) b = rowD w b := rfl
attribute [go_sem] rowD_setCell

/-- A whole row is stored into the block b. -/
def setRow (w : World) (b : Nat) (cs : Array Value) : World := w.setCells b 0 cs.toList
theorem setCells_shape (b : Nat) : ∀ (vs : List Value) (o : Nat) (w : World), (w.setCells b o vs).heap.size = w.heap.size ∧ (∀ k, k ≠ b → (w.setCells b o vs).heap[k]? = w.heap[k]?) ∧ (w.setCells b o vs).os = w.os ∧ (w.setCells b o vs).tape = w.tape ∧ (w.setCells b o vs).output = w.output ∧ frzD (w.setCells b o vs) b = frzD w b
  | [], _, _ => ⟨rfl, fun _ _ => rfl, rfl, rfl, rfl, rfl⟩
  | v :: r, o, w => by
    rw [World.setCells]
    obtain ⟨h1, h2, h3, h4, h5, h6⟩ := setCells_shape b r (o + 1) (w.setCell ⟨b, o, none⟩ v)
    refine ⟨by rw [h1]; simp [World.setCell], fun k hk => ?_, h3, h4, h5, by rw [h6, frzD_setCell]⟩
    rw [h2 k hk]
    simp only [World.setCell, Array.getElem?_modify]
    rw [if_neg (fun e => hk e.symm)]
@[go_sem] theorem size_setRow (w : World) (b : Nat) (cs : Array Value) : (setRow w b cs).heap.size = w.heap.size := (setCells_shape b _ 0 w).1
theorem heap_setRow (w : World) (b : Nat) (cs : Array Value) (k : Nat) (h : k ≠ b) : (setRow w b cs).heap[k]? = w.heap[k]? := (setCells_shape b _ 0 w).2.1 k h
theorem rowD_setCells (b : Nat) : ∀ (vs : List Value) (o : Nat) (w : World), rowD (w.setCells b o vs) b = (vs.zipIdx o).foldl (fun cs x => cs.setIfInBounds x.2 x.1) (rowD w b)
  | [], _, _ => rfl
  | v :: r, o, w => by
    rw [World.setCells, rowD_setCells b r (o + 1), rowD_setCell, if_pos rfl]
    rfl
theorem setAll_get (vs : List Value) : ∀ (o : Nat) (cs : Array Value) (i : Nat), ((vs.zipIdx o).foldl (fun cs x => cs.setIfInBounds x.2 x.1) cs)[i]? = if o ≤ i ∧ i < o + vs.length ∧ i < cs.size then vs[i - o]? else cs[i]? := by
  induction vs with
  | nil => intro o cs i; rw [if_neg (by simp; omega)]; rfl
  | cons v r ih =>
    intro o cs i
    simp only [List.zipIdx_cons, List.foldl_cons]
    rw [ih]
    by_cases h0 : i = o
    · subst h0
      rw [if_neg (by omega)]
      by_cases hs : i < cs.size
      · rw [if_pos ⟨Nat.le_refl _, by simp, hs⟩]; simp [hs]
      · rw [if_neg (by omega), Array.getElem?_eq_none (by simpa using hs), Array.getElem?_eq_none (by omega)]
    · rw [Array.getElem?_setIfInBounds_ne (fun e => h0 e.symm)]
      simp only [Array.size_setIfInBounds, List.length_cons]
      by_cases h : o + 1 ≤ i ∧ i < o + 1 + r.length ∧ i < cs.size
      · rw [if_pos h, if_pos (by omega)]
        obtain ⟨k, rfl⟩ : ∃ k, i = o + 1 + k := ⟨i - (o + 1), by omega⟩
        rw [show o + 1 + k - (o + 1) = k by omega, show o + 1 + k - o = k + 1 by omega, List.getElem?_cons_succ]
      · rw [if_neg h, if_neg (by omega)]
theorem rowD_setRow_same (w : World) (b : Nat) (cs : Array Value) (h : (rowD w b).size = cs.size) : rowD (setRow w b cs) b = cs := by
  unfold setRow
  rw [rowD_setCells]
  apply Array.ext_getElem?
  intro i
  rw [setAll_get]
  by_cases hi : i < cs.size
  · rw [if_pos ⟨Nat.zero_le _, by simpa using hi, by omega⟩]; simp
  · rw [if_neg (by simp; omega), Array.getElem?_eq_none (by omega), Array.getElem?_eq_none (by omega)]
theorem rowD_setRow_other (w : World) (b b' : Nat) (cs : Array Value) (h : b' ≠ b) : rowD (setRow w b cs) b' = rowD w b' := rowD_same (heap_setRow w b cs b' h)
open Classical in
@[go_sem] theorem rowD_setRow (w : World) (b b' : Nat) (cs : Array Value) : rowD (setRow w b cs) b' = if b' = b then (if (rowD w b).size = cs.size then cs else rowD (setRow w b cs) b) else rowD w b' := by
  by_cases h : b' = b
  · subst h; rw [if_pos rfl]; split
    · exact rowD_setRow_same _ _ _ ‹_›
    · rfl
  · rw [if_neg h, rowD_setRow_other _ _ _ _ h]
@[go_sem] theorem frzD_setRow (w : World) (b b' : Nat) (cs : Array Value) : frzD (setRow w b cs) b' = frzD w b' := by
  by_cases h : b' = b
  · subst h; exact (setCells_shape b' _ 0 w).2.2.2.2.2
  · unfold frzD; rw [heap_setRow _ _ _ _ h]
@[go_sem] theorem Lt_setRow (w : World) (b b' : Nat) (cs : Array Value) : Lt b' (setRow w b cs) = Lt b' w := by unfold Lt; rw [size_setRow]
@[go_sem] theorem frozen_setRow (w : World) (b b' i : Nat) (cs : Array Value) : (setRow w b cs).frozen? ⟨b', i, none⟩ = w.frozen? ⟨b', i, none⟩ := by rw [frozen_frzD, frozen_frzD, frzD_setRow]
theorem Ext.sr {w W : World} {b : Nat} (cs : Array Value) (hp : w.heap.size ≤ b) (h : Ext w W) : Ext w (setRow W b cs) :=
  let s := setCells_shape b cs.toList 0 W
  h.trans ⟨s.2.2.1, s.2.2.2.1, s.2.2.2.2.1, by rw [size_setRow]; exact Nat.le_refl _, fun k hk => heap_setRow W b cs k (by omega)⟩

/-- Each is one cell. -/
def oneC (cs : Array Value) : Prop := cs.all (·.oneCell') = true
/-- The block that a pointer leads to. -/
def blkOf : Value → Nat | .pointer (some a) => a.block | _ => 0
@[go_sem] theorem blkOf_ptr (a : Addr) : blkOf (.pointer (some a)) = a.block := rfl
def rowX (w : World) (b : Nat) : Array Value := rowD w b
def frzX (w : World) (b : Nat) : Nat × Nat := frzD w b
open Classical in
/-- W is kept in w', rows too: rules without conditions. -/
abbrev KeptR (W w' : World) : Prop := (∀ b, rowD w' b = if Lt b W then rowD W b else rowX w' b) ∧ (∀ b, frzD w' b = if Lt b W then frzD W b else frzX w' b)
theorem keptR {W w' : World} (h : Below W.heap.size W w') : KeptR W w' := by
  refine ⟨fun b => ?_, fun b => ?_⟩
  · split
    · exact rowD_same (h.block b ‹Lt b W›)
    · rfl
  · split
    · unfold frzD; rw [h.block b ‹Lt b W›]
    · rfl

end Go.Proofs.Ytookffaojlkfaaa
