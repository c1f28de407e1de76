/- Rows of cells, whole. -/
import Derived.Test.YtookffaojlkfaaaA
import Derived.RangeFuncNested
set_option linter.unusedSimpArgs false
set_option linter.unusedVariables false
namespace Go.Proofs.Ytookffaojlkfaaa
open Go.RowKit
def upd {α : Type} (f : Nat → α) (k : Nat) (v : α) : Nat → α := fun i => if i = k then v else f i

/-- An array's cells: n of them, the i-th is f i. -/
def rowv (n : Nat) (f : Nat → Value) : Array Value := Array.ofFn (n := n) fun i => f i.1
@[go_sem, simp] theorem size_rowv (n : Nat) (f : Nat → Value) : (rowv n f).size = n := by simp [rowv]
theorem get_rowv (n : Nat) (f : Nat → Value) (i : Nat) : (rowv n f)[i]? = if i < n then some (f i) else none := by
  unfold rowv; simp [Array.getElem?_ofFn]
theorem set_rowv (n : Nat) (f : Nat → Value) (k : Nat) (v : Value) : (rowv n f).setIfInBounds k v = rowv n (upd f k v) := by
  apply Array.ext (by simp)
  intro i h1 h2
  simp only [rowv, upd, Array.getElem_setIfInBounds, Array.getElem_ofFn]
  by_cases h : k = i
  · subst h; simp
  · rw [if_neg (fun e => h e.symm), Array.getElem_setIfInBounds_ne (by simpa [rowv] using h1) h]; simp
theorem rowv_congr (n : Nat) (f g : Nat → Value) (h : ∀ i, i < n → f i = g i) : rowv n f = rowv n g := by
  apply Array.ext (by simp)
  intro i h1 h2
  simp at h1
  simp [rowv, h i h1]

/-- The cells of a block, if it is one of cells. -/
def rowD (w : World) (b : Nat) : Array Value := match w.heap[b]? with | some (.cells cs _ _) => cs | _ => #[]
theorem rowD_new (w : World) (cs : Array Value) (t : TypeId) (fr : Nat × Nat) : rowD (w.alloc (.cells cs t fr)) w.heap.size = cs := by
  unfold rowD; rw [World.alloc_heap_new]
theorem rowD_old (w : World) (o : Obj) (b : Nat) (h : b < w.heap.size) : rowD (w.alloc o) b = rowD w b := by
  unfold rowD; rw [Below.heap_alloc w o b h]
theorem rowD_same {w w' : World} {b : Nat} (h : w'.heap[b]? = w.heap[b]?) : rowD w' b = rowD w b := by unfold rowD; rw [h]
theorem cell_rowD (w : World) (b i : Nat) : w.cell? ⟨b, i, none⟩ = (rowD w b)[i]? := by
  unfold rowD World.cell?
  cases h : w.heap[b]? with
  | none => simp
  | some o => cases o <;> simp
theorem rowD_setCell (w : World) (b i : Nat) (v : Value) (b' : Nat) : rowD (w.setCell ⟨b, i, none⟩ v) b' = if b' = b then (rowD w b).setIfInBounds i v else rowD w b' := by
  unfold rowD World.setCell
  simp only [Array.getElem?_modify]
  by_cases h : b' = b
  · subst h
    simp only [if_true]
    cases hh : w.heap[b']? with
    | none => simp
    | some o => cases o <;> simp
  · rw [if_neg (fun e => h e.symm), if_neg h]

end Go.Proofs.Ytookffaojlkfaaa
