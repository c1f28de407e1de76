/- Lemmas of this claim, put together out of: A, V, V2, V4, X, C1, C2, C3, C4, Z, Z2, XR, C5, C6, C7, C8, C9, C10, C11, C12, C14, C15, C13, C16, J1, Y1, WB, D1, WD. -/
import Derived.Test.YtedamnocolfmlaaProg
import Derived.ScopeJumps
import Derived.Lib.Hide
import Derived.Deep.DeepFit
import Derived.Deep.DeepCutAuto
import Derived.WalkKit
import Derived.WalkSpells
import Derived.WalkLawsBesides
import Derived.Deep.QuietTactic
import Derived.BigQuiet
import Derived.Deep.RegionWith
import Derived.Deep.RegionHeld3
import Derived.RangeFuncNested
import Derived.Deep.MidRow
import Derived.Deep.Quiet
import Derived.Shelf.Abstract
import Derived.Maps.AppendAt
import Derived.OwnWalkIn
import Derived.TacticsInMore
import Derived.RangeFuncOne
import Derived.RangeFuncBound
import Derived.Deep.AppendLies
import Derived.RegionIn
import Derived.Lib.SliceRun
import Derived.Deep.RegionLaw
import Derived.Lib.Overlaps
import Derived.Lib.AppendZerosOnto
import Derived.Laws.IdiomCopy
import Derived.Laws.NewBlocks
import Derived.Laws.Externs
import Derived.TacticsIn
set_option linter.unusedSimpArgs false
set_option linter.unusedVariables false
/- Small lemmas on worlds and scopes that the walks of this seat share. -/
namespace Go.Proofs.Ytedamnocolfmlaa
open Go.RowKit

theorem wp_scope_fwd {P : Program} {a : Act} {w : World} {Q : Exit → Act → World → Prop} {c rest : Code} (l : Nat) (hf : findLabel c l = some rest)
    (first : c.wp P (Exit.jump l (fun a w => rest.wp P (Exit.noGoto Q) a w) Q) a w) : (Code.scope c).wp P Q a w := by
  refine wp_scope_jumps l _ (fun _ _ => 0) hf first ?_
  intro a w h
  refine wp_mono h ?_
  intro e a w q
  cases e <;> first | exact q | exact q.elim

/-- Block b lies in the world W. -/
def Lt (b : Nat) (W : World) : Prop := b < W.heap.size

section
variable {W : World} {b : Nat}
@[go_sem] theorem Lt_alloc (o : Obj) : Lt b (W.alloc o) = (b = W.heap.size ∨ Lt b W) := by
  unfold Lt; simp; omega
@[go_sem] theorem Lt_setCell (a : Addr) (v : Value) : Lt b (W.setCell a v) = Lt b W := by unfold Lt; simp [World.setCell]
@[go_sem] theorem Lt_drew : Lt b W.drew = Lt b W := rfl
@[go_sem] theorem Lt_drewN (n : Nat) : Lt b (W.drewN n) = Lt b W := rfl
@[go_sem] theorem cell_alloc_Lt (h : Lt b W) (o : Obj) (i : Nat) : (W.alloc o).cell? ⟨b, i, none⟩ = W.cell? ⟨b, i, none⟩ := World.cell?_alloc_past _ _ _ h
@[go_sem] theorem frozen_alloc_Lt (h : Lt b W) (o : Obj) (i : Nat) : (W.alloc o).frozen? ⟨b, i, none⟩ = W.frozen? ⟨b, i, none⟩ := World.frozen?_alloc_past _ _ _ h
@[go_sem] theorem Lt_ne (h : Lt b W) : (b = W.heap.size) = False := by unfold Lt at h; simp; omega
@[go_sem] theorem Lt_ne' (h : Lt b W) : (W.heap.size = b) = False := by unfold Lt at h; simp; omega
@[go_sem] theorem Lt_ne1 (h : Lt b W) : (b = W.heap.size + 1) = False := by unfold Lt at h; simp; omega
@[go_sem] theorem Lt_ne1' (h : Lt b W) : (W.heap.size + 1 = b) = False := by unfold Lt at h; simp; omega
@[go_sem] theorem Lt_ne2 (h : Lt b W) : (b = W.heap.size + 1 + 1) = False := by unfold Lt at h; simp; omega
@[go_sem] theorem Lt_ne2' (h : Lt b W) : (W.heap.size + 1 + 1 = b) = False := by unfold Lt at h; simp; omega
end

/-- The same as cell?, frozen?, Lt, for what is not known of a world. -/
def cellX (w : World) (b o : Nat) : Option Value := w.cell? ⟨b, o, none⟩
def frozenX (w : World) (b o : Nat) : Bool := w.frozen? ⟨b, o, none⟩
def LtX (b : Nat) (w : World) : Prop := b < w.heap.size

open Classical in
/-- W is kept in w', a world that is a letter: rules without conditions. -/
abbrev Kept (W w' : World) : Prop := (∀ b o, w'.cell? ⟨b, o, none⟩ = if Lt b W then W.cell? ⟨b, o, none⟩ else cellX w' b o) ∧ (∀ b o, w'.frozen? ⟨b, o, none⟩ = if Lt b W then W.frozen? ⟨b, o, none⟩ else frozenX w' b o) ∧ (∀ b, Lt b w' = (Lt b W ∨ LtX b w')) ∧ W.heap.size ≤ w'.heap.size ∧ Below W.heap.size W w'

theorem kept {W w' : World} (h : Below W.heap.size W w') : Kept W w' := by
  refine ⟨fun b o => ?_, fun b o => ?_, fun b => ?_, h.size, h⟩
  · split
    · exact h.cell (p := ⟨b, o, none⟩) ‹Lt b W›
    · rfl
  · split
    · exact h.frozen (p := ⟨b, o, none⟩) ‹Lt b W›
    · rfl
  · unfold Lt LtX
    have := h.size
    simp only [eq_iff_iff]
    omega

/-- W is kept in w', any world: rules under a condition. -/
abbrev Up (W w' : World) : Prop := (∀ b o, Lt b W → w'.cell? ⟨b, o, none⟩ = W.cell? ⟨b, o, none⟩) ∧ (∀ b o, Lt b W → w'.frozen? ⟨b, o, none⟩ = W.frozen? ⟨b, o, none⟩) ∧ (∀ b, Lt b W → Lt b w') ∧ W.heap.size ≤ w'.heap.size ∧ Below W.heap.size W w'

theorem up {W w' : World} (h : Below W.heap.size W w') : Up W w' :=
  ⟨fun b o hb => h.cell (p := ⟨b, o, none⟩) hb, fun b o hb => h.frozen (p := ⟨b, o, none⟩) hb, fun _ hb => Nat.lt_of_lt_of_le hb h.size, h.size, h⟩
theorem Up.start (W : World) : Up W W.drew := up ((Below.refl _ _).drew)
theorem Up.next {W w1 w2 : World} (h : Up W w1) (hb : Below w1.heap.size w1 w2) : Up W w2 := up (h.2.2.2.2.trans (hb.mono h.2.2.2.2.size))

theorem Up.al {W w1 : World} (h : Up W w1) (o : Obj) : Up W (w1.alloc o) := up (Below.alloc h.2.2.2.2 h.2.2.2.1 o)
theorem Up.dr {W w1 : World} (h : Up W w1) : Up W w1.drew := up (Below.drew h.2.2.2.2)
theorem Up.st {W w1 : World} (h : Up W w1) {p : Addr} (v : Value) (hp : W.heap.size ≤ p.block) : Up W (w1.setCell p v) := up (Below.setCell h.2.2.2.2 hp v)

theorem Up.st4 {W w1 : World} (h : Up W w1) {b o1 o2 o3 o4 : Nat} {v1 v2 v3 v4 : Value} (hp : W.heap.size ≤ b) : Up W ((((w1.setCell ⟨b, o1, none⟩ v1).setCell ⟨b, o2, none⟩ v2).setCell ⟨b, o3, none⟩ v3).setCell ⟨b, o4, none⟩ v4) :=
  Up.st (Up.st (Up.st (Up.st h _ hp) _ hp) _ hp) _ hp

/-- Only blocks from the size of w on are new, or written. -/
abbrev Ext (w w' : World) : Prop := Below w.heap.size w w'
theorem Ext.rf (w : World) : Ext w w := Below.refl _ _
theorem Ext.al {w W : World} (h : Ext w W) (o : Obj) : Ext w (W.alloc o) := Below.alloc h h.size o
theorem Ext.dr {w W : World} (h : Ext w W) : Ext w W.drew := Below.drew h
theorem Ext.dn {w W : World} (h : Ext w W) (n : Nat) : Ext w (W.drewN n) := ⟨h.os, h.tape, h.output, h.size, h.block⟩
theorem Ext.st {w W : World} {p : Addr} (v : Value) (hp : w.heap.size ≤ p.block) (h : Ext w W) : Ext w (W.setCell p v) := Below.setCell h hp v
theorem Ext.tr {w W W' : World} (h : Ext w W) (hb : Ext W W') : Ext w W' := h.trans (hb.mono h.size)
theorem up_ext {W w' : World} (h : Up W w') : Ext W w' := h.2.2.2.2
theorem Ext.of {w W W' : World} (e : Hid (W = W')) (h : Ext w W') : Ext w W := by rw [e.out]; exact h

theorem wp_named {P : Program} {c : Code} {Q : Exit → Act → World → Prop} {a : Act} {w : World}
    (h : ∀ W : World, (∀ b o, W.cell? ⟨b, o, none⟩ = w.cell? ⟨b, o, none⟩) → (∀ b o, W.frozen? ⟨b, o, none⟩ = w.frozen? ⟨b, o, none⟩) → (∀ b, Lt b W = Lt b w) → W.heap.size = w.heap.size → Hid (W = w) → c.wp P Q a W) : c.wp P Q a w :=
  h w (fun _ _ => rfl) (fun _ _ => rfl) (fun _ => rfl) rfl rfl

theorem ret_bool {a b : Bool} (h : a = b) : Ending.returned (.bool a) = .returned (.bool b) := by rw [h]


theorem ret_bool2 {v : Value} {a b : Bool} (h : a = b) : Ending.returned (.tuple #[v, .bool a]) = .returned (.tuple #[v, .bool b]) := by rw [h]

end Go.Proofs.Ytedamnocolfmlaa

/- Rows of cells, whole. -/
namespace Go.Proofs.Ytedamnocolfmlaa
open Go.RowKit
def upd {α : Type} (f : Nat → α) (k : Nat) (v : α) : Nat → α := fun i => if i = k then v else f i

/-- An array's cells: n of them, the i-th is f i. -/
def rowv (n : Nat) (f : Nat → Value) : Array Value := Array.ofFn (n := n) fun i => f i.1
@[go_sem, simp] theorem size_rowv (n : Nat) (f : Nat → Value) : (rowv n f).size = n := by simp [rowv]
theorem get_rowv (n : Nat) (f : Nat → Value) (i : Nat) : (rowv n f)[i]? = if i < n then some (f i) else none := by
  unfold rowv; simp [Array.getElem?_ofFn]
theorem set_rowv (n : Nat) (f : Nat → Value) (k : Nat) (v : Value) : (rowv n f).setIfInBounds k v = rowv n (upd f k v) := by
  apply Array.ext (by simp)
  intro i h1 h2
  simp only [rowv, upd, Array.getElem_setIfInBounds, Array.getElem_ofFn]
  by_cases h : k = i
  · subst h; simp
  · rw [if_neg (fun e => h e.symm), Array.getElem_setIfInBounds_ne (by simpa [rowv] using h1) h]; simp
theorem rowv_congr (n : Nat) (f g : Nat → Value) (h : ∀ i, i < n → f i = g i) : rowv n f = rowv n g := by
  apply Array.ext (by simp)
  intro i h1 h2
  simp at h1
  simp [rowv, h i h1]

/-- The cells of a block, if it is one of cells. -/
def rowD (w : World) (b : Nat) : Array Value := match w.heap[b]? with | some (.cells cs _ _) => cs | _ => #[]
theorem rowD_new (w : World) (cs : Array Value) (t : TypeId) (fr : Nat × Nat) : rowD (w.alloc (.cells cs t fr)) w.heap.size = cs := by
  unfold rowD; rw [World.alloc_heap_new]
theorem rowD_old (w : World) (o : Obj) (b : Nat) (h : b < w.heap.size) : rowD (w.alloc o) b = rowD w b := by
  unfold rowD; rw [Below.heap_alloc w o b h]
theorem rowD_same {w w' : World} {b : Nat} (h : w'.heap[b]? = w.heap[b]?) : rowD w' b = rowD w b := by unfold rowD; rw [h]
theorem cell_rowD (w : World) (b i : Nat) : w.cell? ⟨b, i, none⟩ = (rowD w b)[i]? := by
  unfold rowD World.cell?
  cases h : w.heap[b]? with
  | none => simp
  | some o => cases o <;> simp
theorem rowD_setCell (w : World) (b i : Nat) (v : Value) (b' : Nat) : rowD (w.setCell ⟨b, i, none⟩ v) b' = if b' = b then (rowD w b).setIfInBounds i v else rowD w b' := by
  unfold rowD World.setCell
  simp only [Array.getElem?_modify]
  by_cases h : b' = b
  · subst h
    simp only [if_true]
    cases hh : w.heap[b']? with
    | none => simp
    | some o => cases o <;> simp
  · rw [if_neg (fun e => h e.symm), if_neg h]

end Go.Proofs.Ytedamnocolfmlaa

/- Blocks of cells: whole stores, frozen ranges, what is kept by calls. -/
namespace Go.Proofs.Ytedamnocolfmlaa
open Go.RowKit

/-- The frozen range of a block of cells. -/
def frzD (w : World) (b : Nat) : Nat × Nat := match w.heap[b]? with | some (.cells _ _ fr) => fr | _ => (0, 0)
theorem frozen_frzD (w : World) (b i : Nat) : w.frozen? ⟨b, i, none⟩ = (decide ((frzD w b).1 ≤ i) && decide (i < (frzD w b).2)) := by
  unfold frzD World.frozen?
  cases h : w.heap[b]? with
  | none => simp
  | some o => cases o <;> simp
theorem frozen_of_frz {w : World} {b : Nat} (h : frzD w b = (0, 0)) (i : Nat) : w.frozen? ⟨b, i, none⟩ = false := by rw [frozen_frzD, h]; simp
@[go_sem] theorem frzD_alloc (w : World) (cs : Array Value) (t : TypeId) (b : Nat) : frzD (w.alloc (.cells cs t)) b = if b = w.heap.size then (0, 0) else frzD w b := by
  by_cases h : b = w.heap.size
  · subst h; rw [if_pos rfl]; unfold frzD; rw [World.alloc_heap_new]
  · rw [if_neg h]; unfold frzD
    by_cases h2 : b < w.heap.size
    · rw [Below.heap_alloc _ _ _ h2]
    · rw [Array.getElem?_eq_none (by simp; omega), Array.getElem?_eq_none (by omega)]
@[go_sem] theorem frzD_drew (w : World) (b : Nat) : frzD w.drew b = frzD w b := rfl
@[go_sem] theorem frzD_drewN (w : World) (n b : Nat) : frzD (w.drewN n) b = frzD w b := rfl
@[go_sem] theorem frzD_setCell (w : World) (b' i : Nat) (v : Value) (b : Nat) : frzD (w.setCell ⟨b', i, none⟩ v) b = frzD w b := by
  unfold frzD World.setCell
  simp only [Array.getElem?_modify]
  by_cases h : b' = b
  · subst h
    simp only [if_true]
    cases hh : w.heap[b']? with
    | none => simp
    | some o => cases o <;> simp
  · rw [if_neg h]
@[go_sem] theorem rowD_alloc (w : World) (cs : Array Value) (t : TypeId) (b : Nat) : rowD (w.alloc (.cells cs t)) b = if b = w.heap.size then cs else rowD w b := by
  by_cases h : b = w.heap.size
  · subst h; rw [rowD_new]; simp
  · rw [if_neg h]; unfold rowD
    by_cases h2 : b < w.heap.size
    · rw [Below.heap_alloc _ _ _ h2]
    · rw [Array.getElem?_eq_none (by simp; omega), Array.getElem?_eq_none (by omega)]
@[go_sem] theorem rowD_drew (w : World) (b : Nat) : rowD w.drew b = rowD w b := rfl
@[go_sem] theorem rowD_drewN (w : World) (n b : Nat) : rowD (w.drewN n) b = rowD w b := rfl
attribute [go_sem] rowD_setCell

/-- A whole row is stored into the block b. -/
def setRow (w : World) (b : Nat) (cs : Array Value) : World := w.setCells b 0 cs.toList
theorem setCells_shape (b : Nat) : ∀ (vs : List Value) (o : Nat) (w : World), (w.setCells b o vs).heap.size = w.heap.size ∧ (∀ k, k ≠ b → (w.setCells b o vs).heap[k]? = w.heap[k]?) ∧ (w.setCells b o vs).os = w.os ∧ (w.setCells b o vs).tape = w.tape ∧ (w.setCells b o vs).output = w.output ∧ frzD (w.setCells b o vs) b = frzD w b
  | [], _, _ => ⟨rfl, fun _ _ => rfl, rfl, rfl, rfl, rfl⟩
  | v :: r, o, w => by
    rw [World.setCells]
    obtain ⟨h1, h2, h3, h4, h5, h6⟩ := setCells_shape b r (o + 1) (w.setCell ⟨b, o, none⟩ v)
    refine ⟨by rw [h1]; simp [World.setCell], fun k hk => ?_, h3, h4, h5, by rw [h6, frzD_setCell]⟩
    rw [h2 k hk]
    simp only [World.setCell, Array.getElem?_modify]
    rw [if_neg (fun e => hk e.symm)]
@[go_sem] theorem size_setRow (w : World) (b : Nat) (cs : Array Value) : (setRow w b cs).heap.size = w.heap.size := (setCells_shape b _ 0 w).1
theorem heap_setRow (w : World) (b : Nat) (cs : Array Value) (k : Nat) (h : k ≠ b) : (setRow w b cs).heap[k]? = w.heap[k]? := (setCells_shape b _ 0 w).2.1 k h
theorem rowD_setCells (b : Nat) : ∀ (vs : List Value) (o : Nat) (w : World), rowD (w.setCells b o vs) b = (vs.zipIdx o).foldl (fun cs x => cs.setIfInBounds x.2 x.1) (rowD w b)
  | [], _, _ => rfl
  | v :: r, o, w => by
    rw [World.setCells, rowD_setCells b r (o + 1), rowD_setCell, if_pos rfl]
    rfl
theorem setAll_get (vs : List Value) : ∀ (o : Nat) (cs : Array Value) (i : Nat), ((vs.zipIdx o).foldl (fun cs x => cs.setIfInBounds x.2 x.1) cs)[i]? = if o ≤ i ∧ i < o + vs.length ∧ i < cs.size then vs[i - o]? else cs[i]? := by
  induction vs with
  | nil => intro o cs i; rw [if_neg (by simp; omega)]; rfl
  | cons v r ih =>
    intro o cs i
    simp only [List.zipIdx_cons, List.foldl_cons]
    rw [ih]
    by_cases h0 : i = o
    · subst h0
      rw [if_neg (by omega)]
      by_cases hs : i < cs.size
      · rw [if_pos ⟨Nat.le_refl _, by simp, hs⟩]; simp [hs]
      · rw [if_neg (by omega), Array.getElem?_eq_none (by simpa using hs), Array.getElem?_eq_none (by omega)]
    · rw [Array.getElem?_setIfInBounds_ne (fun e => h0 e.symm)]
      simp only [Array.size_setIfInBounds, List.length_cons]
      by_cases h : o + 1 ≤ i ∧ i < o + 1 + r.length ∧ i < cs.size
      · rw [if_pos h, if_pos (by omega)]
        obtain ⟨k, rfl⟩ : ∃ k, i = o + 1 + k := ⟨i - (o + 1), by omega⟩
        rw [show o + 1 + k - (o + 1) = k by omega, show o + 1 + k - o = k + 1 by omega, List.getElem?_cons_succ]
      · rw [if_neg h, if_neg (by omega)]
theorem rowD_setRow_same (w : World) (b : Nat) (cs : Array Value) (h : (rowD w b).size = cs.size) : rowD (setRow w b cs) b = cs := by
  unfold setRow
  rw [rowD_setCells]
  apply Array.ext_getElem?
  intro i
  rw [setAll_get]
  by_cases hi : i < cs.size
  · rw [if_pos ⟨Nat.zero_le _, by simpa using hi, by omega⟩]; simp
  · rw [if_neg (by simp; omega), Array.getElem?_eq_none (by omega), Array.getElem?_eq_none (by omega)]
theorem rowD_setRow_other (w : World) (b b' : Nat) (cs : Array Value) (h : b' ≠ b) : rowD (setRow w b cs) b' = rowD w b' := rowD_same (heap_setRow w b cs b' h)
open Classical in
@[go_sem] theorem rowD_setRow (w : World) (b b' : Nat) (cs : Array Value) : rowD (setRow w b cs) b' = if b' = b then (if (rowD w b).size = cs.size then cs else rowD (setRow w b cs) b) else rowD w b' := by
  by_cases h : b' = b
  · subst h; rw [if_pos rfl]; split
    · exact rowD_setRow_same _ _ _ ‹_›
    · rfl
  · rw [if_neg h, rowD_setRow_other _ _ _ _ h]
@[go_sem] theorem frzD_setRow (w : World) (b b' : Nat) (cs : Array Value) : frzD (setRow w b cs) b' = frzD w b' := by
  by_cases h : b' = b
  · subst h; exact (setCells_shape b' _ 0 w).2.2.2.2.2
  · unfold frzD; rw [heap_setRow _ _ _ _ h]
@[go_sem] theorem Lt_setRow (w : World) (b b' : Nat) (cs : Array Value) : Lt b' (setRow w b cs) = Lt b' w := by unfold Lt; rw [size_setRow]
@[go_sem] theorem frozen_setRow (w : World) (b b' i : Nat) (cs : Array Value) : (setRow w b cs).frozen? ⟨b', i, none⟩ = w.frozen? ⟨b', i, none⟩ := by rw [frozen_frzD, frozen_frzD, frzD_setRow]
theorem Ext.sr {w W : World} {b : Nat} (cs : Array Value) (hp : w.heap.size ≤ b) (h : Ext w W) : Ext w (setRow W b cs) :=
  let s := setCells_shape b cs.toList 0 W
  h.trans ⟨s.2.2.1, s.2.2.2.1, s.2.2.2.2.1, by rw [size_setRow]; exact Nat.le_refl _, fun k hk => heap_setRow W b cs k (by omega)⟩

/-- Each is one cell. -/
def oneC (cs : Array Value) : Prop := cs.all (·.oneCell') = true
/-- The block that a pointer leads to. -/
def blkOf : Value → Nat | .pointer (some a) => a.block | _ => 0
@[go_sem] theorem blkOf_ptr (a : Addr) : blkOf (.pointer (some a)) = a.block := rfl
def rowX (w : World) (b : Nat) : Array Value := rowD w b
def frzX (w : World) (b : Nat) : Nat × Nat := frzD w b
open Classical in
/-- W is kept in w', rows too: rules without conditions. -/
abbrev KeptR (W w' : World) : Prop := (∀ b, rowD w' b = if Lt b W then rowD W b else rowX w' b) ∧ (∀ b, frzD w' b = if Lt b W then frzD W b else frzX w' b)
theorem keptR {W w' : World} (h : Below W.heap.size W w') : KeptR W w' := by
  refine ⟨fun b => ?_, fun b => ?_⟩
  · split
    · exact rowD_same (h.block b ‹Lt b W›)
    · rfl
  · split
    · unfold frzD; rw [h.block b ‹Lt b W›]
    · rfl

end Go.Proofs.Ytedamnocolfmlaa

/- Regions that draw their order and whose calls only make new blocks. -/
namespace Go.Proofs.Ytedamnocolfmlaa
open Go.RowKit

/-- The worlds in which W is kept. -/
def Later (W : World) : Type := { w : World // Ext W w }
def later {W : World} (d : Later W) : World := d.1
theorem later_ext {W : World} (d : Later W) : Ext W (later d) := d.2
instance {W : World} : Nonempty (Later W) := ⟨⟨W, Ext.rf W⟩⟩
open Classical in
@[go_sem] theorem cell_later {W : World} (d : Later W) (b o : Nat) : (later d).cell? ⟨b, o, none⟩ = if Lt b W then W.cell? ⟨b, o, none⟩ else cellX (later d) b o := (kept (later_ext d)).1 b o
open Classical in
@[go_sem] theorem frozen_later {W : World} (d : Later W) (b o : Nat) : (later d).frozen? ⟨b, o, none⟩ = if Lt b W then W.frozen? ⟨b, o, none⟩ else frozenX (later d) b o := (kept (later_ext d)).2.1 b o
@[go_sem] theorem Lt_later {W : World} (d : Later W) (b : Nat) : Lt b (later d) = (Lt b W ∨ LtX b (later d)) := (kept (later_ext d)).2.2.1 b
open Classical in
@[go_sem] theorem rowD_later {W : World} (d : Later W) (b : Nat) : rowD (later d) b = if Lt b W then rowD W b else rowX (later d) b := (keptR (later_ext d)).1 b
open Classical in
@[go_sem] theorem frzD_later {W : World} (d : Later W) (b : Nat) : frzD (later d) b = if Lt b W then frzD W b else frzX (later d) b := (keptR (later_ext d)).2 b
/-- A world in which W is kept. -/
def IsLater (W w' : World) : Prop := ∃ d : Later W, w' = later d
@[go_sem ↓ high] theorem quiet_later {P : Program} {o : Oper} {a : Act} {W : World} {K : Act → Prop} :
    Oper.quiet P o a (IsLater W) K = (∃ v, (∀ d : Later W, o.quietAt P a (IsLater W) (later d) v) ∧ K (a.put o.dst v)) := by
  unfold Oper.quiet
  refine propext (exists_congr fun v => and_congr_left' ⟨fun h d => h _ ⟨d, rfl⟩, fun h w hw => ?_⟩)
  obtain ⟨d, rfl⟩ := hw
  exact h d
theorem wp_region_later {P : Program} {id : Nat} {Q : Exit → Act → World → Prop} {a : Act} {w : World} {l : List Oper} (hm : P.follows .mixedOrders = true) (hB : Region.lexB .any l.toArray = true)
    (h : wpQuiet P l.toArray (IsLater w) (fun a' => ∀ d : Later w, Q .normal a' (later d)) l a) : (Code.region id l.toArray true).wp P Q a w :=
 by
  refine wp_region_quiet (C := IsLater w) hm hB ⟨⟨w.drew, Ext.dr (Ext.rf w)⟩, rfl⟩ ?_
  have e : (fun a' => ∀ w', IsLater w w' → Q .normal a' w') = (fun a' => ∀ d : Later w, Q .normal a' (later d)) := by
    funext a'
    exact propext ⟨fun h d => h _ ⟨d, rfl⟩, fun h w' ⟨d, hd⟩ => by rw [hd]; exact h d⟩
  rw [e]
  simpa using h
theorem calls_later {P : Program} {f : FuncId} {args : Array Value} {W : World} {d : Later W} {v : Value} (h : Calls P f args (later d) fun e w' => e = .returned v ∧ Ext (later d) w') :
    Calls P f args (later d) fun e w'' => e = .returned v ∧ IsLater W w'' :=
  h.mono fun _ w' ⟨he, hx⟩ => ⟨he, ⟨w', (later_ext d).tr hx⟩, rfl⟩
theorem calls_later_same {P : Program} {f : FuncId} {args : Array Value} {W : World} {d : Later W} {v : Value} (h : Calls P f args (later d) fun e w' => e = .returned v ∧ later d = w') :
    Calls P f args (later d) fun e w'' => e = .returned v ∧ IsLater W w'' :=
  h.mono fun _ w' ⟨he, hx⟩ => ⟨he, d, hx.symm⟩

end Go.Proofs.Ytedamnocolfmlaa

/- A region that draws: what reads, and calls that leave the world as it was, are taken first. (My own law; any program.) -/
namespace Go.Proofs.Ytedamnocolfmlaa
open Go.RowKit

section
variable {P : Program} {ops : Array Oper} {md : Region.Mode}
def xUpon (P : Program) (N : Value → World → Prop) : Result Next → Prop
  | .ok (.value u) w' => N u w'
  | .ok .skip w' => N undef w'
  | .ok (.enter f args) w' => Calls P f args w' (fun e w'' => ∃ v, e = .returned v ∧ N v w'')
  | _ => False
theorem xUpon_mono {N N' : Value → World → Prop} (h : ∀ v w, N v w → N' v w) : ∀ r : Result Next, xUpon P N r → xUpon P N' r
  | .ok (.value u) w', hh => h _ _ hh
  | .ok .skip w', hh => h _ _ hh
  | .ok (.enter f args) w', hh => Calls.mono hh fun e w'' ⟨v, h1, h2⟩ => ⟨v, h1, h _ _ h2⟩
def xOp (P : Program) (ops : Array Oper) (i : Nat) (K : Act → World → Prop) (a : Act) (w : World) : Prop :=
  match ops[i]? with
  | none => K a w
  | some o => if Region.wanted o (yielded ops a.tmps) = true then xUpon P (fun v w' => K (a.put o.dst v) w') ((execOp a.eval o).run P w) else K (a.put o.dst undef) w
theorem xOp_mono {i : Nat} {a : Act} {w : World} {K K' : Act → World → Prop} (h : ∀ a w, K a w → K' a w) (hh : xOp P ops i K a w) : xOp P ops i K' a w := by
  unfold xOp at *
  split
  · exact h _ _ (by simpa [*] using hh)
  · rename_i o ho
    simp only [ho] at hh
    split
    · rename_i hw; simp only [hw, if_true] at hh; exact xUpon_mono (fun v w' h1 => h _ _ h1) _ hh
    · rename_i hw; simp only [hw] at hh; exact h _ _ hh
theorem wpOp_of_xOp {i : Nat} {a : Act} {w : World} {K : Act → World → Prop} {Q : Exit → Act → World → Prop} (hh : xOp P ops i K a w) : wpOp P ops Q i K a w := by
  unfold xOp at hh
  unfold wpOp
  split
  · rename_i ho; simp only [ho] at hh; exact hh
  · rename_i o ho
    simp only [ho] at hh
    split
    · rename_i hw
      simp only [hw, if_true] at hh
      left
      unfold Oper.wp
      generalize (execOp a.eval o).run P w = r at *
      cases r with
      | ok n w' =>
        cases n <;> simp only [xUpon] at hh <;> simp only [Oper.upon]
        case value u => exact hh
        case skip => exact hh
        case enter f args => exact hh.mono fun e w'' ⟨v, he, hw''⟩ => by subst he; exact hw''
      | halt x w' => simp only [xUpon] at hh
    · rename_i hw; simp only [hw] at hh; exact hh
/-- Whatever order is picked from here on; each operation makes new blocks alone. -/
def wpAnyX (P : Program) (md : Region.Mode) (ops : Array Oper) (Q : Act → World → Prop) : Nat → Array Bool → Act → World → Prop
  | 0, listed, a, w => Region.ready md ops listed = [] ∧ Q a w
  | fuel + 1, listed, a, w => (Region.ready md ops listed = [] → Q a w) ∧
    ∀ i ∈ Region.ready md ops listed, xOp P ops i (fun a' w' => Ext w w' ∧ wpAnyX P md ops Q fuel (listed.setIfInBounds i true) a' w') a w
theorem wpAny_of_X {Q : Act → World → Prop} {Q' : Exit → Act → World → Prop} (hQ : ∀ a w, Q a w → Q' .normal a w) : ∀ (fuel : Nat) (listed : Array Bool) (a : Act) (w : World),
    wpAnyX P md ops Q fuel listed a w → wpAny P md ops Q' fuel listed a w
  | 0, _, _, _, h => ⟨h.1, hQ _ _ h.2⟩
  | fuel + 1, _, _, _, h => ⟨fun h0 => hQ _ _ (h.1 h0), fun i hi => wpOp_of_xOp (xOp_mono (fun a' w' h1 => wpAny_of_X hQ fuel _ a' w' h1.2) (h.2 i hi))⟩
/-- In state 'a', in every world that w grows to, 'o' yields v and does nothing else. -/
def YieldsX (P : Program) (ops : Array Oper) (w : World) (o : Oper) (v : Value) (a : Act) : Prop :=
  (Region.wanted o (yielded ops a.tmps) = true ∧ ∀ w', Ext w w' → (execOp a.eval o).run P w' = .ok (.value v) w') ∨ (Region.wanted o (yielded ops a.tmps) = false ∧ v = undef) ∨
    (Region.wanted o (yielded ops a.tmps) = true ∧ ∃ f args, ∀ w', Ext w w' → (execOp a.eval o).run P w' = .ok (.enter f args) w' ∧ Calls P f args w' fun e w'' => e = .returned v ∧ w'' = w')
theorem YieldsX.later {w w' : World} {o : Oper} {v : Value} {a : Act} (h : YieldsX P ops w o v a) (e : Ext w w') : YieldsX P ops w' o v a := by
  rcases h with ⟨h1, h2⟩ | h | ⟨h1, f, args, h2⟩
  · exact .inl ⟨h1, fun w2 e2 => h2 w2 (e.tr e2)⟩
  · exact .inr (.inl h)
  · exact .inr (.inr ⟨h1, f, args, fun w2 e2 => h2 w2 (e.tr e2)⟩)
theorem YieldsX.xOp {w : World} {i : Nat} {o : Oper} {v : Value} {a : Act} (hi : ops[i]? = some o) (hy : YieldsX P ops w o v a) {K : Act → World → Prop} (h : K (a.put o.dst v) w) : xOp P ops i K a w := by
  unfold Go.Proofs.Ytedamnocolfmlaa.xOp
  simp only [hi]
  rcases hy with ⟨hw, hv⟩ | ⟨hw, rfl⟩ | ⟨hw, f, args, hv⟩
  · simp only [hw, if_true, hv w (Ext.rf _), xUpon]; exact h
  · simp only [hw, Bool.false_eq_true, if_false]; exact h
  · simp only [hw, if_true, (hv w (Ext.rf _)).1, xUpon]
    exact (hv w (Ext.rf _)).2.mono fun e w'' ⟨h1, h2⟩ => ⟨v, h1, by rw [h2]; exact h⟩
theorem xOp_put {j : Nat} {oi oj : Oper} {v : Value} {w : World} (hj : ops[j]? = some oj) (hap : oi.apart ops oj = true)
    (hsi : ∀ cs b, oi.op ≠ .select cs b) (hsj : ∀ cs b, oj.op ≠ .select cs b) {K : Act → World → Prop} {a : Act}
    (hy : YieldsX P ops w oi v a) (h : xOp P ops j K (a.put oi.dst v) w) :
    xOp P ops j (fun a' w' => YieldsX P ops w oi v a' ∧ K (a'.put oi.dst v) w') a w := by
  obtain ⟨h1, h2, h3⟩ := Oper.apart_spec hap
  have keep : ∀ u, YieldsX P ops w oi v (a.put oj.dst u) := fun u => by
    unfold YieldsX at *
    rw [execOp_put oi hsi a oj.dst u h3, wanted_put oi a oj.dst u h3]
    exact hy
  unfold xOp at *
  simp only [hj] at *
  rw [wanted_put oj a oi.dst v h1] at h
  split
  · rename_i hw
    simp only [hw, if_true] at h
    rw [execOp_put oj hsj a oi.dst v h1] at h
    exact xUpon_mono (fun u w' h4 => ⟨keep u, by rw [← Act.put_comm a v u h2]; exact h4⟩) _ h
  · rename_i hw
    simp only [hw] at h
    exact ⟨keep _, by rw [← Act.put_comm a v undef h2]; exact h⟩
/-- What reads may be taken first. -/
theorem wpAnyX_first {Q : Act → World → Prop} {i : Nat} {oi : Oper} {v : Value} (hi : ops[i]? = some oi) (hsel : ∀ (j : Nat) (o : Oper) cs b, ops[j]? = some o → o.op ≠ .select cs b) :
    ∀ (fuel : Nat) (listed : Array Bool) (a : Act) (w : World),
      (∀ j oj, ops[j]? = some oj → j ≠ i → listed.getD j true = false → (∀ e ∈ oj.after, Region.binds md e = true → e.on ≠ i) → oi.apart ops oj = true) →
      i ∈ Region.ready md ops listed → YieldsX P ops w oi v a →
      wpAnyX P md ops Q fuel (listed.setIfInBounds i true) (a.put oi.dst v) w → wpAnyX P md ops Q (fuel + 1) listed a w := by
  intro fuel
  induction fuel with
  | zero =>
    intro listed a w _ hr hy H
    refine ⟨fun h => (by rw [h] at hr; cases hr), fun j hj => ?_⟩
    by_cases hji : j = i
    · subst hji; exact hy.xOp hi ⟨Ext.rf _, H⟩
    · have := ready_mono hj hji
      rw [H.1] at this
      cases this
  | succ fuel ih =>
    intro listed a w hfree hr hy H
    refine ⟨fun h => (by rw [h] at hr; cases hr), fun j hj => ?_⟩
    by_cases hji : j = i
    · subst hji; exact hy.xOp hi ⟨Ext.rf _, H⟩
    · have h1 := H.2 j (ready_mono hj hji)
      obtain ⟨hjun, oj, hoj, hall⟩ := mem_ready.1 hj
      have hnot : ∀ e ∈ oj.after, Region.binds md e = true → e.on ≠ i := fun e he hb heq => by
        have h1 := hall e he hb
        have h0 := (mem_ready.1 hr).1
        rw [heq] at h1
        rcases Nat.lt_or_ge i listed.size with h' | h'
        · simp [h'] at h0 h1; rw [h0] at h1; cases h1
        · simp [Array.getElem?_eq_none h'] at h1
      have h2 := xOp_put hoj (hfree j oj hoj hji hjun hnot) (fun cs b => hsel i oi cs b hi) (fun cs b => hsel j oj cs b hoj) hy h1
      have hfree' : ∀ k ok, ops[k]? = some ok → k ≠ i → (listed.setIfInBounds j true).getD k true = false →
          (∀ e ∈ ok.after, Region.binds md e = true → e.on ≠ i) → oi.apart ops ok = true := fun k ok hk hki hun hno => by
        refine hfree k ok hk hki ?_ hno
        by_cases hjk : j = k
        · subst hjk; exact hjun
        · rw [getD_set_ne true hjk] at hun; exact hun
      refine xOp_mono (fun a' w' h3 => ⟨h3.2.1, ih (listed.setIfInBounds j true) a' w' hfree' (ready_mono hr (Ne.symm hji)) (h3.1.later h3.2.1) ?_⟩) h2
      have h4 := h3.2.2
      rw [Array.setIfInBounds_comm _ _ hji]
      exact h4
theorem takeC {Q : Act → World → Prop} {n k : Nat} {oi : Oper} {v : Value} {fuel : Nat} {listed : Array Bool} {a : Act} {w : World} {f : FuncId} {args : Array Value} (hi : ops[k]? = some oi) (hs : Region.noSelect ops = true)
    (hf : Region.free md ops listed k = true) (hr : (Region.ready md ops listed).contains k = true) (hw : Region.wanted oi (yielded ops a.tmps) = true)
    (he : ∀ w', Ext w w' → (execOp a.eval oi).run P w' = .ok (.enter f args) w') (hc : ∀ w', Ext w w' → Calls P f args w' fun e w'' => e = .returned v ∧ w'' = w')
    (H : wpAnyX P md ops Q fuel (listed.setIfInBounds k true) (a.put oi.dst v) w) : wpAnyX P md ops Q (fuel + 1) listed a w :=
  wpAnyX_first hi (Region.noSelect_spec hs) fuel listed a w (Region.free_spec hi hf) (by simpa using hr) (.inr (.inr ⟨hw, f, args, fun w' h => ⟨he w' h, hc w' h⟩⟩)) H
/-- What comes up alone. -/
theorem wpAnyX_sole {Q : Act → World → Prop} {i : Nat} {fuel : Nat} {listed : Array Bool} {a : Act} {w : World} (hr : Region.ready md ops listed = [i])
    (h : xOp P ops i (fun a' w' => Ext w w' ∧ wpAnyX P md ops Q fuel (listed.setIfInBounds i true) a' w') a w) : wpAnyX P md ops Q (fuel + 1) listed a w :=
  by
    refine ⟨fun h0 => ?_, fun j hj => ?_⟩
    · rw [hr] at h0; cases h0
    · rw [hr] at hj
      obtain rfl : j = i := by simpa using hj
      exact h
theorem takeX {Q : Act → World → Prop} {i : Nat} {oi : Oper} {v : Value} {fuel : Nat} {listed : Array Bool} {a : Act} {w : World} (hi : ops[i]? = some oi) (hs : Region.noSelect ops = true)
    (hf : Region.free md ops listed i = true) (hr : (Region.ready md ops listed).contains i = true) (hw : Region.wanted oi (yielded ops a.tmps) = true)
    (hy : ∀ w', Ext w w' → (execOp a.eval oi).run P w' = .ok (.value v) w')
    (H : wpAnyX P md ops Q fuel (listed.setIfInBounds i true) (a.put oi.dst v) w) : wpAnyX P md ops Q (fuel + 1) listed a w :=
  wpAnyX_first hi (Region.noSelect_spec hs) fuel listed a w (Region.free_spec hi hf) (by simpa using hr) (.inl ⟨hw, hy⟩) H
theorem soleX {Q : Act → World → Prop} {i : Nat} {oi : Oper} {fuel : Nat} {listed : Array Bool} {a : Act} {w : World} (hi : ops[i]? = some oi) (hr : Region.ready md ops listed = [i]) (hw : Region.wanted oi (yielded ops a.tmps) = true)
    (H : xUpon P (fun v w' => Ext w w' ∧ wpAnyX P md ops Q fuel (listed.setIfInBounds i true) (a.put oi.dst v) w') ((execOp a.eval oi).run P w)) : wpAnyX P md ops Q (fuel + 1) listed a w :=
  wpAnyX_sole hr (by unfold xOp; simp only [hi, hw, if_true]; exact H)
theorem doneX {Q : Act → World → Prop} {fuel : Nat} {listed : Array Bool} {a : Act} {w : World} (hr : Region.ready md ops listed = []) (H : Q a w) : wpAnyX P md ops Q fuel listed a w := by
  cases fuel with
  | zero => exact ⟨hr, H⟩
  | succ n => exact ⟨fun _ => H, fun i hi => by rw [hr] at hi; cases hi⟩
theorem wp_region_X {id : Nat} {Q : Exit → Act → World → Prop} {a : Act} {w : World} (hm : P.follows .mixedOrders = true)
    (h : wpAnyX P .any ops (fun a w => Q .normal a w) ops.size (Array.replicate ops.size false) a w.drew) : (Code.region id ops true).wp P Q a w :=
  wp_region_any hm (wpAny_of_X (fun _ _ h => h) _ _ _ _ h)
/-- A call that comes up alone. -/
theorem callX {Q : Act → World → Prop} {i : Nat} {oi : Oper} {v : Value} {f : FuncId} {args : Array Value} {fuel : Nat} {listed : Array Bool} {a : Act} {w : World} (hi : ops[i]? = some oi) (hr : Region.ready md ops listed = [i]) (hw : Region.wanted oi (yielded ops a.tmps) = true)
    (he : (execOp a.eval oi).run P w = .ok (.enter f args) w) (hc : Calls P f args w fun e w' => e = .returned v ∧ Ext w w')
    (H : ∀ w', Ext w w' → wpAnyX P md ops Q fuel (listed.setIfInBounds i true) (a.put oi.dst v) w') : wpAnyX P md ops Q (fuel + 1) listed a w := by
  refine soleX hi hr hw ?_
  rw [he]
  exact hc.mono fun e w' h => ⟨v, h.1, h.2, H w' h.2⟩
/-- An operation that makes memory and comes up alone. -/
theorem makeX {Q : Act → World → Prop} {i : Nat} {oi : Oper} {v : Value} {fuel : Nat} {listed : Array Bool} {a : Act} {w w1 : World} (hi : ops[i]? = some oi) (hr : Region.ready md ops listed = [i]) (hw : Region.wanted oi (yielded ops a.tmps) = true)
    (he : (execOp a.eval oi).run P w = .ok (.value v) w1) (hE : Ext w w1)
    (H : wpAnyX P md ops Q fuel (listed.setIfInBounds i true) (a.put oi.dst v) w1) : wpAnyX P md ops Q (fuel + 1) listed a w := by
  refine soleX hi hr hw ?_
  rw [he]
  exact ⟨hE, H⟩
end
/-- A region of a code, by its number. -/
def findR (n : Nat) : Code → Option (Array Oper)
  | .region id ops _ => if id = n then some ops else none
  | .seq a b => match findR n a with | some o => some o | none => findR n b
  | .cond _ a b => match findR n a with | some o => some o | none => findR n b
  | .block _ b => findR n b
  | .loop b => findR n b
  | .rangeFunc _ _ a b => match findR n a with | some o => some o | none => findR n b
  | .scope b => findR n b
  | _ => none
/-- The first k of n operations are done. -/
def lst (n k : Nat) : Array Bool := ((List.range n).map fun j => decide (j < k)).toArray
theorem lst_set (n k : Nat) : (lst n k).setIfInBounds k true = lst n (k + 1) := by
  unfold lst
  refine Array.ext_getElem? fun i => ?_
  rw [Array.getElem?_setIfInBounds]
  by_cases hi : i < n
  · by_cases h : k = i
    · subst h; simp [hi]
    · simp [h, hi, show (i < k + 1) = (i < k) from propext ⟨fun h => by omega, fun h => by omega⟩]
  · by_cases h : k = i
    · subst h; simp [hi]
    · simp [h, hi]
theorem lst_two (n k : Nat) : ((lst n k).setIfInBounds (k + 1) true).setIfInBounds k true = lst n (k + 2) := by
  rw [Array.setIfInBounds_comm _ _ (by omega), lst_set, lst_set]
theorem lst_zero (n : Nat) : Array.replicate n false = lst n 0 := by
  unfold lst
  refine Array.ext_getElem? fun i => ?_
  by_cases hi : i < n <;> simp [hi, Array.getElem?_replicate]
/-- May come up, of the first k being done. -/
def upX (ops : Array Oper) (listed : Array Bool) (k : Nat) : Bool := decide (k < ops.size) && (!listed.getD k true && ((ops[k]?).map (·.after.all fun e => !Region.binds .any e || listed.getD e.on false)).getD false)
theorem upX_ready {ops : Array Oper} {listed : Array Bool} {k : Nat} (h : upX ops listed k = true) : (Region.ready .any ops listed).contains k = true := by
  unfold upX at h
  rw [Bool.and_eq_true, decide_eq_true_eq] at h
  rw [List.contains_iff_mem]
  unfold Region.ready
  rw [List.mem_filter, List.mem_range]
  exact h
def okX (ops : Array Oper) (n k : Nat) : Bool := Region.free .any ops (lst n k) k && upX ops (lst n k) k
/-- The operations are taken in the text's order, but those in l. -/
def schedX (ops : Array Oper) (n : Nat) (l : List Nat) (lo hi : Nat) : Bool := (List.range hi).all fun k => decide (k < lo) || l.contains k || okX ops n k
theorem schedX_at {ops : Array Oper} {n lo hi k : Nat} {l : List Nat} (h : schedX ops n l lo hi = true) (h1 : lo ≤ k) (h2 : k < hi) (h3 : l.contains k = false) : okX ops n k = true := by
  unfold schedX at h
  have := List.all_eq_true.1 h k (List.mem_range.2 h2)
  rw [h3, decide_eq_false (by omega)] at this
  simpa using this
theorem takeL {P : Program} {ops : Array Oper} {Q : Act → World → Prop} {n k : Nat} {oi : Oper} {v : Value} {fuel : Nat} {a : Act} {w : World} (hs : Region.noSelect ops = true) (hok : okX ops n k = true) (hi : ops[k]? = some oi) (hw : Region.wanted oi (yielded ops a.tmps) = true)
    (hy : ∀ w', Ext w w' → (execOp a.eval oi).run P w' = .ok (.value v) w')
    (H : wpAnyX P .any ops Q fuel (lst n (k + 1)) (a.put oi.dst v) w) : wpAnyX P .any ops Q (fuel + 1) (lst n k) a w := by
  unfold okX at hok
  rw [Bool.and_eq_true] at hok
  refine takeX hi hs hok.1 (upX_ready hok.2) hw hy ?_
  rw [lst_set]
  exact H
theorem callL {P : Program} {ops : Array Oper} {Q : Act → World → Prop} {n k : Nat} {oi : Oper} {v : Value} {f : FuncId} {args : Array Value} {fuel : Nat} {a : Act} {w : World} (hr : Region.ready .any ops (lst n k) = [k]) (hi : ops[k]? = some oi) (hw : Region.wanted oi (yielded ops a.tmps) = true)
    (he : (execOp a.eval oi).run P w = .ok (.enter f args) w) (hc : Calls P f args w fun e w' => e = .returned v ∧ Ext w w')
    (H : ∀ w', Ext w w' → wpAnyX P .any ops Q fuel (lst n (k + 1)) (a.put oi.dst v) w') : wpAnyX P .any ops Q (fuel + 1) (lst n k) a w :=
  callX hi hr hw he hc fun w' h => by rw [lst_set]; exact H w' h
theorem makeL {P : Program} {ops : Array Oper} {Q : Act → World → Prop} {n k : Nat} {oi : Oper} {v : Value} {fuel : Nat} {a : Act} {w w1 : World} (hr : Region.ready .any ops (lst n k) = [k]) (hi : ops[k]? = some oi) (hw : Region.wanted oi (yielded ops a.tmps) = true)
    (he : (execOp a.eval oi).run P w = .ok (.value v) w1) (hE : Ext w w1)
    (H : wpAnyX P .any ops Q fuel (lst n (k + 1)) (a.put oi.dst v) w1) : wpAnyX P .any ops Q (fuel + 1) (lst n k) a w :=
  makeX hi hr hw he hE (by rw [lst_set]; exact H)
theorem takeCL {P : Program} {ops : Array Oper} {Q : Act → World → Prop} {n k : Nat} {oi : Oper} {v : Value} {fuel : Nat} {a : Act} {w : World} {f : FuncId} {args : Array Value} (hs : Region.noSelect ops = true) (hok : okX ops n k = true) (hi : ops[k]? = some oi) (hw : Region.wanted oi (yielded ops a.tmps) = true)
    (he : ∀ w', Ext w w' → (execOp a.eval oi).run P w' = .ok (.enter f args) w') (hc : ∀ w', Ext w w' → Calls P f args w' fun e w'' => e = .returned v ∧ w'' = w')
    (H : wpAnyX P .any ops Q fuel (lst n (k + 1)) (a.put oi.dst v) w) : wpAnyX P .any ops Q (fuel + 1) (lst n k) a w := by
  unfold okX at hok
  rw [Bool.and_eq_true] at hok
  refine takeC (n := n) hi hs hok.1 (upX_ready hok.2) hw he hc ?_
  rw [lst_set]
  exact H
theorem withL {P : Program} {ops E : Array Oper} {Q : Act → World → Prop} {n : Nat} {a : Act} {w : World} {R : Array Oper → Prop} (h : ops = E) (hR : R E) (hf : ops.size = n)
    (H : R ops → wpAnyX P .any ops Q n (lst n 0) a w) : wpAnyX P .any ops Q ops.size (Array.replicate ops.size false) a w := by
  rw [hf, lst_zero]; exact H (h ▸ hR)

end Go.Proofs.Ytedamnocolfmlaa

/- Tuples: how they are compared. -/
namespace Go.Proofs.Ytedamnocolfmlaa
open Go.RowKit

structure Tu where
  a : Int
  b : Int
  c : Int
  d : Int
  deriving DecidableEq
abbrev tu (a b c d : Int) : Value := .agg #[.int .u32 a, .int .u32 b, .int .u16 c, .int .u16 d]
abbrev Tu.v (t : Tu) : Value := tu t.a t.b t.c t.d
def cmpI (x y : Int) : Int := if x < y then -1 else if y < x then 1 else 0
/-- The first that is not nought, of the last r of four. -/
def orR (f : Nat → Int) : Nat → Int
  | 0 => 0
  | r + 1 => if f (3 - r) = 0 then orR f r else f (3 - r)
def four (x y z t : Int) : Nat → Int
  | 0 => x
  | 1 => y
  | 2 => z
  | _ => t
def cmpT (s t : Tu) : Int := orR (four (cmpI s.a t.a) (cmpI s.b t.b) (cmpI s.c t.c) (cmpI s.d t.d)) 4

theorem nan_u32 (x : Int) (w : World) : Calls Try.prog 71 #[.int .u32 x] w fun e w' => e = .returned (.bool false) ∧ w = w' := by
  go_enter Try.func71, Try.ntmps71
  go_wp2
  go_ret
  exact ⟨ret_bool (by simp), rfl⟩
theorem compare_u32 (x y : Int) (w : World) : Calls Try.prog 52 #[.int .u32 x, .int .u32 y] w fun e w' => e = .returned (.int .i64 (cmpI x y)) ∧ w = w' := by
  go_enter Try.func52, Try.ntmps52
  go_wp2_with (go_at_call 71; (with_reducible refine (nan_u32 _ _).mono ?_); rintro e w' ⟨rfl, rfl⟩)
  all_goals (go_ret; refine ⟨?_, rfl⟩)
  all_goals (refine congrArg (fun z => Ending.returned (.int .i64 z)) ?_; unfold cmpI; first | (simp [*]; done) | (simp_all; omega) | (split <;> (try split) <;> omega))
theorem load_u32_X {w : World} {B O : Nat} {a : Int} (h0 : w.cell? ⟨B, O, none⟩ = some (.int .u32 a)) (hl : Lt B w) (ρ : Operand → Value) (dst : Option Tmp) (x : Operand) (ty : TypeId) (pos : String) (after : Array Edge) (g : Option (Nat × Bool))
    (hx : ρ x = .pointer (some ⟨B, O, none⟩)) : ∀ w', Ext w w' → (execOp ρ ⟨dst, .load 62 x, ty, pos, after, g⟩).run Try.prog w' = .ok (.value (.int .u32 a)) w' := by
  intro w' hE
  have h0 := (hE.cell (p := ⟨B, _, none⟩) hl).trans h0
  simp only [execOp, hx]
  go_simp

theorem nan_u16 (x : Int) (w : World) : Calls Try.prog 72 #[.int .u16 x] w fun e w' => e = .returned (.bool false) ∧ w = w' := by
  go_enter Try.func72, Try.ntmps72
  go_wp2
  go_ret
  exact ⟨ret_bool (by simp), rfl⟩
theorem compare_u16 (x y : Int) (w : World) : Calls Try.prog 53 #[.int .u16 x, .int .u16 y] w fun e w' => e = .returned (.int .i64 (cmpI x y)) ∧ w = w' := by
  go_enter Try.func53, Try.ntmps53
  go_wp2_with (go_at_call 72; (with_reducible refine (nan_u16 _ _).mono ?_); rintro e w' ⟨rfl, rfl⟩)
  all_goals (go_ret; refine ⟨?_, rfl⟩)
  all_goals (refine congrArg (fun z => Ending.returned (.int .i64 z)) ?_; unfold cmpI; first | (simp [*]; done) | (simp_all; omega) | (split <;> (try split) <;> omega))
theorem load_u16_X {w : World} {B O : Nat} {a : Int} (h0 : w.cell? ⟨B, O, none⟩ = some (.int .u16 a)) (hl : Lt B w) (ρ : Operand → Value) (dst : Option Tmp) (x : Operand) (ty : TypeId) (pos : String) (after : Array Edge) (g : Option (Nat × Bool))
    (hx : ρ x = .pointer (some ⟨B, O, none⟩)) : ∀ w', Ext w w' → (execOp ρ ⟨dst, .load 63 x, ty, pos, after, g⟩).run Try.prog w' = .ok (.value (.int .u16 a)) w' := by
  intro w' hE
  have h0 := (hE.cell (p := ⟨B, _, none⟩) hl).trans h0
  simp only [execOp, hx]
  go_simp

set_option maxHeartbeats 1000000 in
theorem or_four (x y z t : Int) (W : World) :
    Calls Try.prog 33 #[.slice (some ⟨W.heap.size, 0, none⟩) 4 4] (W.alloc (.cells #[.int .i64 x, .int .i64 y, .int .i64 z, .int .i64 t] 3)) fun e w' => e = .returned (.int .i64 (orR (four x y z t) 4)) ∧ Ext (W.alloc (.cells #[.int .i64 x, .int .i64 y, .int .i64 z, .int .i64 t] 3)) w' := by
  have hcells : ∀ j, j < 4 → (W.alloc (.cells #[.int .i64 x, .int .i64 y, .int .i64 z, .int .i64 t] 3)).cell? ⟨W.heap.size, j, none⟩ = some (.int .i64 (four x y z t j)) := fun j hj => by
    rw [cell_rowD, rowD_new]
    obtain rfl | rfl | rfl | rfl : j = 0 ∨ j = 1 ∨ j = 2 ∨ j = 3 := by omega
    all_goals rfl
  have HC := Lib.hid hcells
  clear hcells
  obtain ⟨f, hf⟩ : ∃ f, four x y z t = f := ⟨_, rfl⟩
  rw [hf] at HC ⊢
  clear hf
  generalize hV : W.alloc (.cells #[.int .i64 x, .int .i64 y, .int .i64 z, .int .i64 t] 3) = V at *
  have hL : Lt W.heap.size V := by rw [← hV]; simp [Lt]
  clear hV
  generalize W.heap.size = B at *
  go_enter Try.func33, Try.ntmps33
  go_wp2
  go_loopw [5, 8] (fun _ a wr => ∃ k : Nat, k ≤ 4 ∧ a = .int .i64 k ∧ orR f 4 = orR f (4 - k) ∧ Ext V wr) (fun _ a _ => 4 - (intOf a).toNat)
  case atStart => exact ⟨0, Nat.zero_le _, rfl, rfl, Ext.rf _⟩
  case round =>
    obtain ⟨k, hk, rfl, hO, hE⟩ := hrel
    have hk4 : (k : Int) ≤ 4 := by omega
    by_cases hlt : k < 4
    · have hkl : (k : Int) < 4 := by omega
      have hc := (hE.cell (p := ⟨B, k, none⟩) hL).trans (HC.out k hlt)
      have hs : orR f (4 - k) = (if f k = 0 then orR f (4 - (k + 1)) else f k) := by
        obtain ⟨r, hr⟩ : ∃ r, 4 - k = r + 1 := ⟨4 - (k + 1), by omega⟩
        rw [hr, show 4 - (k + 1) = r by omega]
        show (if f (3 - r) = 0 then orR f r else f (3 - r)) = _
        rw [show 3 - r = k by omega]
      have HO := Lib.hid (hO.trans hs)
      clear hO hs
      cases hq : (f k == 0)
      · have hqn : (f k != 0) = true := by rw [bne, hq]; rfl
        have HV := Lib.hid (show orR f 4 = f k by rw [HO.out, if_neg (by simpa using hq)])
        go_wp2
        go_ret
        exact ⟨by rw [HV.out]; rfl, hE⟩
      · have hqn : (f k != 0) = false := by rw [bne, hq]; rfl
        have HV := Lib.hid (show orR f 4 = orR f (4 - (k + 1)) by rw [HO.out, if_pos (by simpa using hq)])
        go_wp2
        go_roundw
        case rel => exact ⟨k + 1, by omega, by go_num, HV.out, hE⟩
        case measure => simp [intOf]; omega
    · obtain rfl : k = 4 := by omega
      have HV := Lib.hid (show orR f 4 = 0 from hO)
      clear hO
      go_wp2
      go_ret
      exact ⟨by rw [HV.out]; rfl, hE⟩

end Go.Proofs.Ytedamnocolfmlaa

/- Tuples: Cmp (its region draws: reads and comparisons are taken first). -/
namespace Go.Proofs.Ytedamnocolfmlaa
open Go.RowKit

def SchC (ops : Array Oper) : Prop := Region.noSelect ops = true ∧ (∀ k, k < 23 → [20, 21].contains k = false → okX ops 23 k = true) ∧ (∀ k, [20, 21].contains k = true → Region.ready .any ops (lst 23 k) = [k]) ∧ Region.ready .any ops (lst 23 23) = []
theorem schC_s : schedX ((Try.f34.body.bind (findR 1)).getD #[]) 23 [20, 21] 0 23 = true := by kernel_rfl
theorem schC_20 : Region.ready .any ((Try.f34.body.bind (findR 1)).getD #[]) (lst 23 20) = [20] := by kernel_rfl
theorem schC_21 : Region.ready .any ((Try.f34.body.bind (findR 1)).getD #[]) (lst 23 21) = [21] := by kernel_rfl
theorem schC : SchC ((Try.f34.body.bind (findR 1)).getD #[]) := by
  refine ⟨by kernel_rfl, fun k hk hl => schedX_at schC_s (Nat.zero_le _) hk hl, fun k hk => ?_, by kernel_rfl⟩
  simp only [List.contains_iff_mem, List.mem_cons, List.not_mem_nil, or_false] at hk
  rcases hk with rfl | rfl
  · exact schC_20
  · exact schC_21
set_option maxRecDepth 20000 in
set_option maxHeartbeats 4000000 in
theorem cmp_any (s t : Tu) (w : World) :
    Calls Try.prog 34 #[tu s.a s.b s.c s.d, tu t.a t.b t.c t.d] w fun e w' => e = .returned (.int .i64 (cmpT s t)) ∧ Ext w w' := by
  go_enter Try.func34, Try.ntmps34
  go_wp2_with (fail)
  obtain ⟨W0, hW⟩ : ∃ W0, (w.alloc (.cells #[.int .u32 s.a, .int .u32 s.b, .int .u16 s.c, .int .u16 s.d] 65)).alloc (.cells #[.int .u32 t.a, .int .u32 t.b, .int .u16 t.c, .int .u16 t.d] 65) = W0 := ⟨_, rfl⟩
  rw [hW]
  have e0 : Ext w W0 := by rw [← hW]; exact Ext.al (Ext.al (Ext.rf _) _) _
  have rs : rowD W0 w.heap.size = #[.int .u32 s.a, .int .u32 s.b, .int .u16 s.c, .int .u16 s.d] := by rw [← hW]; simp [go_sem]
  have rt : rowD W0 (w.heap.size + 1) = #[.int .u32 t.a, .int .u32 t.b, .int .u16 t.c, .int .u16 t.d] := by rw [← hW]; simp [go_sem]
  have ls : Lt w.heap.size W0 := by rw [← hW]; simp [Lt]; try omega
  have lt : Lt (w.heap.size + 1) W0 := by rw [← hW]; simp [Lt]; try omega
  clear hW
  have s0 : W0.cell? ⟨w.heap.size, 0, none⟩ = some (.int .u32 s.a) := by rw [cell_rowD, rs]; rfl
  have s1 : W0.cell? ⟨w.heap.size, 1, none⟩ = some (.int .u32 s.b) := by rw [cell_rowD, rs]; rfl
  have s2 : W0.cell? ⟨w.heap.size, 2, none⟩ = some (.int .u16 s.c) := by rw [cell_rowD, rs]; rfl
  have s3 : W0.cell? ⟨w.heap.size, 3, none⟩ = some (.int .u16 s.d) := by rw [cell_rowD, rs]; rfl
  have t0 : W0.cell? ⟨w.heap.size + 1, 0, none⟩ = some (.int .u32 t.a) := by rw [cell_rowD, rt]; rfl
  have t1 : W0.cell? ⟨w.heap.size + 1, 1, none⟩ = some (.int .u32 t.b) := by rw [cell_rowD, rt]; rfl
  have t2 : W0.cell? ⟨w.heap.size + 1, 2, none⟩ = some (.int .u16 t.c) := by rw [cell_rowD, rt]; rfl
  have t3 : W0.cell? ⟨w.heap.size + 1, 3, none⟩ = some (.int .u16 t.d) := by rw [cell_rowD, rt]; rfl
  clear rs rt
  refine wp_region_X (by kernel_rfl) ?_
  obtain ⟨W1, hW⟩ : ∃ W1, W0.drew = W1 := ⟨_, rfl⟩
  have h1 : Ext W0 W1 := by rw [← hW]; exact Ext.dr (Ext.rf _)
  rw [hW]
  clear hW
  have s0 := (h1.cell (p := ⟨w.heap.size, _, none⟩) ls).trans s0
  have s1 := (h1.cell (p := ⟨w.heap.size, _, none⟩) ls).trans s1
  have s2 := (h1.cell (p := ⟨w.heap.size, _, none⟩) ls).trans s2
  have s3 := (h1.cell (p := ⟨w.heap.size, _, none⟩) ls).trans s3
  have t0 := (h1.cell (p := ⟨w.heap.size + 1, _, none⟩) lt).trans t0
  have t1 := (h1.cell (p := ⟨w.heap.size + 1, _, none⟩) lt).trans t1
  have t2 := (h1.cell (p := ⟨w.heap.size + 1, _, none⟩) lt).trans t2
  have t3 := (h1.cell (p := ⟨w.heap.size + 1, _, none⟩) lt).trans t3
  have ls : Lt w.heap.size W1 := Nat.lt_of_lt_of_le ls h1.size
  have lt : Lt (w.heap.size + 1) W1 := Nat.lt_of_lt_of_le lt h1.size
  refine withL (n := 23) (R := SchC) (E := ((Try.f34.body.bind (findR 1)).getD #[])) (by kernel_rfl) schC (by kernel_rfl) fun hS => ?_
  refine takeL (n := 23) (k := 0) (v := .pointer (some ⟨w.heap.size, 0, none⟩)) hS.1 (hS.2.1 0 (by decide) (by decide)) rfl (by kernel_rfl) (fun _ _ => by kernel_rfl) ?_
  refine takeL (n := 23) (k := 1) (v := .int .u32 s.a) hS.1 (hS.2.1 1 (by decide) (by decide)) rfl (by kernel_rfl) (load_u32_X s0 ls _ _ _ _ _ _ _ (by kernel_rfl)) ?_
  refine takeL (n := 23) (k := 2) (v := .pointer (some ⟨(w.heap.size + 1), 0, none⟩)) hS.1 (hS.2.1 2 (by decide) (by decide)) rfl (by kernel_rfl) (fun _ _ => by kernel_rfl) ?_
  refine takeL (n := 23) (k := 3) (v := .int .u32 t.a) hS.1 (hS.2.1 3 (by decide) (by decide)) rfl (by kernel_rfl) (load_u32_X t0 lt _ _ _ _ _ _ _ (by kernel_rfl)) ?_
  refine takeCL (n := 23) (k := 4) (v := .int .i64 (cmpI s.a t.a)) (f := 52) (args := #[.int .u32 s.a, .int .u32 t.a]) hS.1 (hS.2.1 4 (by decide) (by decide)) rfl (by kernel_rfl) (fun _ _ => by kernel_rfl) (fun w' _ => (compare_u32 s.a t.a w').mono fun _ _ h => ⟨h.1, h.2.symm⟩) ?_
  refine takeL (n := 23) (k := 5) (v := .pointer (some ⟨w.heap.size, 1, none⟩)) hS.1 (hS.2.1 5 (by decide) (by decide)) rfl (by kernel_rfl) (fun _ _ => by kernel_rfl) ?_
  refine takeL (n := 23) (k := 6) (v := .int .u32 s.b) hS.1 (hS.2.1 6 (by decide) (by decide)) rfl (by kernel_rfl) (load_u32_X s1 ls _ _ _ _ _ _ _ (by kernel_rfl)) ?_
  refine takeL (n := 23) (k := 7) (v := .pointer (some ⟨(w.heap.size + 1), 1, none⟩)) hS.1 (hS.2.1 7 (by decide) (by decide)) rfl (by kernel_rfl) (fun _ _ => by kernel_rfl) ?_
  refine takeL (n := 23) (k := 8) (v := .int .u32 t.b) hS.1 (hS.2.1 8 (by decide) (by decide)) rfl (by kernel_rfl) (load_u32_X t1 lt _ _ _ _ _ _ _ (by kernel_rfl)) ?_
  refine takeCL (n := 23) (k := 9) (v := .int .i64 (cmpI s.b t.b)) (f := 52) (args := #[.int .u32 s.b, .int .u32 t.b]) hS.1 (hS.2.1 9 (by decide) (by decide)) rfl (by kernel_rfl) (fun _ _ => by kernel_rfl) (fun w' _ => (compare_u32 s.b t.b w').mono fun _ _ h => ⟨h.1, h.2.symm⟩) ?_
  refine takeL (n := 23) (k := 10) (v := .pointer (some ⟨w.heap.size, 2, none⟩)) hS.1 (hS.2.1 10 (by decide) (by decide)) rfl (by kernel_rfl) (fun _ _ => by kernel_rfl) ?_
  refine takeL (n := 23) (k := 11) (v := .int .u16 s.c) hS.1 (hS.2.1 11 (by decide) (by decide)) rfl (by kernel_rfl) (load_u16_X s2 ls _ _ _ _ _ _ _ (by kernel_rfl)) ?_
  refine takeL (n := 23) (k := 12) (v := .pointer (some ⟨(w.heap.size + 1), 2, none⟩)) hS.1 (hS.2.1 12 (by decide) (by decide)) rfl (by kernel_rfl) (fun _ _ => by kernel_rfl) ?_
  refine takeL (n := 23) (k := 13) (v := .int .u16 t.c) hS.1 (hS.2.1 13 (by decide) (by decide)) rfl (by kernel_rfl) (load_u16_X t2 lt _ _ _ _ _ _ _ (by kernel_rfl)) ?_
  refine takeCL (n := 23) (k := 14) (v := .int .i64 (cmpI s.c t.c)) (f := 53) (args := #[.int .u16 s.c, .int .u16 t.c]) hS.1 (hS.2.1 14 (by decide) (by decide)) rfl (by kernel_rfl) (fun _ _ => by kernel_rfl) (fun w' _ => (compare_u16 s.c t.c w').mono fun _ _ h => ⟨h.1, h.2.symm⟩) ?_
  refine takeL (n := 23) (k := 15) (v := .pointer (some ⟨w.heap.size, 3, none⟩)) hS.1 (hS.2.1 15 (by decide) (by decide)) rfl (by kernel_rfl) (fun _ _ => by kernel_rfl) ?_
  refine takeL (n := 23) (k := 16) (v := .int .u16 s.d) hS.1 (hS.2.1 16 (by decide) (by decide)) rfl (by kernel_rfl) (load_u16_X s3 ls _ _ _ _ _ _ _ (by kernel_rfl)) ?_
  refine takeL (n := 23) (k := 17) (v := .pointer (some ⟨(w.heap.size + 1), 3, none⟩)) hS.1 (hS.2.1 17 (by decide) (by decide)) rfl (by kernel_rfl) (fun _ _ => by kernel_rfl) ?_
  refine takeL (n := 23) (k := 18) (v := .int .u16 t.d) hS.1 (hS.2.1 18 (by decide) (by decide)) rfl (by kernel_rfl) (load_u16_X t3 lt _ _ _ _ _ _ _ (by kernel_rfl)) ?_
  refine takeCL (n := 23) (k := 19) (v := .int .i64 (cmpI s.d t.d)) (f := 53) (args := #[.int .u16 s.d, .int .u16 t.d]) hS.1 (hS.2.1 19 (by decide) (by decide)) rfl (by kernel_rfl) (fun _ _ => by kernel_rfl) (fun w' _ => (compare_u16 s.d t.d w').mono fun _ _ h => ⟨h.1, h.2.symm⟩) ?_
  refine makeL (n := 23) (k := 20) (v := .slice (some ⟨W1.heap.size, 0, none⟩) 4 4) (w1 := W1.alloc (.cells #[.int .i64 (cmpI s.a t.a), .int .i64 (cmpI s.b t.b), .int .i64 (cmpI s.c t.c), .int .i64 (cmpI s.d t.d)] 3)) (hS.2.2.1 20 (by decide)) rfl (by kernel_rfl) (by kernel_rfl) (Ext.al (Ext.rf _) _) ?_
  refine callL (n := 23) (k := 21) (v := .int .i64 (cmpT s t)) (f := 33) (args := #[.slice (some ⟨W1.heap.size, 0, none⟩) 4 4]) (hS.2.2.1 21 (by decide)) rfl (by kernel_rfl) (by kernel_rfl) (or_four _ _ _ _ _) ?_
  intro W2 h2
  refine takeL (n := 23) (k := 22) (v := .int .i64 (cmpT s t)) hS.1 (hS.2.1 22 (by decide) (by decide)) rfl (by kernel_rfl) (fun _ _ => by kernel_rfl) ?_
  refine doneX hS.2.2.2 ?_
  generalize hA : Act.put _ _ _ = A
  go_wp2
  exact bodyPost_ret (v := .int .i64 (cmpT s t)) (by subst hA; kernel_rfl) (by subst hA; kernel_rfl) ⟨rfl, (((e0.tr h1).tr (Ext.al (Ext.rf _) _)).tr h2)⟩

end Go.Proofs.Ytedamnocolfmlaa

/- Slices of connections and of holders: IndexFunc, ContainsFunc. -/
namespace Go.Proofs.Ytedamnocolfmlaa
open Go.RowKit
/-- The place of the first that is so, or -1. -/
def idx {α : Type} (pr : α → Bool) (ms : List α) : Int := if ms.any pr then ms.findIdx pr else -1
theorem idx_none {α : Type} (pr : α → Bool) (ms : List α) (h : ∀ k (hk : k < ms.length), pr ms[k] = false) : idx pr ms = -1 := by
  unfold idx
  rw [if_neg]
  intro hh
  obtain ⟨x, hx, hp⟩ := List.any_eq_true.1 hh
  obtain ⟨k, hk, rfl⟩ := List.mem_iff_getElem.1 hx
  rw [h k hk] at hp; cases hp
theorem idx_some {α : Type} (pr : α → Bool) (ms : List α) (k : Nat) (hk : k < ms.length) (h : ∀ j (hj : j < k), pr (ms[j]'(by omega)) = false) (hp : pr ms[k] = true) : idx pr ms = k := by
  unfold idx
  rw [if_pos (List.any_eq_true.2 ⟨ms[k], List.getElem_mem hk, hp⟩)]
  congr 1
  rw [List.findIdx_eq hk]
  exact ⟨hp, fun j hj => by simpa using h j hj⟩
theorem idx_ge {α : Type} (pr : α → Bool) (ms : List α) : decide (0 ≤ idx pr ms) = ms.any pr := by
  unfold idx
  cases h : ms.any pr <;> simp


structure Co where
  t : Tu
  s : Int
  l : Int
  deriving DecidableEq
abbrev Co.v (x : Co) : Value := .agg #[.int .u32 x.t.a, .int .u32 x.t.b, .int .u16 x.t.c, .int .u16 x.t.d, .int .i64 x.s, .int .i64 x.l]
/-- A slice reads as a list. -/
def SlC (w : World) (p : Option Addr) (xs : List Co) : Prop := ∀ k, (h : k < xs.length) → ∃ b off, p = some ⟨b, off, none⟩ ∧ b < w.heap.size ∧ w.cell? ⟨b, off + k * 6, none⟩ = some (.int .u32 xs[k].t.a) ∧ w.cell? ⟨b, off + k * 6 + 1, none⟩ = some (.int .u32 xs[k].t.b) ∧ w.cell? ⟨b, off + k * 6 + 2, none⟩ = some (.int .u16 xs[k].t.c) ∧ w.cell? ⟨b, off + k * 6 + 3, none⟩ = some (.int .u16 xs[k].t.d) ∧ w.cell? ⟨b, off + k * 6 + 4, none⟩ = some (.int .i64 xs[k].s) ∧ w.cell? ⟨b, off + k * 6 + 5, none⟩ = some (.int .i64 xs[k].l)
theorem SlC.ext {w w' : World} {p : Option Addr} {xs : List Co} (h : SlC w p xs) (e : Ext w w') : SlC w' p xs := fun k hk => by
  obtain ⟨b, off, hp, hb, c0, c1, c2, c3, c4, c5⟩ := h k hk
  exact ⟨b, off, hp, Nat.lt_of_lt_of_le hb e.size, (e.cell (p := ⟨b, off + k * 6, none⟩) hb).trans c0, (e.cell (p := ⟨b, off + k * 6 + 1, none⟩) hb).trans c1, (e.cell (p := ⟨b, off + k * 6 + 2, none⟩) hb).trans c2, (e.cell (p := ⟨b, off + k * 6 + 3, none⟩) hb).trans c3, (e.cell (p := ⟨b, off + k * 6 + 4, none⟩) hb).trans c4, (e.cell (p := ⟨b, off + k * 6 + 5, none⟩) hb).trans c5⟩
theorem SlC.nil (w : World) (p : Option Addr) : SlC w p [] := fun k hk => by simp at hk
structure Ho where
  t : Tu
  n : Int
  deriving DecidableEq
abbrev Ho.v (x : Ho) : Value := .agg #[.int .u32 x.t.a, .int .u32 x.t.b, .int .u16 x.t.c, .int .u16 x.t.d, .int .i64 x.n]
/-- A slice reads as a list. -/
def SlH (w : World) (p : Option Addr) (xs : List Ho) : Prop := ∀ k, (h : k < xs.length) → ∃ b off, p = some ⟨b, off, none⟩ ∧ b < w.heap.size ∧ w.cell? ⟨b, off + k * 5, none⟩ = some (.int .u32 xs[k].t.a) ∧ w.cell? ⟨b, off + k * 5 + 1, none⟩ = some (.int .u32 xs[k].t.b) ∧ w.cell? ⟨b, off + k * 5 + 2, none⟩ = some (.int .u16 xs[k].t.c) ∧ w.cell? ⟨b, off + k * 5 + 3, none⟩ = some (.int .u16 xs[k].t.d) ∧ w.cell? ⟨b, off + k * 5 + 4, none⟩ = some (.int .i64 xs[k].n)
theorem SlH.ext {w w' : World} {p : Option Addr} {xs : List Ho} (h : SlH w p xs) (e : Ext w w') : SlH w' p xs := fun k hk => by
  obtain ⟨b, off, hp, hb, c0, c1, c2, c3, c4⟩ := h k hk
  exact ⟨b, off, hp, Nat.lt_of_lt_of_le hb e.size, (e.cell (p := ⟨b, off + k * 5, none⟩) hb).trans c0, (e.cell (p := ⟨b, off + k * 5 + 1, none⟩) hb).trans c1, (e.cell (p := ⟨b, off + k * 5 + 2, none⟩) hb).trans c2, (e.cell (p := ⟨b, off + k * 5 + 3, none⟩) hb).trans c3, (e.cell (p := ⟨b, off + k * 5 + 4, none⟩) hb).trans c4⟩
theorem SlH.nil (w : World) (p : Option Addr) : SlH w p [] := fun k hk => by simp at hk
end Go.Proofs.Ytedamnocolfmlaa

/- Connections: Find, Room. -/
namespace Go.Proofs.Ytedamnocolfmlaa
open Go.RowKit

def eqT (s t : Tu) : Bool := s.a == t.a && s.b == t.b && s.c == t.c && s.d == t.d
theorem eqT_iff {s t : Tu} : eqT s t = true ↔ s = t := by
  constructor
  · intro h
    unfold eqT at h
    simp only [Bool.and_eq_true, beq_iff_eq] at h
    cases s; cases t; simp_all
  · rintro rfl; unfold eqT; simp
@[go_sem ↓ high] theorem eq_tu (a b c d a' b' c' d' : Int) (w : World) :
    (binOp .eql 65 (tu a b c d) (tu a' b' c' d')).run Try.prog w = .ok (.bool (a == a' && b == b' && c == c' && d == d')) w := by
  go_simp
  by_cases h1 : a = a' <;> by_cases h2 : b = b' <;> by_cases h3 : c = c' <;> by_cases h4 : d = d' <;> simp [*]
/-- A block holds a tuple. -/
def TuAt (w : World) (b : Nat) (t : Tu) : Prop := rowD w b = #[.int .u32 t.a, .int .u32 t.b, .int .u16 t.c, .int .u16 t.d] ∧ Lt b w
theorem TuAt.cells {w : World} {b : Nat} {t : Tu} (h : TuAt w b t) : w.cell? ⟨b, 0, none⟩ = some (.int .u32 t.a) ∧ w.cell? ⟨b, 1, none⟩ = some (.int .u32 t.b) ∧ w.cell? ⟨b, 2, none⟩ = some (.int .u16 t.c) ∧ w.cell? ⟨b, 3, none⟩ = some (.int .u16 t.d) := by
  refine ⟨?_, ?_, ?_, ?_⟩ <;> rw [cell_rowD, h.1] <;> rfl
theorem TuAt.ext {w w' : World} {b : Nat} {t : Tu} (h : TuAt w b t) (e : Ext w w') : TuAt w' b t := ⟨by rw [rowD_same (e.block b h.2)]; exact h.1, Nat.lt_of_lt_of_le h.2 e.size⟩
def geT (t : Tu) (x : Co) : Bool := decide (0 ≤ cmpT x.t t)
def atC (xs : List Co) (t : Tu) : Nat := xs.findIdx (geT t)
def okC (xs : List Co) (t : Tu) : Bool := match xs[atC xs t]? with | some x => eqT x.t t | none => false
theorem idx_at (pr : Co → Bool) (xs : List Co) (h : xs.any pr = true) : idx pr xs = (xs.findIdx pr : Nat) ∧ xs.findIdx pr < xs.length := by
  unfold idx
  rw [if_pos h]
  refine ⟨rfl, ?_⟩
  obtain ⟨x, hx, hp⟩ := List.any_eq_true.1 h
  exact List.findIdx_lt_length_of_exists ⟨x, hx, hp⟩
theorem idx_no (pr : Co → Bool) (xs : List Co) (h : xs.any pr = false) : idx pr xs = -1 ∧ xs.findIdx pr = xs.length := by
  unfold idx
  rw [if_neg (by rw [h]; decide)]
  refine ⟨rfl, ?_⟩
  rw [List.findIdx_eq_length]
  intro x hx
  cases hp : pr x
  · rfl
  · have : xs.any pr = true := List.any_eq_true.2 ⟨x, hx, hp⟩
    rw [this] at h; cases h
end Go.Proofs.Ytedamnocolfmlaa

/- A range over a function whose iterator keeps state of its own in cells: THE LAW, of any program. -/
namespace Go.Proofs.Ytedamnocolfmlaa
open Go.RowKit

/-- From A to B only blocks of C, and new ones, have changed. -/
structure Mv (C : Nat → Prop) (A B : World) : Prop where
  os : B.os = A.os
  tape : B.tape = A.tape
  output : B.output = A.output
  size : A.heap.size ≤ B.heap.size
  same : ∀ k, k < A.heap.size → ¬ C k → B.heap[k]? = A.heap[k]?
theorem Mv.refl (C : Nat → Prop) (A : World) : Mv C A A := ⟨rfl, rfl, rfl, Nat.le_refl _, fun _ _ _ => rfl⟩
theorem Mv.trans {C : Nat → Prop} {X Y Z : World} (h : Mv C X Y) (k : Mv C Y Z) : Mv C X Z :=
  ⟨k.os.trans h.os, k.tape.trans h.tape, k.output.trans h.output, Nat.le_trans h.size k.size, fun i hi hc => (k.same i (Nat.lt_of_lt_of_le hi h.size) hc).trans (h.same i hi hc)⟩
theorem Mv.mono {C D : Nat → Prop} {A B : World} (h : Mv C A B) (hd : ∀ k, k < A.heap.size → C k → D k) : Mv D A B :=
  ⟨h.os, h.tape, h.output, h.size, fun k hk hn => h.same k hk (fun hc => hn (hd k hk hc))⟩
theorem Mv.of_ext {C : Nat → Prop} {A B : World} (h : Ext A B) : Mv C A B := ⟨h.os, h.tape, h.output, h.size, fun k hk _ => h.block k hk⟩
theorem Mv.ext {C : Nat → Prop} {w A : World} (h : Mv C w A) (hc : ∀ k, k < w.heap.size → ¬ C k) : Ext w A :=
  ⟨h.os, h.tape, h.output, h.size, fun k hk => h.same k hk (hc k hk)⟩
/-- What comes behind the blocks of w is free, if C's are. -/
theorem Mv.ext_of {C : Nat → Prop} {w A B : World} (h : Ext w A) (m : Mv C A B) (hc : ∀ k, C k → w.heap.size ≤ k) : Ext w B :=
  h.trans ⟨m.os, m.tape, m.output, m.size, fun k hk => m.same k (Nat.lt_of_lt_of_le hk h.size) (fun c => by have := hc k c; omega)⟩
theorem Mv.st {C : Nat → Prop} {A B : World} {b i : Nat} (v : Value) (hb : C b ∨ A.heap.size ≤ b) (h : Mv C A B) : Mv C A (B.setCell ⟨b, i, none⟩ v) :=
  ⟨h.os, h.tape, h.output, by simpa using h.size, fun k hk hc => by
    have hne : k ≠ b := fun e => by subst e; rcases hb with h1 | h1; exact hc h1; omega
    rw [← h.same k hk hc]
    simp only [World.setCell, Array.getElem?_modify]
    rw [if_neg (fun e => hne e.symm)]⟩
theorem Mv.al {C : Nat → Prop} {A B : World} (o : Obj) (h : Mv C A B) : Mv C A (B.alloc o) :=
  h.trans (Mv.of_ext (Ext.al (Ext.rf _) o))
theorem Mv.dr {C : Nat → Prop} {A B : World} (h : Mv C A B) : Mv C A B.drew := h.trans (Mv.of_ext (Ext.dr (Ext.rf _)))
theorem Mv.tr {C : Nat → Prop} {A B B' : World} (h : Mv C A B) (e : Ext B B') : Mv C A B' := h.trans (Mv.of_ext e)
theorem Mv.put {C : Nat → Prop} (A : World) (l : Nat) (o : Obj) (hl : C l) : Mv C A (A.putObj l o) :=
  ⟨rfl, rfl, rfl, by simp, fun k _ hc => World.putObj_heap_other (fun e => hc (e ▸ hl))⟩

/-- THE CONTRACT OF AN ITERATOR: it hands over xs, one by one, until it is told to stop; it turns its own blocks T and new ones; it leans on what lies ahead of w's end but for U, which the rounds may turn. -/
def Iter {α : Type} (F : Fence) (n : Nat) (P : Program) (g : Nat) (lb : Array Value) (encs : α → Array Value) (T U : Nat → Prop) (xs : List α) (w : World) : Prop :=
  ∀ (l : Nat) (J : Nat → World → Prop) (Jx : World → Prop) (W : World), Ext w W →
    (∀ i A B, J i A → Mv T A B → J i B) → (∀ A B, Jx A → Mv T A B → Jx B) →
    (∃ (fn : FuncId) (tm : Array Value → Array Value) (assign body : Code), ∀ i x W1, J i W1 → xs[i]? = some x →
      (Instr.yield l (encs x)).run P W1 = .ok (.round l fn (tm (encs x)) assign body) W1 ∧
      RoundIn F (n - 1) P l fn (tm (encs x)) assign body W1 fun e W' => ∃ b : Bool, e = .returned (.bool b) ∧ ((b = true ∧ J (i + 1) W' ∧ Mv (fun k => U k ∨ w.heap.size ≤ k) W1 W') ∨ (b = false ∧ Jx W'))) →
    J 0 W →
    CallsIn F n P g (#[.func (.yield l) #[] #[]] ++ lb) W fun e W' => (∃ v, e = .returned v) ∧ (J xs.length W' ∨ Jx W')

/-- HOW THE BODY OF A ROUND MAY BE LEFT. -/
def bodyP (U : Nat → Prop) (B : Nat) (I : Nat → World → Prop) (Ix : Code → World → Prop) (i : Nat) (W : World) : Exit → Act → World → Prop
  | .normal, _, W' => Mv (fun k => U k ∨ B ≤ k) W W' ∧ I (i + 1) W'
  | .ret, _, W' => Mv (fun k => U k ∨ B ≤ k) W W' ∧ Ix .ret W'
  | .exit id, _, W' => Mv (fun k => U k ∨ B ≤ k) W W' ∧ Ix (.exit id) W'
  | .goto t, _, W' => Mv (fun k => U k ∨ B ≤ k) W W' ∧ Ix (.goto t) W'
  | .panic _, _, _ => False
  | .outgrown, _, _ => False

theorem wpIn_range {α : Type} {F : Fence} {n : Nat} {P : Program} {g : Operand} {ps : Array Tmp} {assign body : Code} {Q : Exit → Act → World → Prop} {a : Act} {w : World}
    (hro : F.round = none) (h1 : 1 ≤ n) {gf : Nat} {lb : Array Value} (hg : a.eval g = .func (.func gf) #[] lb) (hFg : F.fn gf) (eg : ∀ args w, (callFunc gf args).run P w = .ok (.enter gf args) w)
    {encs : α → Array Value} {T U : Nat → Prop} {xs : List α} (hseq : Iter F (n - 1) P gf lb encs T U xs w)
    (hT : ∀ k, T k → k < w.heap.size) (hU : ∀ k, U k → k < w.heap.size) (hps : ∀ x, (encs x).size = ps.size)
    (I : Nat → World → Prop) (Ix : Code → World → Prop) (hI : ∀ i A B, I i A → Mv (fun k => T k ∨ k = w.heap.size ∨ k = w.heap.size + 1) A B → I i B)
    (hIx : ∀ c A B, Ix c A → Mv (fun k => T k ∨ k = w.heap.size ∨ k = w.heap.size + 1) A B → Ix c B) (h0 : I 0 w)
    (Ax : α → Act → World → Prop) (hAx : ∀ x a' A B, Ax x a' A → Mv (fun k => k = w.heap.size + 1) A B → Ax x a' B)
    (hassign : ∀ (l i : Nat) (x : α) (W : World) (K : Act → World → Prop), w.heap.size + 2 ≤ W.heap.size → Mv (fun k => T k ∨ U k) w W → I i W → xs[i]? = some x →
      (∀ a' W', Mv (fun k => U k ∨ w.heap.size + 2 ≤ k) W W' → I i W' → Ax x a' W' → K a' W') →
      assign.wpIn (F.inRound l) (n - 1 - 1) P (Exit.then K (fun _ _ _ => False)) { tmps := (ps.zip (encs x)).foldl (fun t (p, v) => t.setIfInBounds p v) a.tmps, defers := [] } W)
    (hbody : ∀ (l i : Nat) (x : α) (a' : Act) (W : World), w.heap.size ≤ l → (∃ r, W.heap[l]? = some (.loop r)) → w.heap.size + 2 ≤ W.heap.size → Mv (fun k => T k ∨ U k) w W → I i W → xs[i]? = some x → Ax x a' W →
      body.wpIn (F.inRound l) (n - 1 - 1) P (bodyP U (w.heap.size + 2) I Ix i W) a' W)
    (hdone : ∀ (W : World), I xs.length W → Mv (fun k => T k ∨ U k) w W → W.heap[w.heap.size]? = some (.deferred (some [])) → Q .normal { a with defers := { target := .collected w.heap.size, args := #[] } :: a.defers } W)
    (hstop : ∀ (c : Code) (W : World), Ix c W → Mv (fun k => T k ∨ U k) w W → W.heap[w.heap.size]? = some (.deferred (some [])) → c.wpIn F n P Q { a with defers := { target := .collected w.heap.size, args := #[] } :: a.defers } W) :
    (Code.rangeFunc g ps assign body).wpIn F n P Q a w := by
  refine wpIn_rangeFunc ?_
  intro fn hfn
  rw [hro]
  obtain ⟨rec, hrec⟩ : ∃ rec : LoopState → Option Code → Loop, rec = fun st pe => { state := st, pending := pe, fn, tmps := a.tmps, params := ps, assign, body, defers := w.heap.size } := ⟨_, rfl⟩
  obtain ⟨W1, hW1⟩ : ∃ W1, (w.alloc (.deferred (some []))).alloc (.loop (rec .ready none)) = W1 := ⟨_, rfl⟩
  have hL1 : W1.heap[w.heap.size + 1]? = some (.loop (rec .ready none)) := by
    rw [← hW1]; have := World.alloc_heap_new (w.alloc (.deferred (some []))) (.loop (rec .ready none)); rwa [World.size_alloc] at this
  have hK1 : W1.heap[w.heap.size]? = some (.deferred (some [])) := by
    rw [← hW1]; exact (Below.heap_alloc _ _ _ (by simp)).trans (World.alloc_heap_new w _)
  have hb1 : Ext w W1 := by rw [← hW1]; exact Ext.al (Ext.al (Ext.rf _) _) _
  have hI1 : I 0 W1 := hI 0 _ _ h0 (Mv.of_ext hb1)
  refine ⟨w.heap.size + 1, [{ target := .collected w.heap.size, args := #[] }], W1, { target := .fn (.func gf) lb, args := #[.func (.yield (w.heap.size + 1)) #[] #[]] }, W1, gf,
    #[.func (.yield (w.heap.size + 1)) #[] #[]] ++ lb, W1, ?_, ?_, ?_, ?_, fun _ => h1, ?_⟩
  · rw [← hW1, hrec]; exact run_enterLoop_outer _ _ _ _ _
  · simp only [resolve, hg]
    simp [go_sem]
  · intro f' hf'; simp [Target.leads] at hf'; subst hf'; exact hFg
  · simp [invoke, go_sem, eg]
  · have hsame : ∀ {k : Nat} {A B : World} {o : Obj}, w.heap.size ≤ k → A.heap[k]? = some o → Mv T A B → B.heap[k]? = some o := fun hk ha hm =>
      (hm.same _ (Array.getElem?_eq_some_iff.1 ha).1 (fun ht => by have := hT _ ht; omega)).trans ha
    refine (hseq (w.heap.size + 1)
      (fun i W => I i W ∧ Mv (fun k => T k ∨ U k) w W ∧ W.heap[w.heap.size + 1]? = some (.loop (rec .ready none)) ∧ W.heap[w.heap.size]? = some (.deferred (some [])))
      (fun W => ∃ c, Ix c W ∧ Mv (fun k => T k ∨ U k) w W ∧ W.heap[w.heap.size + 1]? = some (.loop (rec .done (some c))) ∧ W.heap[w.heap.size]? = some (.deferred (some [])))
      W1 hb1
      (fun i A B hs hm => ⟨hI i A B hs.1 (hm.mono fun _ _ h => .inl h), hs.2.1.trans (hm.mono fun _ _ h => .inl h), hsame (by omega) hs.2.2.1 hm, hsame (Nat.le_refl _) hs.2.2.2 hm⟩)
      (fun A B hs hm => by
        obtain ⟨c, hc, hv, hl, hk⟩ := hs
        exact ⟨c, hIx c A B hc (hm.mono fun _ _ h => .inl h), hv.trans (hm.mono fun _ _ h => .inl h), hsame (by omega) hl hm, hsame (Nat.le_refl _) hk hm⟩)
      ?_ ⟨hI1, Mv.of_ext hb1, hL1, hK1⟩).mono ?_
    · refine ⟨fn, fun args => (ps.zip args).foldl (fun t (p, v) => t.setIfInBounds p v) a.tmps, assign, body, ?_⟩
      rintro i x W ⟨hi, hv, hl, hk⟩ hx
      have hlt : w.heap.size + 1 < W.heap.size := (Array.getElem?_eq_some_iff.1 hl).1
      have hy := run_yield (P := P) (args := encs x) hl (by rw [hrec]; exact hps x)
      rw [hrec] at hy
      refine ⟨hy, roundIn_of_wpIn hfn (hassign _ i x W _ (by omega) hv hi hx ?_)⟩
      clear hy
      intro a' Wa hma hia hax
      have keepU : ∀ {k : Nat} {A B : World} {o : Obj}, w.heap.size ≤ k → k < w.heap.size + 2 → A.heap[k]? = some o → Mv (fun k => U k ∨ w.heap.size + 2 ≤ k) A B → B.heap[k]? = some o := fun hk1 hk2 ha hm =>
        (hm.same _ (Array.getElem?_eq_some_iff.1 ha).1 (fun ht => by rcases ht with ht | ht; (have := hU _ ht; omega); omega)).trans ha
      have hla := keepU (by omega) (by omega) hl hma
      have hka := keepU (Nat.le_refl _) (by omega) hk hma
      have hva : Mv (fun k => T k ∨ U k) w Wa :=
        ⟨hma.os.trans hv.os, hma.tape.trans hv.tape, hma.output.trans hv.output, Nat.le_trans hv.size hma.size, fun k hk hc => (hma.same k (Nat.lt_of_lt_of_le hk hv.size) (fun hh => by rcases hh with hh | hh; exact hc (.inr hh); omega)).trans (hv.same k hk hc)⟩
      have hlta : w.heap.size + 1 < Wa.heap.size := (Array.getElem?_eq_some_iff.1 hla).1
      refine ⟨_, run_beginRound hla (by rw [hrec]), ?_⟩
      have hput : ∀ (A : World) (o : Obj), Mv (fun k => k = w.heap.size + 1) A (A.putObj (w.heap.size + 1) o) := fun A o => Mv.put A _ o rfl
      have hputT : ∀ (A : World) (o : Obj), Mv (fun k => T k ∨ k = w.heap.size ∨ k = w.heap.size + 1) A (A.putObj (w.heap.size + 1) o) := fun A o => Mv.put A _ o (.inr (.inr rfl))
      have hputV : ∀ (A : World) (o : Obj), Mv (fun k => T k ∨ U k) w A → Mv (fun k => T k ∨ U k) w (A.putObj (w.heap.size + 1) o) := fun A o h =>
        ⟨h.os, h.tape, h.output, by simpa using h.size, fun k hk hc => (World.putObj_heap_other (by omega)).trans (h.same k hk hc)⟩
      obtain ⟨Wb, hWb⟩ : ∃ Wb, Wb = Wa.putObj (w.heap.size + 1) (.loop { rec .ready none with state := .busy }) := ⟨_, rfl⟩
      rw [← hWb]
      have hl2 : Wb.heap[w.heap.size + 1]? = some (.loop { rec .ready none with state := .busy }) := by rw [hWb]; exact World.putObj_heap_same hlta
      have hk2 : Wb.heap[w.heap.size]? = some (.deferred (some [])) := by rw [hWb]; exact (World.putObj_heap_other (by omega)).trans hka
      have hvb : Mv (fun k => T k ∨ U k) w Wb := by rw [hWb]; exact hputV _ _ hva
      have hib : I i Wb := by rw [hWb]; exact hI _ _ _ hia (hputT _ _)
      have haxb : Ax x a' Wb := by rw [hWb]; exact hAx _ _ _ _ hax (hput _ _)
      have hsb : w.heap.size + 2 ≤ Wb.heap.size := by rw [hWb]; simp; omega
      refine wpIn_mono (hbody (w.heap.size + 1) i x a' Wb (by omega) ⟨_, hl2⟩ hsb hvb hib hx haxb) ?_
      have fin : ∀ (jump : Option Code) (W3 : World), Mv (fun k => U k ∨ w.heap.size + 2 ≤ k) Wb W3 →
          (Instr.endRound (w.heap.size + 1) jump).run P W3 = .ok (.bool jump.isNone) (W3.putObj (w.heap.size + 1) (.loop (rec (if jump.isNone then .ready else .done) jump))) ∧
          Mv (fun k => T k ∨ U k) w (W3.putObj (w.heap.size + 1) (.loop (rec (if jump.isNone then .ready else .done) jump))) ∧
          (W3.putObj (w.heap.size + 1) (.loop (rec (if jump.isNone then .ready else .done) jump))).heap[w.heap.size + 1]? = some (.loop (rec (if jump.isNone then .ready else .done) jump)) ∧
          (W3.putObj (w.heap.size + 1) (.loop (rec (if jump.isNone then .ready else .done) jump))).heap[w.heap.size]? = some (.deferred (some [])) := fun jump W3 hm3 => by
        have hl3 := keepU (by omega) (by omega) hl2 hm3
        have := run_endRound (P := P) jump hl3
        rw [hrec] at this ⊢
        refine ⟨this, ?_, World.putObj_heap_same (Array.getElem?_eq_some_iff.1 hl3).1, (World.putObj_heap_other (by omega)).trans (keepU (Nat.le_refl _) (by omega) hk2 hm3)⟩
        exact hputV _ _ ⟨hm3.os.trans hvb.os, hm3.tape.trans hvb.tape, hm3.output.trans hvb.output, Nat.le_trans hvb.size hm3.size, fun k hk hc => (hm3.same k (Nat.lt_of_lt_of_le hk hvb.size) (fun hh => by rcases hh with hh | hh; exact hc (.inr hh); omega)).trans (hvb.same k hk hc)⟩
      rintro e a3 W3 hp
      cases e with
      | normal =>
        obtain ⟨hm3, hi3⟩ := hp
        obtain ⟨hr, hv4, hl4, hk4⟩ := fin none W3 hm3
        refine ⟨_, _, hr, true, rfl, .inl ⟨rfl, ⟨hI _ _ _ hi3 (hputT _ _), hv4, hl4, hk4⟩, ?_⟩⟩
        have e1 : Mv (fun k => U k ∨ w.heap.size ≤ k) W Wa := hma.mono fun k _ h => h.imp id (fun h => by omega)
        have e2 : Mv (fun k => U k ∨ w.heap.size ≤ k) Wa Wb := by rw [hWb]; exact (hput _ _).mono fun k _ h => .inr (by omega)
        have e3 : Mv (fun k => U k ∨ w.heap.size ≤ k) Wb W3 := hm3.mono fun k _ h => h.imp id (fun h => by omega)
        exact ((e1.trans e2).trans e3).trans ((hput _ _).mono fun k _ h => .inr (by omega))
      | ret =>
        obtain ⟨hm3, hi3⟩ := hp
        obtain ⟨hr, hv4, hl4, hk4⟩ := fin (some .ret) W3 hm3
        exact ⟨_, _, hr, false, rfl, .inr ⟨rfl, .ret, hIx _ _ _ hi3 (hputT _ _), hv4, hl4, hk4⟩⟩
      | exit id =>
        obtain ⟨hm3, hi3⟩ := hp
        obtain ⟨hr, hv4, hl4, hk4⟩ := fin (some (.exit id)) W3 hm3
        exact ⟨_, _, hr, false, rfl, .inr ⟨rfl, .exit id, hIx _ _ _ hi3 (hputT _ _), hv4, hl4, hk4⟩⟩
      | goto t =>
        obtain ⟨hm3, hi3⟩ := hp
        obtain ⟨hr, hv4, hl4, hk4⟩ := fin (some (.goto t)) W3 hm3
        exact ⟨_, _, hr, false, rfl, .inr ⟨rfl, .goto t, hIx _ _ _ hi3 (hputT _ _), hv4, hl4, hk4⟩⟩
      | panic ch => exact hp.elim
      | outgrown => exact hp.elim
    · have hputT : ∀ (A : World) (o : Obj), Mv (fun k => T k ∨ k = w.heap.size ∨ k = w.heap.size + 1) A (A.putObj (w.heap.size + 1) o) := fun A o => Mv.put A _ o (.inr (.inr rfl))
      have hputV : ∀ (A : World) (o : Obj), Mv (fun k => T k ∨ U k) w A → Mv (fun k => T k ∨ U k) w (A.putObj (w.heap.size + 1) o) := fun A o h =>
        ⟨h.os, h.tape, h.output, by simpa using h.size, fun k hk hc => (World.putObj_heap_other (by omega)).trans (h.same k hk hc)⟩
      rintro e W2 ⟨⟨v, rfl⟩, (⟨hi, hv, hl, hk⟩ | ⟨c, hi, hv, hl, hk⟩)⟩
      · exact ⟨none, _, by have := run_endLoop (P := P) hl (by rw [hrec]; simp); rw [hrec] at this; exact this, hdone _ (hI _ _ _ hi (hputT _ _)) (hputV _ _ hv) ((World.putObj_heap_other (by omega)).trans hk)⟩
      · exact ⟨some c, _, by have := run_endLoop (P := P) hl (by rw [hrec]; simp); rw [hrec] at this; exact this, hstop c _ (hIx _ _ _ hi (hputT _ _)) (hputV _ _ hv) ((World.putObj_heap_other (by omega)).trans hk)⟩

end Go.Proofs.Ytedamnocolfmlaa

/- Slices that a loop over an iterator fills: what they own, behind turns of other blocks. -/
namespace Go.Proofs.Ytedamnocolfmlaa
open Go.RowKit

theorem Mv.of_grown {C : Nat → Prop} {A B : World} {row : Option Nat} (h : A.grownBy B row) (hr : ∀ r, row = some r → C r ∨ A.heap.size ≤ r) : Mv C A B :=
  ⟨h.os, h.tape, h.output, h.size, fun k hk hc => h.block k hk (fun e => by rcases hr k e.symm with h | h; exact hc h; omega)⟩
theorem boxed_mv {A B : World} {b : Nat} {t : TypeId} {v : Value} {C : Nat → Prop} (h : Boxed A b t v) (hm : Mv C A B) (hb : ¬ C b) : Boxed B b t v :=
  (hm.same b h.lt hb).trans h
theorem ownsRow_mv {A B : World} {C : Nat → Prop} {base : Nat} {e : TypeId} {size : Nat} {v : Value} {n : Nat} {xs : List Value} (h : A.ownsRow base e size v n xs) (hm : Mv C A B) (hc : ∀ k, base ≤ k → ¬ C k) : B.ownsRow base e size v n xs := by
  refine ⟨h.1, ?_⟩
  rcases h.2 with h | ⟨g, cap, cur, rfl, hg, hgb, h1, h2, h3, h4⟩
  · exact .inl h
  · exact .inr ⟨g, cap, cur, rfl, hg, (hm.same g (Array.getElem?_eq_some_iff.1 hgb).1 (hc g hg)).trans hgb, h1, h2, h3, h4⟩
theorem ownBlock_ge {A : World} {base : Nat} {e : TypeId} {size : Nat} {v : Value} {n : Nat} {xs : List Value} (h : A.ownsRow base e size v n xs) : ∀ r, v.ownBlock = some r → base ≤ r := by
  intro r hr
  rcases h.2 with ⟨rfl, _⟩ | ⟨g, cap, cur, rfl, hg, _⟩
  · cases hr
  · simp only [Value.ownBlock, Option.some.injEq] at hr; omega
theorem ownsRow_le {A : World} {base base' : Nat} {e : TypeId} {size : Nat} {v : Value} {n : Nat} {xs : List Value} (h : A.ownsRow base e size v n xs) (hb : base' ≤ base) : A.ownsRow base' e size v n xs := by
  refine ⟨h.1, ?_⟩
  rcases h.2 with h | ⟨g, cap, cur, rfl, hg, r⟩
  · exact .inl h
  · exact .inr ⟨g, cap, cur, rfl, by omega, r⟩
/-- The cells of a slice that owns a row. -/
theorem ownsRow_cell {A : World} {base : Nat} {e : TypeId} {size : Nat} {v : Value} {n : Nat} {xs : List Value} (h : A.ownsRow base e size v n xs) (hn : 0 < n) :
    ∃ g cap, v = .slice (some ⟨g, 0, none⟩) n cap ∧ g < A.heap.size ∧ n ≤ cap ∧ cap ≤ maxLen ∧ ∀ j u, xs[j]? = some u → A.cell? ⟨g, j, none⟩ = some u := by
  rcases h.2 with ⟨_, h0⟩ | ⟨g, cap, cur, rfl, hg, hgb, h1, h2, h3, h4⟩
  · omega
  · refine ⟨g, cap, rfl, (Array.getElem?_eq_some_iff.1 hgb).1, h1, h2, fun j u hu => ?_⟩
    have hj : j < n * size := by rw [← h.1]; exact (List.getElem?_eq_some_iff.1 hu).1
    rw [← h4, List.getElem?_take_of_lt hj] at hu
    simp only [World.cell?, hgb]
    simpa using hu
theorem ownsRow_slice {A : World} {base : Nat} {e : TypeId} {size : Nat} {v : Value} {n : Nat} {xs : List Value} (h : A.ownsRow base e size v n xs) : ∃ p n c, v = .slice p n c := by
  rcases h.2 with ⟨rfl, _⟩ | ⟨g, cap, cur, rfl, _⟩ <;> exact ⟨_, _, _, rfl⟩
theorem cell_two_new (w : World) (a b : Value) (t : TypeId) : ∀ j u, [a, b][j]? = some u → (w.alloc (.cells #[a, b] t)).cell? ((⟨w.heap.size, 0, none⟩ : Addr).add j) = some u := by
  intro j u hu
  have e : (⟨w.heap.size, 0, none⟩ : Addr).add j = ⟨w.heap.size, j, none⟩ := by unfold Addr.add; split <;> simp_all
  rw [e, cell_rowD, rowD_new]
  simpa using hu

end Go.Proofs.Ytedamnocolfmlaa

/- A region that draws and holds one yield: what reads is taken first, the round comes in turn. (My own law; any program.) -/
namespace Go.Proofs.Ytedamnocolfmlaa
open Go.RowKit

section
variable {P : Program} {ops : Array Oper} {md : Region.Mode} {n : Nat} {r : Nat}
def xUponR (n : Nat) (P : Program) (N : Value → World → Prop) : Result Next → Prop
  | .ok (.value u) w' => N u w'
  | .ok .skip w' => N undef w'
  | .ok (.round l f tmps assign body) w' => RoundIn Fence.wide (n - 1) P l f tmps assign body w' (fun e w'' => ∃ v, e = .returned v ∧ N v w'')
  | _ => False
theorem xUponR_mono {N N' : Value → World → Prop} (h : ∀ v w, N v w → N' v w) : ∀ r : Result Next, xUponR n P N r → xUponR n P N' r
  | .ok (.value u) w', hh => h _ _ hh
  | .ok .skip w', hh => h _ _ hh
  | .ok (.round l f tmps assign body) w', hh => RoundIn.mono hh fun e w'' ⟨v, h1, h2⟩ => ⟨v, h1, h _ _ h2⟩
def xOpR (n : Nat) (P : Program) (ops : Array Oper) (i : Nat) (K : Act → World → Prop) (a : Act) (w : World) : Prop :=
  match ops[i]? with
  | none => K a w
  | some o => if Region.wanted o (yielded ops a.tmps) = true then xUponR n P (fun v w' => K (a.put o.dst v) w') ((execOp a.eval o).run P w) else K (a.put o.dst undef) w
theorem xOpR_mono {i : Nat} {a : Act} {w : World} {K K' : Act → World → Prop} (h : ∀ a w, K a w → K' a w) (hh : xOpR n P ops i K a w) : xOpR n P ops i K' a w := by
  unfold xOpR at *
  split
  · exact h _ _ (by simpa [*] using hh)
  · rename_i o ho
    simp only [ho] at hh
    split
    · rename_i hw; simp only [hw, if_true] at hh; exact xUponR_mono (fun v w' h1 => h _ _ h1) _ hh
    · rename_i hw; simp only [hw] at hh; exact h _ _ hh
theorem wpOpIn_of_R {i : Nat} {a : Act} {w : World} {K : Act → World → Prop} {Q : Exit → Act → World → Prop} (hh : xOpR n P ops i K a w) : wpOpIn Fence.wide n P ops Q i K a w := by
  unfold xOpR at hh
  unfold wpOpIn
  split
  · rename_i ho; simp only [ho] at hh; exact hh
  · rename_i o ho
    simp only [ho] at hh
    split
    · rename_i hw
      simp only [hw, if_true] at hh
      refine ⟨fun _ _ => trivial, ?_⟩
      show o.uponIn Fence.wide n P a K Q ((execOp a.eval o).run P w)
      generalize (execOp a.eval o).run P w = q at *
      cases q with
      | ok x w' =>
        cases x <;> simp only [xUponR] at hh <;> simp only [Oper.uponIn]
        case value u => exact hh
        case skip => exact hh
        case round l f tmps assign body => exact ⟨fun h => by simp [Fence.wide] at h, hh.mono fun e w'' ⟨v, he, hw''⟩ => by subst he; exact hw''⟩
      | halt x w' => simp only [xUponR] at hh
    · rename_i hw; simp only [hw] at hh; exact ⟨fun _ _ => trivial, hh⟩
/-- Whatever order is picked from here on; each operation but r makes new blocks alone. -/
def wpAnyR (n : Nat) (P : Program) (md : Region.Mode) (ops : Array Oper) (r : Nat) (Q : Act → World → Prop) : Nat → Array Bool → Act → World → Prop
  | 0, listed, a, w => Region.ready md ops listed = [] ∧ Q a w
  | fuel + 1, listed, a, w => (Region.ready md ops listed = [] → Q a w) ∧
    ∀ i ∈ Region.ready md ops listed, xOpR n P ops i (fun a' w' => (i = r ∨ Ext w w') ∧ wpAnyR n P md ops r Q fuel (listed.setIfInBounds i true) a' w') a w
theorem wpAnyIn_of_R {Q : Act → World → Prop} {Q' : Exit → Act → World → Prop} (hQ : ∀ a w, Q a w → Q' .normal a w) : ∀ (fuel : Nat) (listed : Array Bool) (a : Act) (w : World),
    wpAnyR n P md ops r Q fuel listed a w → wpAnyIn Fence.wide n P md ops Q' fuel listed a w
  | 0, _, _, _, h => ⟨h.1, hQ _ _ h.2⟩
  | fuel + 1, _, _, _, h => ⟨fun h0 => hQ _ _ (h.1 h0), fun i hi => wpOpIn_of_R (xOpR_mono (fun a' w' h1 => wpAnyIn_of_R hQ fuel _ a' w' h1.2) (h.2 i hi))⟩
/-- In state 'a', in every world that w grows to, 'o' yields v and does nothing else. -/
def YieldsR (P : Program) (ops : Array Oper) (w : World) (o : Oper) (v : Value) (a : Act) : Prop :=
  (Region.wanted o (yielded ops a.tmps) = true ∧ ∀ w', Ext w w' → (execOp a.eval o).run P w' = .ok (.value v) w') ∨ (Region.wanted o (yielded ops a.tmps) = false ∧ v = undef)
theorem YieldsR.later {w w' : World} {o : Oper} {v : Value} {a : Act} (h : YieldsR P ops w o v a) (e : Ext w w') : YieldsR P ops w' o v a := by
  rcases h with ⟨h1, h2⟩ | h
  · exact .inl ⟨h1, fun w2 e2 => h2 w2 (e.tr e2)⟩
  · exact .inr h
theorem YieldsR.xOp {w : World} {i : Nat} {o : Oper} {v : Value} {a : Act} (hi : ops[i]? = some o) (hy : YieldsR P ops w o v a) {K : Act → World → Prop} (h : K (a.put o.dst v) w) : xOpR n P ops i K a w := by
  unfold xOpR
  simp only [hi]
  rcases hy with ⟨hw, hv⟩ | ⟨hw, rfl⟩
  · simp only [hw, if_true, hv w (Ext.rf _), xUponR]; exact h
  · simp only [hw, Bool.false_eq_true, if_false]; exact h
theorem xOpR_put {j : Nat} {oi oj : Oper} {v : Value} {w : World} (hj : ops[j]? = some oj) (hap : oi.apart ops oj = true)
    (hsi : ∀ cs b, oi.op ≠ .select cs b) (hsj : ∀ cs b, oj.op ≠ .select cs b) {K : Act → World → Prop} {a : Act}
    (hy : YieldsR P ops w oi v a) (h : xOpR n P ops j K (a.put oi.dst v) w) :
    xOpR n P ops j (fun a' w' => YieldsR P ops w oi v a' ∧ K (a'.put oi.dst v) w') a w := by
  obtain ⟨h1, h2, h3⟩ := Oper.apart_spec hap
  have keep : ∀ u, YieldsR P ops w oi v (a.put oj.dst u) := fun u => by
    unfold YieldsR at *
    rw [execOp_put oi hsi a oj.dst u h3, wanted_put oi a oj.dst u h3]
    exact hy
  unfold xOpR at *
  simp only [hj] at *
  rw [wanted_put oj a oi.dst v h1] at h
  split
  · rename_i hw
    simp only [hw, if_true] at h
    rw [execOp_put oj hsj a oi.dst v h1] at h
    exact xUponR_mono (fun u w' h4 => ⟨keep u, by rw [← Act.put_comm a v u h2]; exact h4⟩) _ h
  · rename_i hw
    simp only [hw] at h
    exact ⟨keep _, by rw [← Act.put_comm a v undef h2]; exact h⟩
/-- What is done has all done that it waits for. -/
def closedX (md : Region.Mode) (ops : Array Oper) (listed : Array Bool) : Prop := ∀ k o, ops[k]? = some o → listed.getD k true = true → ∀ e ∈ o.after, Region.binds md e = true → listed.getD e.on false = true
theorem closedX.set {listed : Array Bool} {j : Nat} (h : closedX md ops listed) (hj : j ∈ Region.ready md ops listed) : closedX md ops (listed.setIfInBounds j true) := by
  intro k o hk hl e he hb
  refine getD_set_true ?_
  by_cases hjk : k = j
  · subst hjk
    obtain ⟨-, oj, hoj, hall⟩ := mem_ready.1 hj
    rw [hk] at hoj
    cases hoj
    exact hall e he hb
  · rw [getD_set_ne true (Ne.symm hjk)] at hl
    exact h k o hk hl e he hb
/-- Each of the row waits for the one ahead of it. -/
def waitsB (md : Region.Mode) (ops : Array Oper) : List Nat → Bool
  | a :: b :: rest => ((ops[b]?).map (fun o => o.after.any fun e => Region.binds md e && e.on == a)).getD false && waitsB md ops (b :: rest)
  | _ => true
theorem waits_listed {listed : Array Bool} (hc : closedX md ops listed) (hr : r ∈ Region.ready md ops listed) : ∀ (l : List Nat) (a : Nat), waitsB md ops (a :: l) = true → (a :: l).getLast? = some r → a ≠ r → listed.getD a false = true
  | [], a, _, hl, hn => by simp at hl; exact absurd hl hn
  | b :: rest, a, hw, hl, _ => by
    unfold waitsB at hw
    rw [Bool.and_eq_true] at hw
    obtain ⟨h1, h2⟩ := hw
    cases ho : ops[b]? with
    | none => rw [ho] at h1; simp at h1
    | some o =>
      rw [ho] at h1
      simp only [Option.map_some, Option.getD_some, Array.any_eq_true', Bool.and_eq_true, beq_iff_eq] at h1
      obtain ⟨e, he, hb, hon⟩ := h1
      by_cases hbr : b = r
      · subst hbr
        obtain ⟨-, oj, hoj, hall⟩ := mem_ready.1 hr
        rw [ho] at hoj
        cases hoj
        rw [← hon]; exact hall e he hb
      · have hbl := waits_listed hc hr rest b h2 (by simpa using hl) hbr
        have hbt : listed.getD b true = true := by
          rcases Nat.lt_or_ge b listed.size with h' | h'
          · simp [h'] at hbl ⊢; exact hbl
          · simp [Array.getElem?_eq_none h']
        rw [← hon]; exact hc b o ho hbt e he hb
/-- What reads may be taken first, where the round waits for it. -/
theorem wpAnyR_first {Q : Act → World → Prop} {i : Nat} {oi : Oper} {v : Value} {l : List Nat} (hi : ops[i]? = some oi) (hsel : ∀ (j : Nat) (o : Oper) cs b, ops[j]? = some o → o.op ≠ .select cs b)
    (hwt : waitsB md ops (i :: l) = true) (hla : (i :: l).getLast? = some r) (hir : i ≠ r) :
    ∀ (fuel : Nat) (listed : Array Bool) (a : Act) (w : World), closedX md ops listed →
      (∀ j oj, ops[j]? = some oj → j ≠ i → listed.getD j true = false → (∀ e ∈ oj.after, Region.binds md e = true → e.on ≠ i) → oi.apart ops oj = true) →
      i ∈ Region.ready md ops listed → YieldsR P ops w oi v a →
      wpAnyR n P md ops r Q fuel (listed.setIfInBounds i true) (a.put oi.dst v) w → wpAnyR n P md ops r Q (fuel + 1) listed a w := by
  intro fuel
  induction fuel with
  | zero =>
    intro listed a w _ _ hr hy H
    refine ⟨fun h => (by rw [h] at hr; cases hr), fun j hj => ?_⟩
    by_cases hji : j = i
    · subst hji; exact hy.xOp hi ⟨.inr (Ext.rf _), H⟩
    · have := ready_mono hj hji
      rw [H.1] at this
      cases this
  | succ fuel ih =>
    intro listed a w hcl hfree hr hy H
    refine ⟨fun h => (by rw [h] at hr; cases hr), fun j hj => ?_⟩
    by_cases hji : j = i
    · subst hji; exact hy.xOp hi ⟨.inr (Ext.rf _), H⟩
    · have hjr : j ≠ r := fun e => by
        subst e
        have h1 := waits_listed hcl hj l i hwt hla hir
        have h0 := (mem_ready.1 hr).1
        rcases Nat.lt_or_ge i listed.size with h' | h'
        · simp [h'] at h0 h1; rw [h0] at h1; cases h1
        · simp [Array.getElem?_eq_none h'] at h1
      have h1 := H.2 j (ready_mono hj hji)
      obtain ⟨hjun, oj, hoj, hall⟩ := mem_ready.1 hj
      have hnot : ∀ e ∈ oj.after, Region.binds md e = true → e.on ≠ i := fun e he hb heq => by
        have h1 := hall e he hb
        have h0 := (mem_ready.1 hr).1
        rw [heq] at h1
        rcases Nat.lt_or_ge i listed.size with h' | h'
        · simp [h'] at h0 h1; rw [h0] at h1; cases h1
        · simp [Array.getElem?_eq_none h'] at h1
      have h2 := xOpR_put hoj (hfree j oj hoj hji hjun hnot) (fun cs b => hsel i oi cs b hi) (fun cs b => hsel j oj cs b hoj) hy h1
      have hfree' : ∀ k ok, ops[k]? = some ok → k ≠ i → (listed.setIfInBounds j true).getD k true = false →
          (∀ e ∈ ok.after, Region.binds md e = true → e.on ≠ i) → oi.apart ops ok = true := fun k ok hk hki hun hno => by
        refine hfree k ok hk hki ?_ hno
        by_cases hjk : j = k
        · subst hjk; exact hjun
        · rw [getD_set_ne true hjk] at hun; exact hun
      refine xOpR_mono (fun a' w' h3 => ⟨h3.2.1, ih (listed.setIfInBounds j true) a' w' (hcl.set hj) hfree' (ready_mono hr (Ne.symm hji)) (h3.1.later (h3.2.1.resolve_left hjr)) ?_⟩) h2
      have h4 := h3.2.2
      rw [Array.setIfInBounds_comm _ _ hji]
      exact h4
def closedB (md : Region.Mode) (ops : Array Oper) (listed : Array Bool) : Bool := (List.range ops.size).all fun k => !listed.getD k true || ((ops[k]?).map (·.after.all fun e => !Region.binds md e || listed.getD e.on false)).getD true
theorem closed_of {listed : Array Bool} (h : closedB md ops listed = true) : closedX md ops listed := by
  intro k o hk hl e he hb
  unfold closedB at h
  have hks : k < ops.size := (Array.getElem?_eq_some_iff.1 hk).1
  have := List.all_eq_true.1 h k (List.mem_range.2 hks)
  rw [hl, hk] at this
  simp only [Bool.not_true, Bool.false_or, Option.map_some, Option.getD_some, Array.all_eq_true', Bool.or_eq_true, Bool.not_eq_true'] at this
  rcases this e he with h1 | h1
  · rw [hb] at h1; cases h1
  · exact h1
theorem takeR {Q : Act → World → Prop} {N k : Nat} {l : List Nat} {oi : Oper} {v : Value} {fuel : Nat} {a : Act} {w : World} (hs : Region.noSelect ops = true) (hok : okX ops N k = true)
    (hcl : closedB .any ops (lst N k) = true) (hwt : waitsB .any ops (k :: l) = true) (hla : (k :: l).getLast? = some r) (hir : k ≠ r) (hi : ops[k]? = some oi) (hw : Region.wanted oi (yielded ops a.tmps) = true)
    (hy : ∀ w', Ext w w' → (execOp a.eval oi).run P w' = .ok (.value v) w')
    (H : wpAnyR n P .any ops r Q fuel (lst N (k + 1)) (a.put oi.dst v) w) : wpAnyR n P .any ops r Q (fuel + 1) (lst N k) a w := by
  unfold okX at hok
  rw [Bool.and_eq_true] at hok
  refine wpAnyR_first hi (Region.noSelect_spec hs) hwt hla hir fuel _ a w (closed_of hcl) (Region.free_spec hi hok.1) (by simpa using upX_ready hok.2) (.inl ⟨hw, hy⟩) ?_
  rw [lst_set]
  exact H
theorem soleR {Q : Act → World → Prop} {N k : Nat} {oi : Oper} {fuel : Nat} {a : Act} {w : World} (hr : Region.ready .any ops (lst N k) = [k]) (hi : ops[k]? = some oi) (hw : Region.wanted oi (yielded ops a.tmps) = true)
    (H : xUponR n P (fun v w' => (k = r ∨ Ext w w') ∧ wpAnyR n P .any ops r Q fuel (lst N (k + 1)) (a.put oi.dst v) w') ((execOp a.eval oi).run P w)) : wpAnyR n P .any ops r Q (fuel + 1) (lst N k) a w := by
  refine ⟨fun h0 => ?_, fun j hj => ?_⟩
  · rw [hr] at h0; cases h0
  · rw [hr] at hj
    obtain rfl : j = k := by simpa using hj
    unfold xOpR
    simp only [hi, hw, if_true]
    rw [lst_set]
    exact H
/-- The yield comes up alone. -/
theorem roundR {Q : Act → World → Prop} {N : Nat} {oi : Oper} {fuel : Nat} {a : Act} {w : World} {l : Nat} {f : FuncId} {tm : Array Value} {asg bo : Code} (hr : Region.ready .any ops (lst N r) = [r]) (hi : ops[r]? = some oi) (hw : Region.wanted oi (yielded ops a.tmps) = true)
    (he : (execOp a.eval oi).run P w = .ok (.round l f tm asg bo) w) {R : Ending → World → Prop} (hR : RoundIn Fence.wide (n - 1) P l f tm asg bo w R)
    (H : ∀ e w', R e w' → ∃ v, e = .returned v ∧ wpAnyR n P .any ops r Q fuel (lst N (r + 1)) (a.put oi.dst v) w') : wpAnyR n P .any ops r Q (fuel + 1) (lst N r) a w := by
  refine soleR hr hi hw ?_
  rw [he]
  exact hR.mono fun e w' h => by
    obtain ⟨v, h1, h2⟩ := H e w' h
    exact ⟨v, h1, .inl rfl, h2⟩
theorem valueR {Q : Act → World → Prop} {N k : Nat} {oi : Oper} {v : Value} {fuel : Nat} {a : Act} {w : World} (hr : Region.ready .any ops (lst N k) = [k]) (hi : ops[k]? = some oi) (hw : Region.wanted oi (yielded ops a.tmps) = true)
    (he : (execOp a.eval oi).run P w = .ok (.value v) w) (H : wpAnyR n P .any ops r Q fuel (lst N (k + 1)) (a.put oi.dst v) w) : wpAnyR n P .any ops r Q (fuel + 1) (lst N k) a w := by
  refine soleR hr hi hw ?_
  rw [he]
  exact ⟨.inr (Ext.rf _), H⟩
theorem doneR {Q : Act → World → Prop} {fuel : Nat} {listed : Array Bool} {a : Act} {w : World} (hr : Region.ready md ops listed = []) (H : Q a w) : wpAnyR n P md ops r Q fuel listed a w := by
  cases fuel with
  | zero => exact ⟨hr, H⟩
  | succ m => exact ⟨fun _ => H, fun i hi => by rw [hr] at hi; cases hi⟩
theorem wp_region_R (r : Nat) {id : Nat} {Q : Exit → Act → World → Prop} {a : Act} {w : World} (hm : P.follows .mixedOrders = true)
    (h : wpAnyR n P .any ops r (fun a w => Q .normal a w) ops.size (Array.replicate ops.size false) a w.drew) : (Code.region id ops true).wpIn Fence.wide n P Q a w :=
  wpIn_region_any hm (wpAnyIn_of_R (fun _ _ h => h) _ _ _ _ h)
theorem withR {P : Program} {ops E : Array Oper} {Q : Act → World → Prop} {N : Nat} {a : Act} {w : World} {R : Array Oper → Prop} (h : ops = E) (hR : R E) (hf : ops.size = N)
    (H : R ops → wpAnyR n P .any ops r Q N (lst N 0) a w) : wpAnyR n P .any ops r Q ops.size (Array.replicate ops.size false) a w := by
  rw [hf, lst_zero]; exact H (h ▸ hR)
end

end Go.Proofs.Ytedamnocolfmlaa

/- Pairs of neighbours. -/
namespace Go.Proofs.Ytedamnocolfmlaa
open Go.RowKit
def pathsX : List (Nat × List Nat) := [(0, [3, 4, 15]), (1, [2, 3, 4, 15]), (2, [3, 4, 15]), (3, [4, 15]), (4, [15]), (5, [15]), (6, [9, 10, 15]), (7, [8, 9, 10, 15]), (8, [9, 10, 15]), (9, [10, 15]), (10, [15]), (11, [13, 14, 15]), (12, [13, 14, 15]), (13, [14, 15]), (14, [15])]

def SchPC (ops : Array Oper) : Prop := Region.noSelect ops = true ∧ (∀ k, k < 15 → okX ops 17 k = true) ∧ (∀ k, k < 15 → closedB .any ops (lst 17 k) = true) ∧ (∀ k l, (k, l) ∈ pathsX → waitsB .any ops (k :: l) = true) ∧ Region.ready .any ops (lst 17 15) = [15] ∧ Region.ready .any ops (lst 17 16) = [16] ∧ Region.ready .any ops (lst 17 17) = []
theorem load_slC_X {w : World} {B O : Nat} {a : Option Addr} {m c : Nat} (h0 : w.cell? ⟨B, O, none⟩ = some (.slice a m c)) (hl : Lt B w) (ρ : Operand → Value) (dst : Option Tmp) (x : Operand) (ty : TypeId) (pos : String) (after : Array Edge) (g : Option (Nat × Bool))
    (hx : ρ x = .pointer (some ⟨B, O, none⟩)) : ∀ w', Ext w w' → (execOp ρ ⟨dst, .load 45 x, ty, pos, after, g⟩).run Try.prog w' = .ok (.value (.slice a m c)) w' := by
  intro w' hE
  have h0 := (hE.cell (p := ⟨B, _, none⟩) hl).trans h0
  simp only [execOp, hx]
  go_simp
theorem index_C_X {w : World} {B O i m c : Nat} (hi : i < m) (ρ : Operand → Value) (dst : Option Tmp) (x y : Operand) (ty : TypeId) (pos : String) (after : Array Edge) (g : Option (Nat × Bool))
    (hx : ρ x = .slice (some ⟨B, O, none⟩) m c) (hy : ρ y = .int .i64 (i : Nat)) : ∀ w', Ext w w' → (execOp ρ ⟨dst, .indexAddr 45 x y, ty, pos, after, g⟩).run Try.prog w' = .ok (.value (.pointer (some ⟨B, O + i * 6, none⟩))) w' := by
  intro w' hE
  have hi' : (i : Int) < m := by omega
  simp only [execOp, hx, hy]
  go_simp
theorem load_C_X {w : World} {B O i : Nat} {x : Co} (h0 : w.cell? ⟨B, O + i * 6, none⟩ = some (.int .u32 x.t.a)) (h1 : w.cell? ⟨B, O + i * 6 + 1, none⟩ = some (.int .u32 x.t.b)) (h2 : w.cell? ⟨B, O + i * 6 + 2, none⟩ = some (.int .u16 x.t.c)) (h3 : w.cell? ⟨B, O + i * 6 + 3, none⟩ = some (.int .u16 x.t.d)) (h4 : w.cell? ⟨B, O + i * 6 + 4, none⟩ = some (.int .i64 x.s)) (h5 : w.cell? ⟨B, O + i * 6 + 5, none⟩ = some (.int .i64 x.l)) (hl : Lt B w) (ρ : Operand → Value) (dst : Option Tmp) (q : Operand) (ty : TypeId) (pos : String) (after : Array Edge) (g : Option (Nat × Bool))
    (hx : ρ q = .pointer (some ⟨B, O + i * 6, none⟩)) : ∀ w', Ext w w' → (execOp ρ ⟨dst, .load 67 q, ty, pos, after, g⟩).run Try.prog w' = .ok (.value (.agg #[.int .u32 x.t.a, .int .u32 x.t.b, .int .u16 x.t.c, .int .u16 x.t.d, .int .i64 x.s, .int .i64 x.l])) w' := by
  intro w' hE
  have h0 := (hE.cell (p := ⟨B, _, none⟩) hl).trans h0
  have h1 := (hE.cell (p := ⟨B, _, none⟩) hl).trans h1
  have h2 := (hE.cell (p := ⟨B, _, none⟩) hl).trans h2
  have h3 := (hE.cell (p := ⟨B, _, none⟩) hl).trans h3
  have h4 := (hE.cell (p := ⟨B, _, none⟩) hl).trans h4
  have h5 := (hE.cell (p := ⟨B, _, none⟩) hl).trans h5
  simp only [execOp, hx]
  go_simp
theorem yield_C_X {w : World} {y : Nat} {v1 v2 : Value} {R : Result Next} (h : (Instr.yield y #[v1, v2]).run Try.prog w = R) (ρ : Operand → Value) (dst : Option Tmp) (x q1 q2 : Operand) (tys : Array TypeId) (ty : TypeId) (pos : String) (after : Array Edge) (g : Option (Nat × Bool))
    (hx : ρ x = .func (.yield y) #[] #[]) (h1 : ρ q1 = v1) (h2 : ρ q2 = v2) : (execOp ρ ⟨dst, .call { callee := .value x, args := #[q1, q2], argTypes := tys }, ty, pos, after, g⟩).run Try.prog w = R := by
  rw [← h]
  subst h1 h2
  simp only [execOp, hx]
  go_simp
def pairsC (xs : List Co) : List (Co × Co) := xs.zip xs.tail
theorem pairsC_len (xs : List Co) : (pairsC xs).length = xs.length - 1 := by simp [pairsC]
theorem pairsC_get (xs : List Co) (i : Nat) (hi : i + 1 < xs.length) : (pairsC xs)[i]? = some (xs[i], xs[i + 1]) := by
  unfold pairsC
  rw [List.getElem?_eq_getElem (by simp; omega)]
  simp
def SchPH (ops : Array Oper) : Prop := Region.noSelect ops = true ∧ (∀ k, k < 15 → okX ops 17 k = true) ∧ (∀ k, k < 15 → closedB .any ops (lst 17 k) = true) ∧ (∀ k l, (k, l) ∈ pathsX → waitsB .any ops (k :: l) = true) ∧ Region.ready .any ops (lst 17 15) = [15] ∧ Region.ready .any ops (lst 17 16) = [16] ∧ Region.ready .any ops (lst 17 17) = []
theorem load_slH_X {w : World} {B O : Nat} {a : Option Addr} {m c : Nat} (h0 : w.cell? ⟨B, O, none⟩ = some (.slice a m c)) (hl : Lt B w) (ρ : Operand → Value) (dst : Option Tmp) (x : Operand) (ty : TypeId) (pos : String) (after : Array Edge) (g : Option (Nat × Bool))
    (hx : ρ x = .pointer (some ⟨B, O, none⟩)) : ∀ w', Ext w w' → (execOp ρ ⟨dst, .load 74 x, ty, pos, after, g⟩).run Try.prog w' = .ok (.value (.slice a m c)) w' := by
  intro w' hE
  have h0 := (hE.cell (p := ⟨B, _, none⟩) hl).trans h0
  simp only [execOp, hx]
  go_simp
theorem index_H_X {w : World} {B O i m c : Nat} (hi : i < m) (ρ : Operand → Value) (dst : Option Tmp) (x y : Operand) (ty : TypeId) (pos : String) (after : Array Edge) (g : Option (Nat × Bool))
    (hx : ρ x = .slice (some ⟨B, O, none⟩) m c) (hy : ρ y = .int .i64 (i : Nat)) : ∀ w', Ext w w' → (execOp ρ ⟨dst, .indexAddr 74 x y, ty, pos, after, g⟩).run Try.prog w' = .ok (.value (.pointer (some ⟨B, O + i * 5, none⟩))) w' := by
  intro w' hE
  have hi' : (i : Int) < m := by omega
  simp only [execOp, hx, hy]
  go_simp
theorem load_H_X {w : World} {B O i : Nat} {x : Ho} (h0 : w.cell? ⟨B, O + i * 5, none⟩ = some (.int .u32 x.t.a)) (h1 : w.cell? ⟨B, O + i * 5 + 1, none⟩ = some (.int .u32 x.t.b)) (h2 : w.cell? ⟨B, O + i * 5 + 2, none⟩ = some (.int .u16 x.t.c)) (h3 : w.cell? ⟨B, O + i * 5 + 3, none⟩ = some (.int .u16 x.t.d)) (h4 : w.cell? ⟨B, O + i * 5 + 4, none⟩ = some (.int .i64 x.n)) (hl : Lt B w) (ρ : Operand → Value) (dst : Option Tmp) (q : Operand) (ty : TypeId) (pos : String) (after : Array Edge) (g : Option (Nat × Bool))
    (hx : ρ q = .pointer (some ⟨B, O + i * 5, none⟩)) : ∀ w', Ext w w' → (execOp ρ ⟨dst, .load 97 q, ty, pos, after, g⟩).run Try.prog w' = .ok (.value (.agg #[.int .u32 x.t.a, .int .u32 x.t.b, .int .u16 x.t.c, .int .u16 x.t.d, .int .i64 x.n])) w' := by
  intro w' hE
  have h0 := (hE.cell (p := ⟨B, _, none⟩) hl).trans h0
  have h1 := (hE.cell (p := ⟨B, _, none⟩) hl).trans h1
  have h2 := (hE.cell (p := ⟨B, _, none⟩) hl).trans h2
  have h3 := (hE.cell (p := ⟨B, _, none⟩) hl).trans h3
  have h4 := (hE.cell (p := ⟨B, _, none⟩) hl).trans h4
  simp only [execOp, hx]
  go_simp
theorem yield_H_X {w : World} {y : Nat} {v1 v2 : Value} {R : Result Next} (h : (Instr.yield y #[v1, v2]).run Try.prog w = R) (ρ : Operand → Value) (dst : Option Tmp) (x q1 q2 : Operand) (tys : Array TypeId) (ty : TypeId) (pos : String) (after : Array Edge) (g : Option (Nat × Bool))
    (hx : ρ x = .func (.yield y) #[] #[]) (h1 : ρ q1 = v1) (h2 : ρ q2 = v2) : (execOp ρ ⟨dst, .call { callee := .value x, args := #[q1, q2], argTypes := tys }, ty, pos, after, g⟩).run Try.prog w = R := by
  rw [← h]
  subst h1 h2
  simp only [execOp, hx]
  go_simp
def pairsH (xs : List Ho) : List (Ho × Ho) := xs.zip xs.tail
theorem pairsH_len (xs : List Ho) : (pairsH xs).length = xs.length - 1 := by simp [pairsH]
theorem pairsH_get (xs : List Ho) (i : Nat) (hi : i + 1 < xs.length) : (pairsH xs)[i]? = some (xs[i], xs[i + 1]) := by
  unfold pairsH
  rw [List.getElem?_eq_getElem (by simp; omega)]
  simp
end Go.Proofs.Ytedamnocolfmlaa

/- Connections: Right. -/
namespace Go.Proofs.Ytedamnocolfmlaa
open Go.RowKit

def wrongC (x : Co) : Bool := decide (x.s < 0) || decide (x.l < x.s) || decide (1099511627776 < x.l)
def lessC (p : Co × Co) : Bool := decide (cmpT p.1.t p.2.t < 0)
def rightC (xs : List Co) : Bool := decide (xs.length ≤ 32) && !xs.any wrongC && (pairsC xs).all lessC
end Go.Proofs.Ytedamnocolfmlaa

/- Slices of connections and holders of one's own: Clone. -/
namespace Go.Proofs.Ytedamnocolfmlaa
open Go.RowKit

def Co.cl (x : Co) : List Value := [.int .u32 x.t.a, .int .u32 x.t.b, .int .u16 x.t.c, .int .u16 x.t.d, .int .i64 x.s, .int .i64 x.l]
def flC (xs : List Co) : List Value := xs.flatMap Co.cl
theorem flC_len : ∀ xs : List Co, (flC xs).length = xs.length * 6
  | [] => rfl
  | x :: xs => by
    show (Co.cl x ++ flC xs).length = _
    rw [List.length_append, flC_len xs, List.length_cons]
    show 6 + _ = _
    omega
theorem flC_get : ∀ (xs : List Co) (k j : Nat) (hk : k < xs.length), j < 6 → (flC xs)[k * 6 + j]? = (xs[k]).cl[j]?
  | x :: xs, 0, j, _, hj => by
    show (Co.cl x ++ flC xs)[0 * 6 + j]? = _
    rw [Nat.zero_mul, Nat.zero_add, List.getElem?_append_left (by show j < 6; exact hj)]; rfl
  | x :: xs, k + 1, j, hk, hj => by
    show (Co.cl x ++ flC xs)[(k + 1) * 6 + j]? = _
    have hc : (Co.cl x).length = 6 := rfl
    rw [List.getElem?_append_right (by omega), hc, show (k + 1) * 6 + j - 6 = k * 6 + j by omega]
    exact flC_get xs k j (by simpa using hk) hj
theorem flC_snoc (xs : List Co) (x : Co) : flC (xs ++ [x]) = flC xs ++ x.cl := by unfold flC; simp
theorem flC_one (xs : List Co) : ∀ u ∈ flC xs, u.oneCell' = true := by
  intro u hu
  unfold flC at hu
  rw [List.mem_flatMap] at hu
  obtain ⟨x, _, hx⟩ := hu
  unfold Co.cl at hx
  simp only [List.mem_cons, List.not_mem_nil, or_false] at hx
  rcases hx with rfl | rfl | rfl | rfl | rfl | rfl <;> rfl
theorem info_C : (Try.prog.info? 67).map (fun i => (i.zero, i.size, i.bytes)) = some (some (.agg #[.int .u32 0, .int .u32 0, .int .u16 0, .int .u16 0, .int .i64 0, .int .i64 0]), 6, 32) := by kernel_rfl
theorem SlC.own {w : World} {base : Nat} {v : Value} {xs : List Co} (h : w.ownsRow base 67 6 v xs.length (flC xs)) : ∃ p c, v = .slice p xs.length c ∧ xs.length ≤ c ∧ SlC w p xs := by
  rcases h.2 with ⟨rfl, h0⟩ | ⟨g, cap, cur, rfl, hg, hgb, h1, h2, h3, h4⟩
  · have : xs = [] := List.length_eq_zero_iff.1 h0
    subst this
    exact ⟨none, 0, rfl, Nat.le_refl _, SlC.nil _ _⟩
  · refine ⟨some ⟨g, 0, none⟩, cap, rfl, h1, fun k hk => ?_⟩
    have key : ∀ j, j < 6 → w.cell? ⟨g, 0 + k * 6 + j, none⟩ = (xs[k]).cl[j]? := fun j hj => by
      rw [← flC_get xs k j hk hj, ← h4, List.getElem?_take_of_lt (by have := flC_len xs; omega)]
      simp only [World.cell?, hgb]
      simp
    exact ⟨g, 0, rfl, (Array.getElem?_eq_some_iff.1 hgb).1, key 0 (by omega), key 1 (by omega), key 2 (by omega), key 3 (by omega), key 4 (by omega), key 5 (by omega)⟩
end Go.Proofs.Ytedamnocolfmlaa

/- Connections: parted. -/
namespace Go.Proofs.Ytedamnocolfmlaa
open Go.RowKit

/-- A row of one's own stays where another grows. -/
theorem own_keep {A B : World} {row : Option Nat} {base : Nat} {e : TypeId} {size : Nat} {v : Value} {n : Nat} {xs : List Value} (h : A.ownsRow base e size v n xs) (hg : A.grownBy B row) (hne : ∀ g, v.ownBlock = some g → row ≠ some g) : B.ownsRow base e size v n xs := by
  refine ⟨h.1, ?_⟩
  rcases h.2 with h | ⟨g, cap, cur, rfl, hb, hgb, h1, h2, h3, h4⟩
  · exact .inl h
  · have hm : Mv (fun k => row = some k) A B := Mv.of_grown hg fun r e => .inl e
    exact .inr ⟨g, cap, cur, rfl, hb, (hm.same g (Array.getElem?_eq_some_iff.1 hgb).1 (hne g rfl)).trans hgb, h1, h2, h3, h4⟩
theorem own_ext {A B : World} {base : Nat} {e : TypeId} {size : Nat} {v : Value} {n : Nat} {xs : List Value} (h : A.ownsRow base e size v n xs) (he : Ext A B) : B.ownsRow base e size v n xs :=
  ownsRow_mv (C := fun _ => False) h (Mv.of_ext he) (fun _ _ h => h)
theorem own_lt {A : World} {base : Nat} {e : TypeId} {size : Nat} {v : Value} {n : Nat} {xs : List Value} (h : A.ownsRow base e size v n xs) : ∀ g, v.ownBlock = some g → g < A.heap.size := by
  intro g hg
  rcases h.2 with ⟨rfl, _⟩ | ⟨b, cap, cur, rfl, hb, hgb, _⟩
  · cases hg
  · have e : b = g := by simpa [Value.ownBlock] using hg
    subst e
    exact (Array.getElem?_eq_some_iff.1 hgb).1
theorem co_one (x : Co) : ∀ u ∈ x.cl, u.oneCell' = true := by
  intro u hu
  unfold Co.cl at hu
  simp only [List.mem_cons, List.not_mem_nil, or_false] at hu
  rcases hu with rfl | rfl | rfl | rfl | rfl | rfl <;> rfl
theorem cell_co_new (W : World) (x : Co) (t : TypeId) : ∀ j u, x.cl[j]? = some u → (W.alloc (.cells #[.int .u32 x.t.a, .int .u32 x.t.b, .int .u16 x.t.c, .int .u16 x.t.d, .int .i64 x.s, .int .i64 x.l] t)).cell? ((⟨W.heap.size, 0, none⟩ : Addr).add j) = some u := by
  intro j u hu
  have hj : j < 6 := (List.getElem?_eq_some_iff.1 hu).1
  have e : (⟨W.heap.size, 0, none⟩ : Addr).add j = ⟨W.heap.size, j, none⟩ := by unfold Addr.add; split <;> simp_all
  rw [e, cell_rowD, rowD_new, ← hu]
  obtain rfl | rfl | rfl | rfl | rfl | rfl : j = 0 ∨ j = 1 ∨ j = 2 ∨ j = 3 ∨ j = 4 ∨ j = 5 := by omega
  all_goals rfl
def yesN (so : Co → Bool) (xs : List Co) (k : Nat) : List Co := (xs.take k).filter so
def noN (so : Co → Bool) (xs : List Co) (k : Nat) : List Co := (xs.take k).filter fun x => !so x
theorem yesN_yes (so : Co → Bool) (xs : List Co) (k : Nat) (x : Co) (h : k < xs.length) (hx : xs[k] = x) (hs : so x = true) : yesN so xs (k + 1) = yesN so xs k ++ [x] ∧ noN so xs (k + 1) = noN so xs k := by
  unfold yesN noN
  rw [List.take_succ_eq_append_getElem h, List.filter_append, List.filter_append, hx]
  simp [hs]
theorem yesN_no (so : Co → Bool) (xs : List Co) (k : Nat) (x : Co) (h : k < xs.length) (hx : xs[k] = x) (hs : so x = false) : yesN so xs (k + 1) = yesN so xs k ∧ noN so xs (k + 1) = noN so xs k ++ [x] := by
  unfold yesN noN
  rw [List.take_succ_eq_append_getElem h, List.filter_append, List.filter_append, hx]
  simp [hs]
theorem yesN_len (so : Co → Bool) (xs : List Co) (k : Nat) : (yesN so xs k).length ≤ xs.length ∧ (noN so xs k).length ≤ xs.length := by
  unfold yesN noN
  exact ⟨Nat.le_trans (List.length_filter_le _ _) (List.length_take_le' _ _), Nat.le_trans (List.length_filter_le _ _) (List.length_take_le' _ _)⟩
/-- Two rows of one's own, apart. -/
def TwoC (base : Nat) (w : World) (v1 v2 : Value) (l1 l2 : List Co) : Prop :=
  w.ownsRow base 67 6 v1 l1.length (flC l1) ∧ w.ownsRow base 67 6 v2 l2.length (flC l2) ∧ ∀ g, v1.ownBlock = some g → v2.ownBlock ≠ some g
set_option maxRecDepth 20000 in
set_option maxHeartbeats 4000000 in
theorem parted_any (g : Nat) (lb : Array Value) (eg : ∀ args w, (callFunc g args).run Try.prog w = .ok (.enter g args) w) (so : Co → Bool) (p : Option Addr) (xs : List Co) (c : Nat) (w : World)
    (hs : SlC w p xs) (hl : xs.length ≤ 1000) (hf : ∀ x W, x ∈ xs → Ext w W → Calls Try.prog g (#[.agg #[.int .u32 x.t.a, .int .u32 x.t.b, .int .u16 x.t.c, .int .u16 x.t.d, .int .i64 x.s, .int .i64 x.l]] ++ lb) W fun e w' => e = .returned (.bool (so x)) ∧ Ext W w') :
    Calls Try.prog 39 #[.slice p xs.length c, .func (.func g) #[] lb] w fun e w' => ∃ v1 v2, e = .returned (.tuple #[v1, v2]) ∧ TwoC w.heap.size w' v1 v2 (xs.filter so) (xs.filter fun x => !so x) ∧ Ext w w' := by
  obtain ⟨i0, hi, hz0, hz1, hz2⟩ := info_parts info_C
  have HF := Lib.hid hf
  clear hf
  go_enter Try.func39, Try.ntmps39
  go_wp2
  go_loopw [4, 5, 7, 10] (fun vy vn _ a wr => ∃ k : Nat, k ≤ xs.length ∧ a = .int .i64 k ∧ TwoC w.heap.size wr vy vn (yesN so xs k) (noN so xs k) ∧ Ext w wr) (fun _ _ _ a _ => xs.length - (intOf a).toNat)
  case atStart => exact ⟨0, Nat.zero_le _, rfl, ⟨World.ownsRow_nil _ _ _ _, World.ownsRow_nil _ _ _ _, fun g h => by cases h⟩, Ext.rf _⟩
  case round =>
    obtain ⟨k, hk, rfl, ⟨hy, hn, hd⟩, hE⟩ := hrel
    by_cases hlt : k < xs.length
    · have hil : (k : Int) < xs.length := by omega
      obtain ⟨b, off, rfl, hb, c0, c1, c2, c3, c4, c5⟩ := (hs.ext hE) k hlt
      have lbb : Lt b wr := hb
      obtain ⟨x, hx⟩ : ∃ x, xs[k] = x := ⟨_, rfl⟩
      have hmem : x ∈ xs := by rw [← hx]; exact List.getElem_mem hlt
      rw [hx] at c0 c1 c2 c3 c4 c5
      have HY := Lib.hid hy
      have HN := Lib.hid hn
      have HD := Lib.hid hd
      have hlen := yesN_len so xs k
      clear hy hn hd
      go_upto_region 4 with (fail)
      obtain ⟨W1, hW⟩ : ∃ W1, wr.alloc (.cells #[.int .u32 x.t.a, .int .u32 x.t.b, .int .u16 x.t.c, .int .u16 x.t.d, .int .i64 x.s, .int .i64 x.l] 67) = W1 := ⟨_, rfl⟩
      have g1 : Ext wr W1 := by rw [← hW]; exact Ext.al (Ext.rf _) _
      have rx : rowD W1 wr.heap.size = #[.int .u32 x.t.a, .int .u32 x.t.b, .int .u16 x.t.c, .int .u16 x.t.d, .int .i64 x.s, .int .i64 x.l] := by rw [← hW]; simp [go_sem]
      have lx : Lt wr.heap.size W1 := by rw [← hW]; simp [Lt]
      rw [hW]
      have hbw := hE.size
      clear hW c0 c1 c2 c3 c4 c5 lbb hb
      generalize wr.heap.size = BX at *
      have x0 : W1.cell? ⟨BX, 0, none⟩ = some (.int .u32 x.t.a) := by rw [cell_rowD, rx]; rfl
      have x1 : W1.cell? ⟨BX, 1, none⟩ = some (.int .u32 x.t.b) := by rw [cell_rowD, rx]; rfl
      have x2 : W1.cell? ⟨BX, 2, none⟩ = some (.int .u16 x.t.c) := by rw [cell_rowD, rx]; rfl
      have x3 : W1.cell? ⟨BX, 3, none⟩ = some (.int .u16 x.t.d) := by rw [cell_rowD, rx]; rfl
      have x4 : W1.cell? ⟨BX, 4, none⟩ = some (.int .i64 x.s) := by rw [cell_rowD, rx]; rfl
      have x5 : W1.cell? ⟨BX, 5, none⟩ = some (.int .i64 x.l) := by rw [cell_rowD, rx]; rfl
      have hE1 := hE.tr g1
      have HC := HF.out x W1 hmem hE1
      clear rx
      cases hso : so x
      · rw [hso] at HC
        have HCC := Lib.hid HC
        obtain ⟨n1, n2⟩ := yesN_no so xs k x hlt hx hso
        have HN1 := Lib.hid n1
        have HN2 := Lib.hid n2
        clear HC n1 n2 hx hso hmem
        go_wp2_with (first | (at_builtin; go_must (refine wpList_append_own_at _ rfl _ _ 45 rfl w.heap.size 67 i0 (.agg #[.int .u32 0, .int .u32 0, .int .u16 0, .int .u16 0, .int .i64 0, .int .i64 0]) 6 32 Try.underlying45 hi hz0 hz1 hz2 rfl (by decide) u5 _ _ rfl (HON.out.alloc _) ⟨W2.heap.size, 0, none⟩ 1 1 x.cl rfl rfl (cell_co_new _ _ _) (co_one x) (by unfold maxLen; omega) (by omega) (by simp; omega) ?_); intro v' w3 hown' hgrow _ hat; have HOW := Lib.hid hown'; have HG := Lib.hid hgrow; have HAT := Lib.hid hat; clear hown' hgrow hat) | ((with_reducible refine (HCC.out).mono ?_); rintro e W2 ⟨rfl, g2⟩; obtain ⟨hc2, hf2, hl2, hz2', -⟩ := kept g2; (try simp at hz2'); have HOY := Lib.hid (own_ext HY.out (g1.tr g2)); have HON := Lib.hid (own_ext HN.out (g1.tr g2)); have hsz2 := (hE1.tr g2).size))
        go_roundw
        case rel =>
          have gX : Ext w (W2.alloc (.cells #[.int .u32 x.t.a, .int .u32 x.t.b, .int .u16 x.t.c, .int .u16 x.t.d, .int .i64 x.s, .int .i64 x.l] 67)) := Ext.al (hE1.tr g2) _
          refine ⟨k + 1, by omega, by go_num, ⟨?_, ?_, ?_⟩, ?_⟩
          · rw [HN1.out]; exact own_keep (HOY.out.alloc _) HG.out (fun g h e => HD.out g h e)
          · rw [HN2.out, List.length_append, flC_snoc]; exact HOW.out
          · intro gg hg1 hg2
            have b1 := own_lt HOY.out
            have b2 := own_lt HON.out
            rcases HAT.out with e | e
            · exact HD.out gg hg1 (e ▸ hg2)
            · have := b1 gg hg1; rw [hg2] at e; simp at e; omega
          · exact Mv.ext_of gX (Mv.of_grown (C := fun k => w.heap.size ≤ k) HG.out fun r e => .inl (ownBlock_ge HON.out r e)) (fun k h => h)
        case measure => simp [intOf]; omega
      · rw [hso] at HC
        have HCC := Lib.hid HC
        obtain ⟨n1, n2⟩ := yesN_yes so xs k x hlt hx hso
        have HN1 := Lib.hid n1
        have HN2 := Lib.hid n2
        clear HC n1 n2 hx hso hmem
        go_wp2_with (first | (at_builtin; go_must (refine wpList_append_own_at _ rfl _ _ 45 rfl w.heap.size 67 i0 (.agg #[.int .u32 0, .int .u32 0, .int .u16 0, .int .u16 0, .int .i64 0, .int .i64 0]) 6 32 Try.underlying45 hi hz0 hz1 hz2 rfl (by decide) u4 _ _ rfl (HOY.out.alloc _) ⟨W2.heap.size, 0, none⟩ 1 1 x.cl rfl rfl (cell_co_new _ _ _) (co_one x) (by unfold maxLen; omega) (by omega) (by simp; omega) ?_); intro v' w3 hown' hgrow _ hat; have HOW := Lib.hid hown'; have HG := Lib.hid hgrow; have HAT := Lib.hid hat; clear hown' hgrow hat) | ((with_reducible refine (HCC.out).mono ?_); rintro e W2 ⟨rfl, g2⟩; obtain ⟨hc2, hf2, hl2, hz2', -⟩ := kept g2; (try simp at hz2'); have HOY := Lib.hid (own_ext HY.out (g1.tr g2)); have HON := Lib.hid (own_ext HN.out (g1.tr g2)); have hsz2 := (hE1.tr g2).size))
        go_roundw
        case rel =>
          have gX : Ext w (W2.alloc (.cells #[.int .u32 x.t.a, .int .u32 x.t.b, .int .u16 x.t.c, .int .u16 x.t.d, .int .i64 x.s, .int .i64 x.l] 67)) := Ext.al (hE1.tr g2) _
          refine ⟨k + 1, by omega, by go_num, ⟨?_, ?_, ?_⟩, ?_⟩
          · rw [HN1.out, List.length_append, flC_snoc]; exact HOW.out
          · rw [HN2.out]; exact own_keep (HON.out.alloc _) HG.out (fun g h e => HD.out g e h)
          · intro gg hg1 hg2
            have b1 := own_lt HOY.out
            have b2 := own_lt HON.out
            rcases HAT.out with e | e
            · exact HD.out gg (e ▸ hg1) hg2
            · have := b2 gg hg2; rw [hg1] at e; simp at e; omega
          · exact Mv.ext_of gX (Mv.of_grown (C := fun k => w.heap.size ≤ k) HG.out fun r e => .inl (ownBlock_ge HOY.out r e)) (fun k h => h)
        case measure => simp [intOf]; omega
    · obtain rfl : k = xs.length := by omega
      have e1 : yesN so xs xs.length = xs.filter so := by unfold yesN; rw [List.take_length]
      have e2 : noN so xs xs.length = xs.filter fun x => !so x := by unfold noN; rw [List.take_length]
      rw [e1] at hy
      rw [e2] at hn
      have HY := Lib.hid hy
      have HN := Lib.hid hn
      have HD := Lib.hid hd
      clear hy hn hd
      go_wp2
      exact bodyPost_ret (v := .tuple #[u4, u5]) (by simp [results, Try.results39, go_sem]) rfl ⟨u4, u5, rfl, ⟨HY.out, HN.out, HD.out⟩, hE⟩

end Go.Proofs.Ytedamnocolfmlaa

/- Connections: Idle. -/
namespace Go.Proofs.Ytedamnocolfmlaa
open Go.RowKit

def asksB (idle now : Int) : Bool := decide (0 ≤ idle) && decide (0 ≤ now) && decide (now ≤ 1099511627776)
def idleB (idle now : Int) (x : Co) : Bool := asksB idle now && decide (x.l ≤ now - idle)
end Go.Proofs.Ytedamnocolfmlaa

/- Connections: with. -/
namespace Go.Proofs.Ytedamnocolfmlaa
open Go.RowKit

/-- What a closure of 'with' does to a row of one's own. -/
def DoesC (g : Nat) (lb : Array Value) (f : List Co → Nat → List Co) (W0 : World) : Prop :=
  ∀ (base : Nat) (W : World) (v : Value) (xs : List Co) (k : Nat), Ext W0 W → W0.heap.size ≤ base → xs.length ≤ 1000 → W.ownsRow base 67 6 v xs.length (flC xs) → k < xs.length →
    Calls Try.prog g (#[v, .int .i64 k] ++ lb) W fun e w' => ∃ v', e = .returned v' ∧ w'.ownsRow base 67 6 v' (f xs k).length (flC (f xs k)) ∧ Mv (fun b => base ≤ b) W w'
def withOk (xs : List Co) (t : Tu) : Bool := okC xs t && rightC xs
def withX (f : List Co → Nat → List Co) (xs : List Co) (t : Tu) : List Co := if withOk xs t = true then f xs (atC xs t) else xs
theorem okC_lt {xs : List Co} {t : Tu} (h : okC xs t = true) : atC xs t < xs.length := by
  unfold okC at h
  cases hg : xs[atC xs t]? with
  | none => rw [hg] at h; cases h
  | some x => exact (List.getElem?_eq_some_iff.1 hg).1
end Go.Proofs.Ytedamnocolfmlaa

/- Connections: Touch. -/
namespace Go.Proofs.Ytedamnocolfmlaa
open Go.RowKit

theorem own_set {w : World} {base : Nat} {e : TypeId} {size n cap g : Nat} {xs : List Value} (h : w.ownsRow base e size (.slice (some ⟨g, 0, none⟩) n cap) n xs) (i : Nat) (u : Value) :
    (w.setCell ⟨g, i, none⟩ u).ownsRow base e size (.slice (some ⟨g, 0, none⟩) n cap) n (xs.set i u) := by
  refine ⟨by rw [List.length_set]; exact h.1, ?_⟩
  rcases h.2 with ⟨h0, _⟩ | ⟨g', cap', cur, e1, hb, hgb, h1, h2, h3, h4⟩
  · cases h0
  · cases e1
    refine .inr ⟨g, cap, cur.setIfInBounds i u, rfl, hb, ?_, h1, h2, by simpa using h3, ?_⟩
    · simp only [World.setCell]
      rw [Array.getElem?_modify, if_pos rfl, hgb]; rfl
    · rw [Array.toList_setIfInBounds, List.take_set, h4]
theorem flC_set (xs : List Co) (k : Nat) (x : Co) (y : Int) (hk : k < xs.length) (hx : xs[k] = x) : (flC xs).set (k * 6 + 5) (.int .i64 y) = flC (xs.set k { x with l := y }) := by
  refine List.ext_getElem? fun j => ?_
  by_cases hj : j < xs.length * 6
  · have hq : j / 6 < xs.length := by omega
    have e : j / 6 * 6 + j % 6 = j := by omega
    have h6 : j % 6 < 6 := Nat.mod_lt _ (by omega)
    have g1 := flC_get xs (j / 6) (j % 6) hq h6
    have g2 := flC_get (xs.set k { x with l := y }) (j / 6) (j % 6) (by simpa using hq) h6
    rw [e] at g1 g2
    rw [g2, List.getElem?_set, List.getElem_set, g1]
    have hlen : (flC xs).length = xs.length * 6 := flC_len xs
    by_cases hkq : k = j / 6
    · subst hkq
      rw [if_pos rfl]
      rw [hx]
      by_cases h5 : j % 6 = 5
      · rw [if_pos (by omega), if_pos (by omega), h5]; rfl
      · rw [if_neg (by omega)]
        generalize j % 6 = r at *
        obtain rfl | rfl | rfl | rfl | rfl : r = 0 ∨ r = 1 ∨ r = 2 ∨ r = 3 ∨ r = 4 := by omega
        all_goals rfl
    · rw [if_neg hkq, if_neg (by omega)]
  · rw [List.getElem?_eq_none (by rw [List.length_set, flC_len]; omega), List.getElem?_eq_none (by rw [flC_len, List.length_set]; omega)]
def touchF (now : Int) (xs : List Co) (k : Nat) : List Co := match xs[k]? with | some x => xs.set k { x with l := max x.l (min now 1099511627776) } | none => xs
end Go.Proofs.Ytedamnocolfmlaa

/- Connections: Delete, Close. -/
namespace Go.Proofs.Ytedamnocolfmlaa
open Go.RowKit

/-- The cells from o on are set. -/
def setL : List Value → Nat → List Value → List Value
  | xs, _, [] => xs
  | xs, o, v :: vs => setL (xs.set o v) (o + 1) vs
theorem setL_len : ∀ (vs : List Value) (xs : List Value) (o : Nat), (setL xs o vs).length = xs.length
  | [], _, _ => rfl
  | v :: vs, xs, o => by unfold setL; rw [setL_len vs, List.length_set]
theorem setL_get : ∀ (vs : List Value) (xs : List Value) (o j : Nat), j < xs.length → (setL xs o vs)[j]? = if o ≤ j ∧ j < o + vs.length then vs[j - o]? else xs[j]?
  | [], xs, o, j, _ => by
    unfold setL
    rw [if_neg (by simp <;> omega)]
  | v :: vs, xs, o, j, hj => by
    unfold setL
    rw [setL_get vs _ _ _ (by simpa using hj), List.getElem?_set, List.length_cons]
    by_cases h : o = j
    · subst h
      rw [if_neg (by omega), if_pos rfl, if_pos hj, if_pos (by omega), Nat.sub_self]; rfl
    · by_cases h2 : o + 1 ≤ j ∧ j < o + 1 + vs.length
      · rw [if_pos h2, if_pos (by omega), show j - o = (j - (o + 1)) + 1 by omega]; rfl
      · rw [if_neg h2, if_neg h, if_neg (by omega)]
theorem own_setCells {base : Nat} {e : TypeId} {size n cap g : Nat} : ∀ (vs : List Value) (o : Nat) (w : World) (xs : List Value), w.ownsRow base e size (.slice (some ⟨g, 0, none⟩) n cap) n xs → (w.setCells g o vs).ownsRow base e size (.slice (some ⟨g, 0, none⟩) n cap) n (setL xs o vs)
  | [], _, _, _, h => h
  | v :: vs, o, w, xs, h => own_setCells vs (o + 1) _ _ (own_set h o v)
theorem own_shrink {w : World} {base : Nat} {e : TypeId} {size n m cap g : Nat} {xs : List Value} (h : w.ownsRow base e size (.slice (some ⟨g, 0, none⟩) n cap) n xs) (hm : m ≤ n) : w.ownsRow base e size (.slice (some ⟨g, 0, none⟩) m cap) m (xs.take (m * size)) := by
  have hms : m * size ≤ n * size := Nat.mul_le_mul_right _ hm
  refine ⟨by rw [List.length_take, h.1]; omega, ?_⟩
  rcases h.2 with ⟨h0, _⟩ | ⟨g', cap', cur, e1, hb, hgb, h1, h2, h3, h4⟩
  · cases h0
  · cases e1
    refine .inr ⟨g, cap, cur, rfl, hb, hgb, by omega, h2, h3, ?_⟩
    rw [← h4, List.take_take, Nat.min_eq_left hms]
theorem Mv.sc {C : Nat → Prop} {b : Nat} (hb : C b) : ∀ (vs : List Value) (o : Nat) (A B : World), Mv C A B → Mv C A (B.setCells b o vs)
  | [], _, _, _, h => h
  | v :: vs, o, A, B, h => Mv.sc hb vs (o + 1) A _ (Mv.st v (.inl hb) h)
theorem flC_app (xs ys : List Co) : flC (xs ++ ys) = flC xs ++ flC ys := by unfold flC; simp
/-- What is left behind one is taken out. -/
theorem setL_erase (xs : List Co) (k : Nat) (zs : List Value) (hk : k < xs.length) :
    (setL (setL (flC xs) (k * 6) (flC (xs.drop (k + 1)))) ((xs.length - 1) * 6) zs).take ((xs.length - 1) * 6) = flC (xs.eraseIdx k) := by
  rw [List.eraseIdx_eq_take_drop_succ, flC_app]
  have l0 := flC_len xs
  have l1 : (flC (xs.take k)).length = k * 6 := by rw [flC_len, List.length_take]; rw [Nat.min_eq_left (by omega)]
  have l2 : (flC (xs.drop (k + 1))).length = (xs.length - (k + 1)) * 6 := by rw [flC_len, List.length_drop]
  refine List.ext_getElem? fun j => ?_
  rw [List.getElem?_take]
  by_cases hj : j < (xs.length - 1) * 6
  · rw [if_pos hj, setL_get _ _ _ _ (by rw [setL_len]; omega), if_neg (by omega), setL_get _ _ _ _ (by omega)]
    by_cases h1 : k * 6 ≤ j
    · rw [if_pos (by omega), List.getElem?_append_right (by omega), l1]
    · rw [if_neg (by omega), List.getElem?_append_left (by omega)]
      have h3 : flC xs = flC (xs.take k) ++ flC (xs.drop k) := by rw [← flC_app, List.take_append_drop]
      rw [h3, List.getElem?_append_left (by omega)]
  · rw [if_neg hj, List.getElem?_eq_none (by rw [List.length_append]; omega)]
theorem some_setCells {g n : Nat} : ∀ (vs : List Value) (o : Nat) (w : World), (∀ i, i < n → (w.cell? ⟨g, i, none⟩).isSome = true) → ∀ i, i < n → ((w.setCells g o vs).cell? ⟨g, i, none⟩).isSome = true
  | [], _, _, h => h
  | v :: vs, o, w, h => some_setCells vs (o + 1) _ fun i hi => by
    have h0 := h i hi
    rw [cell_rowD] at h0 ⊢
    rw [rowD_setCell, if_pos rfl]
    simpa using h0
theorem frz_setCells {g b : Nat} : ∀ (vs : List Value) (o : Nat) (w : World), frzD (w.setCells g o vs) b = frzD w b
  | [], _, _ => rfl
  | v :: vs, o, w => (frz_setCells vs (o + 1) _).trans (frzD_setCell _ _ _ _ _)
theorem run_clear_one {P : Program} (w : World) (t e ty : TypeId) (z : Value) (ht : P.underlying t = some (.slice e)) (hv : ∀ w, (zeroValue e).run P w = .ok z w) (b o c : Nat)
    (hc : ∀ j, j < z.cells.toList.length → (w.cell? ⟨b, o + j, none⟩).isSome = true) (hf : ∀ j, j < z.cells.toList.length → w.frozen? ⟨b, o + j, none⟩ = false) (h1 : ∀ u ∈ z.cells.toList, u.oneCell' = true) :
    (Builtin.clear_ #[t] ty #[.slice (some ⟨b, o, none⟩) 1 c]).run P w = .ok (.tuple #[]) (w.setCells b o z.cells.toList) := by
  have hzc : (Builtin.zeroCells z.cells 1).toList = z.cells.toList := by
    simp [Builtin.zeroCells]
    apply List.ext_getElem
    · simp
    · intro i h1 h2
      simp at h2
      simp [Nat.mod_eq_of_lt h2, h2]
  have hst := run_storeCells_cells (P := P) b o z.cells.toList 0 w (by simpa using hc) (by simpa using hf) h1
  simp only [Nat.add_zero] at hst
  simp [Builtin.clear_, run_underlying ht, hv, hzc, hst]
end Go.Proofs.Ytedamnocolfmlaa

/- slices.Insert where there is room, and where there is none. -/
namespace Go.Proofs.Ytedamnocolfmlaa
open Go.RowKit

/-- COPY AT ANY SIZE OF THE ELEMENT. -/
theorem run_copy_wide {P : Program} (w : World) (dT sT ty elem : TypeId) (size b o dLen dCap : Nat) (a : Addr) (sLen sCap : Nat) (cs : List Value)
    (hu : P.underlying dT = some (.slice elem)) (hs : (P.info? elem).map (·.size) = some size) (hn : cs.length = Nat.min sLen dLen * size)
    (hsrc : ∀ j v, cs[j]? = some v → w.cell? (a.add j) = some v) (hc : ∀ j, j < cs.length → (w.cell? ⟨b, o + j, none⟩).isSome = true) (hf : ∀ j, j < cs.length → w.frozen? ⟨b, o + j, none⟩ = false) (h1 : ∀ v ∈ cs, v.oneCell' = true) :
    (Builtin.copy_ #[dT, sT] ty #[.slice (some ⟨b, o, none⟩) dLen dCap, .slice (some a) sLen sCap]).run P w = .ok (goInt (Nat.min sLen dLen : Nat)) (w.setCells b o cs) := by
  have hl := run_loadCells_list (P := P) w a cs hsrc
  have hst := run_storeCells_cells (P := P) b o cs 0 w (by simpa using hc) (by simpa using hf) h1
  cases hq : P.info? elem with
  | none => simp [hq] at hs
  | some i =>
    have hi : i.size = size := by simpa [hq] using hs
    simp only [Nat.add_zero] at hst
    have hm : Nat.min sLen dLen = min sLen dLen := rfl
    rw [hm] at hn
    simp [Builtin.copy_, run_underlying hu, Builtin.lenOf, Builtin.firstCells, sizeOf, typeInfo, hq, hi, ← hn, hl, hst]
theorem wp_copy_runJ {P : Program} (w : World) {o : Oper} {a : Act} {K : Act → World → Prop} {Q : Exit → Act → World → Prop} (d s : Operand) (t t' : TypeId)
    (ho : o.op = .call { callee := .builtin .copy, args := #[d, s], argTypes := #[t, t'] }) (v u : Value) (hd : a.eval d = v) (hs : a.eval s = u) {v' : Value} {w' : World}
    (hr : (Builtin.copy_ #[t, t'] o.type #[v, u]).run P w = .ok v' w') (h : K (a.put o.dst v') w') : o.wp P a w K Q := by
  unfold Oper.wp execOp
  simp only [ho, resolve, invoke, builtin, Sem.run_bind, Sem.run_pure, Result.andThen_ok, List.map_toArray, List.map_cons, List.map_nil, hd, hs, hr]
  exact h
theorem wpList_copy_runJ {P : Program} (w : World) {ops : Array Oper} {rest : List Oper} {o : Oper} {a : Act} {Q : Exit → Act → World → Prop} (hgd : o.guard = none) (d s : Operand) (t t' : TypeId)
    (ho : o.op = .call { callee := .builtin .copy, args := #[d, s], argTypes := #[t, t'] }) (v u : Value) (hd : a.eval d = v) (hs : a.eval s = u) {v' : Value} {w' : World}
    (hr : (Builtin.copy_ #[t, t'] o.type #[v, u]).run P w = .ok v' w') (h : wpList P ops Q rest (a.put o.dst v') w') : wpList P ops Q (o :: rest) a w :=
  wpList_plain hgd fun _ hK => wp_copy_runJ w d s t t' ho v u hd hs hr (hK _ _ h)
theorem step_copy_runJ {P : Program} {ops : Array Oper} {o : Oper} {a : Act} {w : World} {K : Act → World → Prop} {Q : Exit → Act → World → Prop} {E : Prop}
    (hg : o.guard = none) (d x : Operand) (dT sT : TypeId) (hop : o.op = Op.call { callee := Callee.builtin Builtin.copy, args := #[d, x], argTypes := #[dT, sT] })
    (v u : Value) (hd : a.eval d = v) (hx : a.eval x = u) {v' : Value} {w' : World} (hr : (Builtin.copy_ #[dT, sT] o.type #[v, u]).run P w = .ok v' w') (hK : K (a.put o.dst v') w') :
    if Region.wanted o (yielded ops a.tmps) = true then Oper.wp P o a w K Q else E := by
  have hw : Region.wanted o (yielded ops a.tmps) = true := by simp [Region.wanted, hg]
  rw [if_pos hw]
  unfold Oper.wp
  simp [execOp, hop, resolve, invoke, builtin, hd, hx, hr, Result.andThen]
  exact hK
/-- What a block holds behind cells being set. -/
theorem cells_setCells {g : Nat} {T : TypeId} {z : Nat × Nat} : ∀ (vs : List Value) (o : Nat) (w : World) (cur : Array Value), w.heap[g]? = some (.cells cur T z) → ∃ cur' : Array Value, (w.setCells g o vs).heap[g]? = some (.cells cur' T z) ∧ cur'.toList = setL cur.toList o vs
  | [], _, w, cur, h => ⟨cur, h, rfl⟩
  | v :: vs, o, w, cur, h => by
    have h1 : (w.setCell ⟨g, o, none⟩ v).heap[g]? = some (.cells (cur.setIfInBounds o v) T z) := by
      simp only [World.setCell]
      rw [Array.getElem?_modify, if_pos rfl, h]; rfl
    obtain ⟨cur', h2, h3⟩ := cells_setCells vs (o + 1) _ _ h1
    exact ⟨cur', h2, by rw [h3, Array.toList_setIfInBounds]; rfl⟩
theorem own_mk {w : World} {base g : Nat} {e : TypeId} {size n cap : Nat} {cur : Array Value} {xs : List Value} (hb : base ≤ g) (hg : w.heap[g]? = some (.cells cur e (0, 0))) (hn : n ≤ cap) (hm : cap ≤ maxLen) (hs : cur.toList.length = cap * size) (hx : cur.toList.take (n * size) = xs) :
    w.ownsRow base e size (.slice (some ⟨g, 0, none⟩) n cap) n xs := by
  refine ⟨?_, .inr ⟨g, cap, cur, rfl, hb, hg, hn, hm, by simpa using hs, hx⟩⟩
  rw [← hx, List.length_take, hs]
  exact Nat.min_eq_left (Nat.mul_le_mul_right _ hn)
/-- ONE IS LAID IN BETWEEN, in place: what stands behind it is moved first. -/
theorem setL_in (cur cs vs : List Value) (i n s : Nat) (hi : i ≤ n) (hcs : cur.take (n * s) = cs) (hcl : cs.length = n * s) (hvl : vs.length = s) (hcur : (n + 1) * s ≤ cur.length) :
    (setL (setL cur ((i + 1) * s) (cs.drop (i * s))) (i * s) vs).take ((n + 1) * s) = cs.take (i * s) ++ vs ++ cs.drop (i * s) := by
  have e1 : (i + 1) * s = i * s + s := by rw [Nat.add_mul, Nat.one_mul]
  have e2 : (n + 1) * s = n * s + s := by rw [Nat.add_mul, Nat.one_mul]
  have e3 : i * s ≤ n * s := Nat.mul_le_mul_right _ hi
  rw [e1, e2]
  rw [e2] at hcur
  generalize i * s = p at *
  generalize n * s = q at *
  refine List.ext_getElem? fun j => ?_
  rw [List.getElem?_take]
  have ld : (cs.drop p).length = q - p := by rw [List.length_drop, hcl]
  have lt : (cs.take p).length = p := by rw [List.length_take, hcl]; omega
  by_cases hj : j < q + s
  · rw [if_pos hj, setL_get _ _ _ _ (by rw [setL_len]; omega), hvl]
    by_cases h1 : p ≤ j ∧ j < p + s
    · rw [if_pos h1, List.getElem?_append_left (by rw [List.length_append, lt, hvl]; omega), List.getElem?_append_right (by omega), lt]
    · rw [if_neg h1, setL_get _ _ _ _ (by omega), ld]
      by_cases h2 : p + s ≤ j
      · rw [if_pos ⟨h2, by omega⟩, List.getElem?_append_right (by rw [List.length_append, lt, hvl]; omega), List.length_append, lt, hvl]
      · rw [if_neg (fun h => h2 h.1), List.append_assoc, List.getElem?_append_left (by omega), List.getElem?_take_of_lt (by omega), ← hcs, List.getElem?_take_of_lt (by omega)]
  · rw [if_neg hj, List.getElem?_eq_none (by rw [List.length_append, List.length_append, lt, ld, hvl]; omega)]
/-- .. and in a new row. -/
theorem setL_new (cur cs vs r : List Value) (i n s : Nat) (hi : i ≤ n) (hcur : cur = cs.take (i * s) ++ r) (hcl : cs.length = n * s) (hvl : vs.length = s) (hlen : (n + 1) * s ≤ cur.length) :
    (setL (setL cur (i * s) vs) ((i + 1) * s) (cs.drop (i * s))).take ((n + 1) * s) = cs.take (i * s) ++ vs ++ cs.drop (i * s) := by
  have e1 : (i + 1) * s = i * s + s := by rw [Nat.add_mul, Nat.one_mul]
  have e2 : (n + 1) * s = n * s + s := by rw [Nat.add_mul, Nat.one_mul]
  have e3 : i * s ≤ n * s := Nat.mul_le_mul_right _ hi
  rw [e1, e2]
  rw [e2] at hlen
  generalize i * s = p at *
  generalize n * s = q at *
  refine List.ext_getElem? fun j => ?_
  rw [List.getElem?_take]
  have ld : (cs.drop p).length = q - p := by rw [List.length_drop, hcl]
  have lt : (cs.take p).length = p := by rw [List.length_take, hcl]; omega
  by_cases hj : j < q + s
  · rw [if_pos hj, setL_get _ _ _ _ (by rw [setL_len]; omega), ld]
    by_cases h2 : p + s ≤ j
    · rw [if_pos ⟨h2, by omega⟩, List.getElem?_append_right (by rw [List.length_append, lt, hvl]; omega), List.length_append, lt, hvl]
    · rw [if_neg (fun h => h2 h.1), setL_get _ _ _ _ (by omega), hvl]
      by_cases h1 : p ≤ j
      · rw [if_pos ⟨h1, by omega⟩, List.getElem?_append_left (by rw [List.length_append, lt, hvl]; omega), List.getElem?_append_right (by omega), lt]
      · rw [if_neg (fun h => h1 h.1), List.append_assoc, List.getElem?_append_left (by omega), hcur, List.getElem?_append_left (by omega)]
  · rw [if_neg hj, List.getElem?_eq_none (by rw [List.length_append, List.length_append, lt, ld, hvl]; omega)]
/-- One more, at a place. -/
def insAt {α : Type} (xs : List α) (i : Nat) (x : α) : List α := xs.take i ++ x :: xs.drop i
theorem insAt_len {α : Type} (xs : List α) (i : Nat) (x : α) : (insAt xs i x).length = xs.length + 1 := by
  unfold insAt; rw [List.length_append, List.length_take, List.length_cons, List.length_drop]; omega

theorem flC_cut (xs : List Co) (i : Nat) (hi : i ≤ xs.length) : (flC xs).take (i * 6) = flC (xs.take i) ∧ (flC xs).drop (i * 6) = flC (xs.drop i) := by
  have h : flC xs = flC (xs.take i) ++ flC (xs.drop i) := by
    have h0 : flC (xs.take i ++ xs.drop i) = flC (xs.take i) ++ flC (xs.drop i) := by unfold flC; rw [List.flatMap_append]
    rw [← h0, List.take_append_drop]
  have hl : (flC (xs.take i)).length = i * 6 := by rw [flC_len, List.length_take, Nat.min_eq_left hi]
  rw [h]
  exact ⟨by rw [← hl, List.take_left], by rw [← hl, List.drop_left]⟩
theorem flC_ins (xs : List Co) (i : Nat) (x : Co) (hi : i ≤ xs.length) : flC (insAt xs i x) = (flC xs).take (i * 6) ++ x.cl ++ (flC xs).drop (i * 6) := by
  rw [(flC_cut xs i hi).1, (flC_cut xs i hi).2]
  unfold insAt flC
  simp
end Go.Proofs.Ytedamnocolfmlaa

/- slices.Insert into a row of one's own. -/
namespace Go.Proofs.Ytedamnocolfmlaa
open Go.RowKit
theorem heap_drew (w : World) : w.drew.heap = w.heap := rfl

end Go.Proofs.Ytedamnocolfmlaa

/- Connections: Close. -/
namespace Go.Proofs.Ytedamnocolfmlaa
open Go.RowKit

end Go.Proofs.Ytedamnocolfmlaa

/- Connections: Add. -/
namespace Go.Proofs.Ytedamnocolfmlaa
open Go.RowKit

def addB (xs : List Co) (now : Int) : Bool := !rightC xs || decide (now < 0) || decide (1099511627776 < now)
def addE (xs : List Co) (t : Tu) (now : Int) : Int := if addB xs now = true then 2 else if okC xs t = true then 201 else if (xs.length : Int) < 32 then 0 else 150
def newC (t : Tu) (now : Int) : Co := ⟨t, now, now⟩
def addX (xs : List Co) (t : Tu) (now : Int) : List Co := if addE xs t now = 0 then insAt xs (atC xs t) (newC t now) else xs
theorem at_le (xs : List Co) (t : Tu) : atC xs t ≤ xs.length := List.findIdx_le_length
end Go.Proofs.Ytedamnocolfmlaa

/- The document's own memory of connections; the same. -/
namespace Go.Proofs.Ytedamnocolfmlaa
open Go.RowKit

theorem wpQuiet_val {P : Program} {ops : Array Oper} {C : World → Prop} {Q : Act → Prop} {o : Oper} {a : Act} {rest : List Oper} {v : Value} (hw : Region.wanted o (yielded ops a.tmps) = true) (hr : ∀ w, (execOp a.eval o).run P w = .ok (.value v) w) (h : wpQuiet P ops C Q rest (a.put o.dst v)) : wpQuiet P ops C Q (o :: rest) a := by
  unfold wpQuiet
  rw [if_pos hw]
  exact ⟨v, fun w hc => by unfold Oper.quietAt; rw [hr]; exact ⟨rfl, rfl⟩, h⟩

theorem SlC.news {w W : World} {a : Addr} {xs : List Co} (hs : SlC w (some a) xs) (e : Ext w W) : ∀ j u, (flC xs)[j]? = some u → W.cell? (a.add j) = some u := by
  intro j u hu
  have hj : j < xs.length * 6 := by have := (List.getElem?_eq_some_iff.1 hu).1; rwa [flC_len] at this
  have hk : j / 6 < xs.length := by omega
  obtain ⟨b, off, h, hb, c0, c1, c2, c3, c4, c5⟩ := (hs.ext e) (j / 6) hk
  cases h
  have e : (⟨b, off, none⟩ : Addr).add j = ⟨b, off + j, none⟩ := by unfold Addr.add; split <;> simp_all
  have hg := flC_get xs (j / 6) (j % 6) hk (Nat.mod_lt _ (by omega))
  rw [show j / 6 * 6 + j % 6 = j by omega] at hg
  rw [e, ← hu, hg]
  have hm : j % 6 < 6 := Nat.mod_lt _ (by omega)
  generalize hq : j / 6 = q at *
  generalize hr : j % 6 = r at *
  have hjq : j = q * 6 + r := by omega
  subst hjq
  obtain rfl | rfl | rfl | rfl | rfl | rfl : r = 0 ∨ r = 1 ∨ r = 2 ∨ r = 3 ∨ r = 4 ∨ r = 5 := by omega
  · exact c0
  · exact c1
  · exact c2
  · exact c3
  · exact c4
  · exact c5
theorem SlC.nil_of {w : World} {xs : List Co} (hs : SlC w none xs) : xs = [] := by
  cases xs with
  | nil => rfl
  | cons m r => obtain ⟨b, off, h, _⟩ := hs 0 (by simp); cases h
theorem own0_C (w : World) : (w.alloc (.cells #[] 67)).ownsRow w.heap.size 67 6 (.slice (some ⟨w.heap.size, 0, none⟩) 0 0) 0 [] := ⟨rfl, .inr ⟨w.heap.size, 0, #[], rfl, Nat.le_refl _, World.alloc_heap_new _ _, Nat.le_refl _, by unfold maxLen; omega, rfl, rfl⟩⟩
theorem neq_C {x y : Co} (h : x ≠ y) (ρ : Operand → Value) (dst : Option Tmp) (p q : Operand) (ty : TypeId) (pos : String) (after : Array Edge) (g : Option (Nat × Bool)) (hx : ρ p = .agg #[.int .u32 x.t.a, .int .u32 x.t.b, .int .u16 x.t.c, .int .u16 x.t.d, .int .i64 x.s, .int .i64 x.l]) (hy : ρ q = .agg #[.int .u32 y.t.a, .int .u32 y.t.b, .int .u16 y.t.c, .int .u16 y.t.d, .int .i64 y.s, .int .i64 y.l]) (w : World) :
    (execOp ρ ⟨dst, .binOp .neq 67 p q 67, ty, pos, after, g⟩).run Try.prog w = .ok (.value (.bool true)) w := by
  simp only [execOp, hx, hy]
  go_simp
  intro h1 h2 h3 h4 h5 h6
  apply h
  rcases x with ⟨⟨_, _, _, _⟩, _, _⟩
  rcases y with ⟨⟨_, _, _, _⟩, _, _⟩
  simp_all
theorem eql_C {x y : Co} (ρ : Operand → Value) (dst : Option Tmp) (p q : Operand) (ty : TypeId) (pos : String) (after : Array Edge) (g : Option (Nat × Bool)) (hx : ρ p = .agg #[.int .u32 x.t.a, .int .u32 x.t.b, .int .u16 x.t.c, .int .u16 x.t.d, .int .i64 x.s, .int .i64 x.l]) (hy : ρ q = .agg #[.int .u32 y.t.a, .int .u32 y.t.b, .int .u16 y.t.c, .int .u16 y.t.d, .int .i64 y.s, .int .i64 y.l]) (w : World) :
    (execOp ρ ⟨dst, .binOp .eql 67 p q 67, ty, pos, after, g⟩).run Try.prog w = .ok (.value (.bool (decide (x = y)))) w := by
  simp only [execOp, hx, hy]
  go_simp
  rcases x with ⟨⟨_, _, _, _⟩, _, _⟩
  rcases y with ⟨⟨_, _, _, _⟩, _, _⟩
  simp only [Co.mk.injEq, Tu.mk.injEq]
  repeat' split
  all_goals simp_all
end Go.Proofs.Ytedamnocolfmlaa

/- Holders: Clone, own, Same. -/
namespace Go.Proofs.Ytedamnocolfmlaa
open Go.RowKit

def Ho.cl (x : Ho) : List Value := [.int .u32 x.t.a, .int .u32 x.t.b, .int .u16 x.t.c, .int .u16 x.t.d, .int .i64 x.n]
def flH (xs : List Ho) : List Value := xs.flatMap Ho.cl
theorem flH_len : ∀ xs : List Ho, (flH xs).length = xs.length * 5
  | [] => rfl
  | x :: xs => by
    show (Ho.cl x ++ flH xs).length = _
    rw [List.length_append, flH_len xs, List.length_cons]
    show 5 + _ = _
    omega
theorem flH_get : ∀ (xs : List Ho) (k j : Nat) (hk : k < xs.length), j < 5 → (flH xs)[k * 5 + j]? = (xs[k]).cl[j]?
  | x :: xs, 0, j, _, hj => by
    show (Ho.cl x ++ flH xs)[0 * 5 + j]? = _
    rw [Nat.zero_mul, Nat.zero_add, List.getElem?_append_left (by show j < 5; exact hj)]; rfl
  | x :: xs, k + 1, j, hk, hj => by
    show (Ho.cl x ++ flH xs)[(k + 1) * 5 + j]? = _
    have hc : (Ho.cl x).length = 5 := rfl
    rw [List.getElem?_append_right (by omega), hc, show (k + 1) * 5 + j - 5 = k * 5 + j by omega]
    exact flH_get xs k j (by simpa using hk) hj
theorem flH_snoc (xs : List Ho) (x : Ho) : flH (xs ++ [x]) = flH xs ++ x.cl := by unfold flH; simp
theorem flH_one (xs : List Ho) : ∀ u ∈ flH xs, u.oneCell' = true := by
  intro u hu
  unfold flH at hu
  rw [List.mem_flatMap] at hu
  obtain ⟨x, _, hx⟩ := hu
  unfold Ho.cl at hx
  simp only [List.mem_cons, List.not_mem_nil, or_false] at hx
  rcases hx with rfl | rfl | rfl | rfl | rfl <;> rfl
theorem info_H : (Try.prog.info? 97).map (fun i => (i.zero, i.size, i.bytes)) = some (some (.agg #[.int .u32 0, .int .u32 0, .int .u16 0, .int .u16 0, .int .i64 0]), 5, 24) := by kernel_rfl
theorem SlH.own {w : World} {base : Nat} {v : Value} {xs : List Ho} (h : w.ownsRow base 97 5 v xs.length (flH xs)) : ∃ p c, v = .slice p xs.length c ∧ xs.length ≤ c ∧ SlH w p xs := by
  rcases h.2 with ⟨rfl, h0⟩ | ⟨g, cap, cur, rfl, hg, hgb, h1, h2, h3, h4⟩
  · have : xs = [] := List.length_eq_zero_iff.1 h0
    subst this
    exact ⟨none, 0, rfl, Nat.le_refl _, SlH.nil _ _⟩
  · refine ⟨some ⟨g, 0, none⟩, cap, rfl, h1, fun k hk => ?_⟩
    have key : ∀ j, j < 5 → w.cell? ⟨g, 0 + k * 5 + j, none⟩ = (xs[k]).cl[j]? := fun j hj => by
      rw [← flH_get xs k j hk hj, ← h4, List.getElem?_take_of_lt (by have := flH_len xs; omega)]
      simp only [World.cell?, hgb]
      simp
    exact ⟨g, 0, rfl, (Array.getElem?_eq_some_iff.1 hgb).1, key 0 (by omega), key 1 (by omega), key 2 (by omega), key 3 (by omega), key 4 (by omega)⟩
theorem SlH.news {w W : World} {a : Addr} {xs : List Ho} (hs : SlH w (some a) xs) (e : Ext w W) : ∀ j u, (flH xs)[j]? = some u → W.cell? (a.add j) = some u := by
  intro j u hu
  have hj : j < xs.length * 5 := by have := (List.getElem?_eq_some_iff.1 hu).1; rwa [flH_len] at this
  have hk : j / 5 < xs.length := by omega
  obtain ⟨b, off, h, hb, c0, c1, c2, c3, c4⟩ := (hs.ext e) (j / 5) hk
  cases h
  have e : (⟨b, off, none⟩ : Addr).add j = ⟨b, off + j, none⟩ := by unfold Addr.add; split <;> simp_all
  have hg := flH_get xs (j / 5) (j % 5) hk (Nat.mod_lt _ (by omega))
  rw [show j / 5 * 5 + j % 5 = j by omega] at hg
  rw [e, ← hu, hg]
  have hm : j % 5 < 5 := Nat.mod_lt _ (by omega)
  generalize hq : j / 5 = q at *
  generalize hr : j % 5 = r at *
  have hjq : j = q * 5 + r := by omega
  subst hjq
  obtain rfl | rfl | rfl | rfl | rfl : r = 0 ∨ r = 1 ∨ r = 2 ∨ r = 3 ∨ r = 4 := by omega
  · exact c0
  · exact c1
  · exact c2
  · exact c3
  · exact c4
theorem SlH.nil_of {w : World} {xs : List Ho} (hs : SlH w none xs) : xs = [] := by
  cases xs with
  | nil => rfl
  | cons m r => obtain ⟨b, off, h, _⟩ := hs 0 (by simp); cases h
theorem own0_H (w : World) : (w.alloc (.cells #[] 97)).ownsRow w.heap.size 97 5 (.slice (some ⟨w.heap.size, 0, none⟩) 0 0) 0 [] := ⟨rfl, .inr ⟨w.heap.size, 0, #[], rfl, Nat.le_refl _, World.alloc_heap_new _ _, Nat.le_refl _, by unfold maxLen; omega, rfl, rfl⟩⟩
theorem neq_H {x y : Ho} (h : x ≠ y) (ρ : Operand → Value) (dst : Option Tmp) (p q : Operand) (ty : TypeId) (pos : String) (after : Array Edge) (g : Option (Nat × Bool)) (hx : ρ p = .agg #[.int .u32 x.t.a, .int .u32 x.t.b, .int .u16 x.t.c, .int .u16 x.t.d, .int .i64 x.n]) (hy : ρ q = .agg #[.int .u32 y.t.a, .int .u32 y.t.b, .int .u16 y.t.c, .int .u16 y.t.d, .int .i64 y.n]) (w : World) :
    (execOp ρ ⟨dst, .binOp .neq 97 p q 97, ty, pos, after, g⟩).run Try.prog w = .ok (.value (.bool true)) w := by
  simp only [execOp, hx, hy]
  go_simp
  intro h1 h2 h3 h4 h5
  apply h
  rcases x with ⟨⟨_, _, _, _⟩, _⟩
  rcases y with ⟨⟨_, _, _, _⟩, _⟩
  simp_all
theorem eql_H {x y : Ho} (ρ : Operand → Value) (dst : Option Tmp) (p q : Operand) (ty : TypeId) (pos : String) (after : Array Edge) (g : Option (Nat × Bool)) (hx : ρ p = .agg #[.int .u32 x.t.a, .int .u32 x.t.b, .int .u16 x.t.c, .int .u16 x.t.d, .int .i64 x.n]) (hy : ρ q = .agg #[.int .u32 y.t.a, .int .u32 y.t.b, .int .u16 y.t.c, .int .u16 y.t.d, .int .i64 y.n]) (w : World) :
    (execOp ρ ⟨dst, .binOp .eql 97 p q 97, ty, pos, after, g⟩).run Try.prog w = .ok (.value (.bool (decide (x = y)))) w := by
  simp only [execOp, hx, hy]
  go_simp
  rcases x with ⟨⟨_, _, _, _⟩, _⟩
  rcases y with ⟨⟨_, _, _, _⟩, _⟩
  simp only [Ho.mk.injEq, Tu.mk.injEq]
  repeat' split
  all_goals simp_all
end Go.Proofs.Ytedamnocolfmlaa

/- Structs of hundreds of cells: rows by functions of a place, cuts, turns. -/
namespace Go.Proofs.Ytedamnocolfmlaa
open Go.RowKit

/-- The offset that a pointer leads to. -/
def offOf : Value → Nat | .pointer (some a) => a.off | _ => 0
@[go_sem] theorem offOf_ptr (a : Addr) : offOf (.pointer (some a)) = a.off := rfl
/-- m cells from o on lie in a row of n. -/
def Fits (o m : Nat) (cs : Array Value) : Prop := o + m ≤ cs.size
def SizeIs (cs : Array Value) (n : Nat) : Prop := cs.size = n
def cutD (cs : Array Value) (o n : Nat) : Array Value := cs.extract o (o + n)
theorem range_rowD (w : World) (b o e : Nat) : w.rangeAt b o ((rowD w b).extract o e).toList := fun j v hv => by
  rw [cell_rowD]
  have : ((rowD w b).extract o e)[j]? = some v := by rw [← Array.getElem?_toList]; exact hv
  rw [Array.getElem?_extract] at this
  split at this
  · exact this
  · cases this
/-- Cells are stored into the block b from o on. -/
def setAt (w : World) (b o : Nat) (cs : Array Value) : World := w.setCells b o cs.toList
@[go_sem] theorem size_setAt (w : World) (b o : Nat) (cs : Array Value) : (setAt w b o cs).heap.size = w.heap.size := (setCells_shape b _ o w).1
theorem heap_setAt (w : World) (b o : Nat) (cs : Array Value) (k : Nat) (h : k ≠ b) : (setAt w b o cs).heap[k]? = w.heap[k]? := (setCells_shape b _ o w).2.1 k h
/-- The cells g lie over the row f from o on, m of them. -/
def ovl (f : Nat → Value) (o m : Nat) (g : Nat → Value) : Nat → Value := fun j => if o ≤ j ∧ j < o + m then g (j - o) else f j
theorem rowD_setAt_same (w : World) (b o n m : Nat) (f g : Nat → Value) (h : rowD w b = rowv n f) (hm : o + m ≤ n) : rowD (setAt w b o (rowv m g)) b = rowv n (ovl f o m g) := by
  unfold setAt
  rw [rowD_setCells]
  apply Array.ext_getElem?
  intro i
  rw [setAll_get, h, get_rowv]
  simp only [Array.length_toList, size_rowv]
  by_cases hi : i < n
  · rw [if_pos hi, get_rowv, if_pos hi]
    unfold ovl
    by_cases hc : o ≤ i ∧ i < o + m
    · rw [if_pos ⟨hc.1, hc.2, hi⟩, if_pos hc, Array.getElem?_toList, get_rowv, if_pos (by omega)]
    · rw [if_neg (fun e => hc ⟨e.1, e.2.1⟩), if_neg hc]
  · rw [if_neg (fun e => hi e.2.2), if_neg hi, get_rowv, if_neg hi]
theorem rowD_setAt_other (w : World) (b b' o : Nat) (cs : Array Value) (h : b' ≠ b) : rowD (setAt w b o cs) b' = rowD w b' := rowD_same (heap_setAt w b o cs b' h)
@[go_sem] theorem frzD_setAt (w : World) (b b' o : Nat) (cs : Array Value) : frzD (setAt w b o cs) b' = frzD w b' := by
  by_cases h : b' = b
  · subst h; exact (setCells_shape b' _ o w).2.2.2.2.2
  · unfold frzD; rw [heap_setAt _ _ _ _ _ h]
@[go_sem] theorem Lt_setAt (w : World) (b b' o : Nat) (cs : Array Value) : Lt b' (setAt w b o cs) = Lt b' w := by unfold Lt; rw [size_setAt]
@[go_sem] theorem frozen_setAt (w : World) (b b' o i : Nat) (cs : Array Value) : (setAt w b o cs).frozen? ⟨b', i, none⟩ = w.frozen? ⟨b', i, none⟩ := by rw [frozen_frzD, frozen_frzD, frzD_setAt]
theorem Ext.sa {w W : World} {b o : Nat} (cs : Array Value) (hp : w.heap.size ≤ b) (h : Ext w W) : Ext w (setAt W b o cs) :=
  let s := setCells_shape b cs.toList o W
  h.trans ⟨s.2.2.1, s.2.2.2.1, s.2.2.2.2.1, by rw [size_setAt]; exact Nat.le_refl _, fun k hk => heap_setAt W b o cs k (by omega)⟩
theorem setAt_all (w : World) (b : Nat) (cs : Array Value) (h : (rowD w b).size = cs.size) : rowD (setAt w b 0 cs) b = cs := rowD_setRow_same w b cs h
theorem cut_all (cs : Array Value) (n : Nat) (h : cs.size = n) : cutD cs 0 n = cs := by unfold cutD; subst h; simp
theorem results_of {P : Program} {fn : Func} {p : Tmp} {ty : TypeId} {v : Value} (h : fn.results = #[.cell p ty]) (tmps : Array Value) (w : World) (g : Nat)
    (hp : tmps.getD p undef = .pointer (some ⟨g, 0, none⟩)) (hl : (loadVar ty ⟨g, 0, none⟩).run P w = .ok v w) : (results fn tmps).run P w = .ok v w := by
  have hp' : tmps[p]?.getD undef = .pointer (some ⟨g, 0, none⟩) := by simpa using hp
  simp [results, h, hp', asAddr, hl]
theorem cell_row {w : World} {b : Nat} {f : Nat → Value} {n : Nat} (h : rowD w b = rowv n f) (i : Nat) (hi : i < n) : w.cell? ⟨b, i, none⟩ = some (f i) := by
  rw [cell_rowD, h, get_rowv, if_pos hi]
theorem row_ext' {W w' : World} {b : Nat} {cs : Array Value} (h : Ext W w') (hb : Lt b W) (hr : rowD W b = cs) : rowD w' b = cs := by rw [rowD_same (h.block b hb)]; exact hr
theorem cells_agg' (cs : Array Value) : (Value.agg cs).cells = cs := rfl
theorem all_rowv (n : Nat) (f : Nat → Value) (h : ∀ i, (f i).oneCell' = true) : oneC (rowv n f) := by
  unfold oneC; rw [Array.all_eq_true]; intro i hi; simp [rowv, h]
theorem cut_rowv (n : Nat) (f : Nat → Value) (o m : Nat) (h : o + m ≤ n) : cutD (rowv n f) o m = rowv m (fun j => f (o + j)) := by
  unfold cutD
  apply Array.ext_getElem?
  intro j
  rw [Array.getElem?_extract, size_rowv, get_rowv, get_rowv]
  by_cases hj : j < m
  · rw [if_pos (by omega), if_pos (by omega), if_pos hj]
  · rw [if_neg (by omega), if_neg hj]

/-- In a round's frame an operation that is no defer is what it is elsewhere. -/
@[go_sem ↓ high] theorem semAt_move (l : Option Nat) (ρ : Operand → Value) (dst : Option Tmp) (x : Operand) (tq : TypeId) (pos : String) (after : Array Edge) (g : Option (Nat × Bool)) : Oper.semAt l ρ ⟨dst, .move x, tq, pos, after, g⟩ = execOp ρ ⟨dst, .move x, tq, pos, after, g⟩ := Oper.semAt_eq _ _ _ (fun c h => by cases h)
@[go_sem ↓ high] theorem semAt_assign (l : Option Nat) (ρ : Operand → Value) (dst : Option Tmp) (x : Operand) (tq : TypeId) (pos : String) (after : Array Edge) (g : Option (Nat × Bool)) : Oper.semAt l ρ ⟨dst, .assign x, tq, pos, after, g⟩ = execOp ρ ⟨dst, .assign x, tq, pos, after, g⟩ := Oper.semAt_eq _ _ _ (fun c h => by cases h)
@[go_sem ↓ high] theorem semAt_pick (l : Option Nat) (ρ : Operand → Value) (dst : Option Tmp) (c a b : Operand) (tq : TypeId) (pos : String) (after : Array Edge) (g : Option (Nat × Bool)) : Oper.semAt l ρ ⟨dst, .pick c a b, tq, pos, after, g⟩ = execOp ρ ⟨dst, .pick c a b, tq, pos, after, g⟩ := Oper.semAt_eq _ _ _ (fun c h => by cases h)
@[go_sem ↓ high] theorem semAt_alloc (l : Option Nat) (ρ : Operand → Value) (dst : Option Tmp) (e : TypeId) (tq : TypeId) (pos : String) (after : Array Edge) (g : Option (Nat × Bool)) : Oper.semAt l ρ ⟨dst, .alloc e, tq, pos, after, g⟩ = execOp ρ ⟨dst, .alloc e, tq, pos, after, g⟩ := Oper.semAt_eq _ _ _ (fun c h => by cases h)
@[go_sem ↓ high] theorem semAt_box (l : Option Nat) (ρ : Operand → Value) (dst : Option Tmp) (e : TypeId) (v : Operand) (tq : TypeId) (pos : String) (after : Array Edge) (g : Option (Nat × Bool)) : Oper.semAt l ρ ⟨dst, .box e v, tq, pos, after, g⟩ = execOp ρ ⟨dst, .box e v, tq, pos, after, g⟩ := Oper.semAt_eq _ _ _ (fun c h => by cases h)
@[go_sem ↓ high] theorem semAt_build (l : Option Nat) (ρ : Operand → Value) (dst : Option Tmp) (t : TypeId) (p : Array (Nat × Operand)) (tq : TypeId) (pos : String) (after : Array Edge) (g : Option (Nat × Bool)) : Oper.semAt l ρ ⟨dst, .build t p, tq, pos, after, g⟩ = execOp ρ ⟨dst, .build t p, tq, pos, after, g⟩ := Oper.semAt_eq _ _ _ (fun c h => by cases h)
@[go_sem ↓ high] theorem semAt_buildSlice (l : Option Nat) (ρ : Operand → Value) (dst : Option Tmp) (t : TypeId) (n : Nat) (p : Array (Nat × Operand)) (tq : TypeId) (pos : String) (after : Array Edge) (g : Option (Nat × Bool)) : Oper.semAt l ρ ⟨dst, .buildSlice t n p, tq, pos, after, g⟩ = execOp ρ ⟨dst, .buildSlice t n p, tq, pos, after, g⟩ := Oper.semAt_eq _ _ _ (fun c h => by cases h)
@[go_sem ↓ high] theorem semAt_insert (l : Option Nat) (ρ : Operand → Value) (dst : Option Tmp) (t : TypeId) (m k v : Operand) (tq : TypeId) (pos : String) (after : Array Edge) (g : Option (Nat × Bool)) : Oper.semAt l ρ ⟨dst, .insert t m k v, tq, pos, after, g⟩ = execOp ρ ⟨dst, .insert t m k v, tq, pos, after, g⟩ := Oper.semAt_eq _ _ _ (fun c h => by cases h)
@[go_sem ↓ high] theorem semAt_load (l : Option Nat) (ρ : Operand → Value) (dst : Option Tmp) (t : TypeId) (x : Operand) (tq : TypeId) (pos : String) (after : Array Edge) (g : Option (Nat × Bool)) : Oper.semAt l ρ ⟨dst, .load t x, tq, pos, after, g⟩ = execOp ρ ⟨dst, .load t x, tq, pos, after, g⟩ := Oper.semAt_eq _ _ _ (fun c h => by cases h)
@[go_sem ↓ high] theorem semAt_store (l : Option Nat) (ρ : Operand → Value) (dst : Option Tmp) (t : TypeId) (x y : Operand) (tq : TypeId) (pos : String) (after : Array Edge) (g : Option (Nat × Bool)) : Oper.semAt l ρ ⟨dst, .store t x y, tq, pos, after, g⟩ = execOp ρ ⟨dst, .store t x y, tq, pos, after, g⟩ := Oper.semAt_eq _ _ _ (fun c h => by cases h)
@[go_sem ↓ high] theorem semAt_nilCheck (l : Option Nat) (ρ : Operand → Value) (dst : Option Tmp) (x : Operand) (tq : TypeId) (pos : String) (after : Array Edge) (g : Option (Nat × Bool)) : Oper.semAt l ρ ⟨dst, .nilCheck x, tq, pos, after, g⟩ = execOp ρ ⟨dst, .nilCheck x, tq, pos, after, g⟩ := Oper.semAt_eq _ _ _ (fun c h => by cases h)
@[go_sem ↓ high] theorem semAt_binOp (l : Option Nat) (ρ : Operand → Value) (dst : Option Tmp) (o : BinOp) (t : TypeId) (x y : Operand) (u : TypeId) (tq : TypeId) (pos : String) (after : Array Edge) (g : Option (Nat × Bool)) : Oper.semAt l ρ ⟨dst, .binOp o t x y u, tq, pos, after, g⟩ = execOp ρ ⟨dst, .binOp o t x y u, tq, pos, after, g⟩ := Oper.semAt_eq _ _ _ (fun c h => by cases h)
@[go_sem ↓ high] theorem semAt_unOp (l : Option Nat) (ρ : Operand → Value) (dst : Option Tmp) (o : UnOp) (t : TypeId) (x : Operand) (tq : TypeId) (pos : String) (after : Array Edge) (g : Option (Nat × Bool)) : Oper.semAt l ρ ⟨dst, .unOp o t x, tq, pos, after, g⟩ = execOp ρ ⟨dst, .unOp o t x, tq, pos, after, g⟩ := Oper.semAt_eq _ _ _ (fun c h => by cases h)
@[go_sem ↓ high] theorem semAt_convert (l : Option Nat) (ρ : Operand → Value) (dst : Option Tmp) (s d : TypeId) (x : Operand) (tq : TypeId) (pos : String) (after : Array Edge) (g : Option (Nat × Bool)) : Oper.semAt l ρ ⟨dst, .convert s d x, tq, pos, after, g⟩ = execOp ρ ⟨dst, .convert s d x, tq, pos, after, g⟩ := Oper.semAt_eq _ _ _ (fun c h => by cases h)
@[go_sem ↓ high] theorem semAt_makeInterface (l : Option Nat) (ρ : Operand → Value) (dst : Option Tmp) (t : TypeId) (x : Operand) (tq : TypeId) (pos : String) (after : Array Edge) (g : Option (Nat × Bool)) : Oper.semAt l ρ ⟨dst, .makeInterface t x, tq, pos, after, g⟩ = execOp ρ ⟨dst, .makeInterface t x, tq, pos, after, g⟩ := Oper.semAt_eq _ _ _ (fun c h => by cases h)
@[go_sem ↓ high] theorem semAt_makeFunc (l : Option Nat) (ρ : Operand → Value) (dst : Option Tmp) (f : Fn) (a b : Array Operand) (tq : TypeId) (pos : String) (after : Array Edge) (g : Option (Nat × Bool)) : Oper.semAt l ρ ⟨dst, .makeFunc f a b, tq, pos, after, g⟩ = execOp ρ ⟨dst, .makeFunc f a b, tq, pos, after, g⟩ := Oper.semAt_eq _ _ _ (fun c h => by cases h)
@[go_sem ↓ high] theorem semAt_makeMap (l : Option Nat) (ρ : Operand → Value) (dst : Option Tmp) (t : TypeId) (r : Option Operand) (tq : TypeId) (pos : String) (after : Array Edge) (g : Option (Nat × Bool)) : Oper.semAt l ρ ⟨dst, .makeMap t r, tq, pos, after, g⟩ = execOp ρ ⟨dst, .makeMap t r, tq, pos, after, g⟩ := Oper.semAt_eq _ _ _ (fun c h => by cases h)
@[go_sem ↓ high] theorem semAt_makeSlice (l : Option Nat) (ρ : Operand → Value) (dst : Option Tmp) (t : TypeId) (a b : Operand) (tq : TypeId) (pos : String) (after : Array Edge) (g : Option (Nat × Bool)) : Oper.semAt l ρ ⟨dst, .makeSlice t a b, tq, pos, after, g⟩ = execOp ρ ⟨dst, .makeSlice t a b, tq, pos, after, g⟩ := Oper.semAt_eq _ _ _ (fun c h => by cases h)
@[go_sem ↓ high] theorem semAt_slice (l : Option Nat) (ρ : Operand → Value) (dst : Option Tmp) (t : TypeId) (x : Operand) (a b c : Option Operand) (tq : TypeId) (pos : String) (after : Array Edge) (g : Option (Nat × Bool)) : Oper.semAt l ρ ⟨dst, .slice t x a b c, tq, pos, after, g⟩ = execOp ρ ⟨dst, .slice t x a b c, tq, pos, after, g⟩ := Oper.semAt_eq _ _ _ (fun c h => by cases h)
@[go_sem ↓ high] theorem semAt_fieldAddr (l : Option Nat) (ρ : Operand → Value) (dst : Option Tmp) (t : TypeId) (x : Operand) (n : Nat) (tq : TypeId) (pos : String) (after : Array Edge) (g : Option (Nat × Bool)) : Oper.semAt l ρ ⟨dst, .fieldAddr t x n, tq, pos, after, g⟩ = execOp ρ ⟨dst, .fieldAddr t x n, tq, pos, after, g⟩ := Oper.semAt_eq _ _ _ (fun c h => by cases h)
@[go_sem ↓ high] theorem semAt_field (l : Option Nat) (ρ : Operand → Value) (dst : Option Tmp) (t : TypeId) (x : Operand) (n : Nat) (tq : TypeId) (pos : String) (after : Array Edge) (g : Option (Nat × Bool)) : Oper.semAt l ρ ⟨dst, .field t x n, tq, pos, after, g⟩ = execOp ρ ⟨dst, .field t x n, tq, pos, after, g⟩ := Oper.semAt_eq _ _ _ (fun c h => by cases h)
@[go_sem ↓ high] theorem semAt_indexAddr (l : Option Nat) (ρ : Operand → Value) (dst : Option Tmp) (t : TypeId) (x i : Operand) (tq : TypeId) (pos : String) (after : Array Edge) (g : Option (Nat × Bool)) : Oper.semAt l ρ ⟨dst, .indexAddr t x i, tq, pos, after, g⟩ = execOp ρ ⟨dst, .indexAddr t x i, tq, pos, after, g⟩ := Oper.semAt_eq _ _ _ (fun c h => by cases h)
@[go_sem ↓ high] theorem semAt_index (l : Option Nat) (ρ : Operand → Value) (dst : Option Tmp) (t : TypeId) (x i : Operand) (tq : TypeId) (pos : String) (after : Array Edge) (g : Option (Nat × Bool)) : Oper.semAt l ρ ⟨dst, .index t x i, tq, pos, after, g⟩ = execOp ρ ⟨dst, .index t x i, tq, pos, after, g⟩ := Oper.semAt_eq _ _ _ (fun c h => by cases h)
@[go_sem ↓ high] theorem semAt_call (l : Option Nat) (ρ : Operand → Value) (dst : Option Tmp) (c : Call) (tq : TypeId) (pos : String) (after : Array Edge) (g : Option (Nat × Bool)) : Oper.semAt l ρ ⟨dst, .call c, tq, pos, after, g⟩ = execOp ρ ⟨dst, .call c, tq, pos, after, g⟩ := Oper.semAt_eq _ _ _ (fun c h => by cases h)

section
variable {F : Fence} {n : Nat} {P : Program} {ops : Array Oper} {Q : Exit → Act → World → Prop} {a : Act} {w w' : World} {rest : List Oper} {o : Oper} {v : Value}
/-- One operation of a list inside a fence, by what it does. -/
theorem wpListIn_val (hg : o.guard = none) (hd : ∀ c, o.op ≠ .defer c) (ha : o.about P w a.eval = none) (he : (execOp a.eval o).run P w = .ok (.value v) w') (h : wpListIn F n P ops Q rest (a.put o.dst v) w') : wpListIn F n P ops Q (o :: rest) a w := by
  refine wpListIn_plain hg fun K hK => ?_
  refine ⟨fun f hf => (by rw [ha] at hf; cases hf), ?_⟩
  rw [Oper.semAt_eq _ _ _ hd, he]
  exact hK _ _ h
theorem wpListIn_skp (hg : o.guard = none) (hd : ∀ c, o.op ≠ .defer c) (ha : o.about P w a.eval = none) (he : (execOp a.eval o).run P w = .ok .skip w') (h : wpListIn F n P ops Q rest (a.put o.dst undef) w') : wpListIn F n P ops Q (o :: rest) a w := by
  refine wpListIn_plain hg fun K hK => ?_
  refine ⟨fun f hf => (by rw [ha] at hf; cases hf), ?_⟩
  rw [Oper.semAt_eq _ _ _ hd, he]
  exact hK _ _ h
theorem wpListIn_end (h : Q .normal a w) : wpListIn F n P ops Q [] a w := h
end

end Go.Proofs.Ytedamnocolfmlaa

/- Moves: what the small functions of the package move and of its reference return. -/
namespace Go.Proofs.Ytedamnocolfmlaa
open Go.RowKit

/-- A move: its phase, who has it, who gets it, its generation, a tick, a version. -/
structure Mo where
  ph : Int
  cur : Int
  nxt : Int
  gen : Int
  tick : Int
  ver : Int
  deriving DecidableEq
abbrev mo (ph cur nxt gen tick ver : Int) : Value := .agg #[.int .u8 ph, .int .i64 cur, .int .i64 nxt, .int .i64 gen, .int .i64 tick, .int .i64 ver]
abbrev Mo.v (m : Mo) : Value := mo m.ph m.cur m.nxt m.gen m.tick m.ver
def nodeB (n : Int) : Bool := decide (0 ≤ n) && decide (n ≤ 5)
def tickB (n : Int) : Bool := decide (0 ≤ n) && decide (n ≤ 1099511627776)
def whoM (m : Mo) : Bool :=
  if m.ph = 0 then m.cur == -1 && m.nxt == -1
  else if m.ph = 1 then nodeB m.cur && m.nxt == -1
  else if m.ph = 6 then m.cur == -1 && nodeB m.nxt
  else nodeB m.cur && nodeB m.nxt && m.cur != m.nxt
def genB (m : Mo) : Bool := decide (0 ≤ m.gen) && decide (m.gen ≤ 2147483647) && (decide (1 ≤ m.gen) || m.ph == 0)
def Mo.right (m : Mo) : Bool := decide (m.ph < 7) && whoM m && genB m && tickB m.tick && tickB m.ver
@[go_sem ↓ high] theorem eq_mo (a b c d e f a' b' c' d' e' f' : Int) (w : World) :
    (binOp .eql 27 (mo a b c d e f) (mo a' b' c' d' e' f')).run Try.prog w = .ok (.bool (a == a' && b == b' && c == c' && d == d' && e == e' && f == f')) w := by
  go_simp
  by_cases h1 : a = a' <;> by_cases h2 : b = b' <;> by_cases h3 : c = c' <;> by_cases h4 : d = d' <;> by_cases h5 : e = e' <;> by_cases h6 : f = f' <;> simp [*]
@[go_sem ↓ high] theorem ne_mo (a b c d e f a' b' c' d' e' f' : Int) (w : World) :
    (binOp .neq 27 (mo a b c d e f) (mo a' b' c' d' e' f')).run Try.prog w = .ok (.bool (!(a == a' && b == b' && c == c' && d == d' && e == e' && f == f'))) w := by
  go_simp
  by_cases h1 : a = a' <;> by_cases h2 : b = b' <;> by_cases h3 : c = c' <;> by_cases h4 : d = d' <;> by_cases h5 : e = e' <;> by_cases h6 : f = f' <;> simp [*]
set_option maxHeartbeats 400000 in
theorem within_any (n h : Int) (w : World) :
    Calls Try.prog 98 #[.int .i64 n, .int .i64 h] w fun e w' => e = .returned (.bool (decide (0 ≤ n) && decide (n ≤ h))) ∧ w = w' := by
  go_enter Try.func98, Try.ntmps98
  go_wp2
  all_goals (go_ret; exact ⟨ret_bool (by simp_all <;> omega), rfl⟩)
theorem wgen_any (n : Int) (w : World) :
    Calls Try.prog 98 #[.int .i64 n, .int .i64 2147483647] w fun e w' => e = .returned (.bool (decide (0 ≤ n) && decide (n ≤ 2147483647))) ∧ w = w' := within_any n _ w
theorem wtick_any (n : Int) (w : World) :
    Calls Try.prog 98 #[.int .i64 n, .int .i64 1099511627776] w fun e w' => e = .returned (.bool (tickB n)) ∧ w = w' := within_any n _ w
set_option maxHeartbeats 400000 in
theorem mnode_any (n : Int) (w : World) :
    Calls Try.prog 97 #[.int .i64 n] w fun e w' => e = .returned (.bool (nodeB n)) ∧ w = w' := by
  go_enter Try.func97, Try.ntmps97
  go_wp2_with ((go_at_call 98; (with_reducible refine (within_any n 5 _).mono ?_); rintro e w' ⟨rfl, rfl⟩))
  all_goals (go_ret; exact ⟨rfl, rfl⟩)
set_option maxHeartbeats 4000000 in
theorem mright_any (m : Mo) (w : World) (h0 : 0 ≤ m.ph) :
    Calls Try.prog 89 #[mo m.ph m.cur m.nxt m.gen m.tick m.ver] w fun e w' => e = .returned (.bool m.right) ∧ Ext w w' := by
  obtain ⟨ph, cur, nxt, gen, tick, ver⟩ := m
  dsimp only at h0 ⊢
  have hE0 : Ext w (w.alloc (.cells #[.int .u8 ph, .int .i64 cur, .int .i64 nxt, .int .i64 gen, .int .i64 tick, .int .i64 ver] 27)) := Ext.al (Ext.rf _) _
  go_enter Try.func89, Try.ntmps89
  go_wp2_with (fail)
  refine wp_scope_fwd 0 rfl ?_
  go_wp2_with (fail)
  refine wp_region_later (by kernel_rfl) (by kernel_rfl) ?_; (repeat (go_big_quiet_step ((go_at_call 97; exact calls_later_same (mnode_any _ _))))); refine wpQuiet_nil ?_; intro d
  have hE := hE0.tr (later_ext d)
  go_wp2_with (first | (go_at_call 98; (with_reducible refine (wgen_any _ _).mono ?_); rintro e w' ⟨rfl, rfl⟩) | (go_at_call 98; (with_reducible refine (wtick_any _ _).mono ?_); rintro e w' ⟨rfl, rfl⟩))
  all_goals (try (with_reducible refine wp_label ?_; go_wp2))
  all_goals (try (go_step3; refine ⟨rfl, ?_⟩; go_wp2; rw [Exit.noGoto_ret]))
  all_goals (try simp only [Exit.jump])
  all_goals (try go_ret)
  all_goals refine ⟨ret_bool ?_, ?_⟩
  all_goals first | (guard_target =~ Below _ _ _; exact hE) | (simp_all [Mo.right, genB, whoM, tickB]; done) | grind [Mo.right, genB, whoM, tickB, nodeB]

end Go.Proofs.Ytedamnocolfmlaa

/- The world's parts. -/
namespace Go.Proofs.Ytedamnocolfmlaa
open Go.RowKit

/-- A shift: a bucket, to whom. A slice of them reads as a list. -/
structure Sh where
  b : Int
  t : Int
  deriving DecidableEq
def SlS (w : World) (p : Option Addr) (xs : List Sh) : Prop := ∀ k, (h : k < xs.length) → ∃ b off, p = some ⟨b, off, none⟩ ∧ b < w.heap.size ∧ w.cell? ⟨b, off + k * 2, none⟩ = some (.int .i64 xs[k].b) ∧ w.cell? ⟨b, off + k * 2 + 1, none⟩ = some (.int .i64 xs[k].t)
theorem SlS.ext {w w' : World} {p : Option Addr} {xs : List Sh} (h : SlS w p xs) (e : Ext w w') : SlS w' p xs := fun k hk => by
  obtain ⟨b, off, hp, hb, c0, c1⟩ := h k hk
  exact ⟨b, off, hp, Nat.lt_of_lt_of_le hb e.size, (e.cell (p := ⟨b, off + k * 2, none⟩) hb).trans c0, (e.cell (p := ⟨b, off + k * 2 + 1, none⟩) hb).trans c1⟩
theorem SlS.nil (w : World) (p : Option Addr) : SlS w p [] := fun k hk => by simp at hk

def Mo.at (m : Mo) : Nat → Value
  | 0 => .int .u8 m.ph
  | 1 => .int .i64 m.cur
  | 2 => .int .i64 m.nxt
  | 3 => .int .i64 m.gen
  | 4 => .int .i64 m.tick
  | _ => .int .i64 m.ver
/-- The cells of sixteen moves. -/
def lm (l : Nat → Mo) : Array Value := rowv 96 fun j => (l (j / 6)).at (j % 6)
theorem size_lm (l : Nat → Mo) : (lm l).size = 96 := size_rowv _ _
theorem get_lm (l : Nat → Mo) (i j : Nat) (hi : i < 16) (hj : j < 6) : (lm l)[i * 6 + j]? = some ((l i).at j) := by
  unfold lm
  rw [get_rowv, if_pos (by omega), show (i * 6 + j) / 6 = i by omega, show (i * 6 + j) % 6 = j by omega]
theorem at_one (m : Mo) (j : Nat) : (m.at j).oneCell' = true := by
  unfold Mo.at
  split <;> rfl
@[go_sem] theorem all_lm (l : Nat → Mo) : oneC (lm l) := all_rowv _ _ fun j => at_one _ _
@[go_sem ↓ high] theorem cells_lm (l : Nat → Mo) : (Value.agg (lm l)).cells = lm l := rfl
theorem lm_congr (l l' : Nat → Mo) (h : ∀ i, i < 16 → l i = l' i) : lm l = lm l' := rowv_congr _ _ _ fun j hj => by rw [h (j / 6) (by omega)]
def updM (l : Nat → Mo) (k : Nat) (m : Mo) : Nat → Mo := fun i => if i = k then m else l i
/-- What a block of sixteen moves holds, move by move. -/
theorem cells_row {w : World} {b : Nat} {l : Nat → Mo} (h : rowD w b = lm l) (i : Nat) (hi : i < 16) :
    w.cell? ⟨b, i * 6, none⟩ = some (.int .u8 (l i).ph) ∧ w.cell? ⟨b, i * 6 + 1, none⟩ = some (.int .i64 (l i).cur) ∧ w.cell? ⟨b, i * 6 + 2, none⟩ = some (.int .i64 (l i).nxt) ∧
    w.cell? ⟨b, i * 6 + 3, none⟩ = some (.int .i64 (l i).gen) ∧ w.cell? ⟨b, i * 6 + 4, none⟩ = some (.int .i64 (l i).tick) ∧ w.cell? ⟨b, i * 6 + 5, none⟩ = some (.int .i64 (l i).ver) := by
  refine ⟨?_, ?_, ?_, ?_, ?_, ?_⟩ <;> rw [cell_rowD, h]
  · exact get_lm l i 0 hi (by omega)
  · exact get_lm l i 1 hi (by omega)
  · exact get_lm l i 2 hi (by omega)
  · exact get_lm l i 3 hi (by omega)
  · exact get_lm l i 4 hi (by omega)
  · exact get_lm l i 5 hi (by omega)
theorem set_lm (l : Nat → Mo) (k : Nat) (m : Mo) (hk : k < 16) :
    ((((((lm l).setIfInBounds (k * 6) (.int .u8 m.ph)).setIfInBounds (k * 6 + 1) (.int .i64 m.cur)).setIfInBounds (k * 6 + 2) (.int .i64 m.nxt)).setIfInBounds (k * 6 + 3) (.int .i64 m.gen)).setIfInBounds (k * 6 + 4) (.int .i64 m.tick)).setIfInBounds (k * 6 + 5) (.int .i64 m.ver) = lm (updM l k m) := by
  refine Array.ext_getElem? fun j => ?_
  simp only [Array.getElem?_setIfInBounds, Array.size_setIfInBounds, size_lm]
  by_cases hj : j < 96
  · have hg : (lm (updM l k m))[j]? = some ((updM l k m (j / 6)).at (j % 6)) := by unfold lm; rw [get_rowv, if_pos hj]
    have hl : (lm l)[j]? = some ((l (j / 6)).at (j % 6)) := by unfold lm; rw [get_rowv, if_pos hj]
    rw [hg, hl]
    by_cases h : j / 6 = k
    · have h6 : j % 6 < 6 := Nat.mod_lt _ (by omega)
      have hu : updM l k m (j / 6) = m := by unfold updM; rw [if_pos h]
      rw [hu]
      obtain h0 | h0 | h0 | h0 | h0 | h0 : j % 6 = 0 ∨ j % 6 = 1 ∨ j % 6 = 2 ∨ j % 6 = 3 ∨ j % 6 = 4 ∨ j % 6 = 5 := by omega
      · rw [h0, if_neg (by omega), if_neg (by omega), if_neg (by omega), if_neg (by omega), if_neg (by omega), if_pos (by omega), if_pos (by omega)]; rfl
      · rw [h0, if_neg (by omega), if_neg (by omega), if_neg (by omega), if_neg (by omega), if_pos (by omega), if_pos (by omega)]; rfl
      · rw [h0, if_neg (by omega), if_neg (by omega), if_neg (by omega), if_pos (by omega), if_pos (by omega)]; rfl
      · rw [h0, if_neg (by omega), if_neg (by omega), if_pos (by omega), if_pos (by omega)]; rfl
      · rw [h0, if_neg (by omega), if_pos (by omega), if_pos (by omega)]; rfl
      · rw [h0, if_pos (by omega), if_pos (by omega)]; rfl
    · have hu : updM l k m (j / 6) = l (j / 6) := by unfold updM; rw [if_neg h]
      rw [hu, if_neg (by omega), if_neg (by omega), if_neg (by omega), if_neg (by omega), if_neg (by omega), if_neg (by omega)]
  · rw [if_neg (by omega), if_neg (by omega), if_neg (by omega), if_neg (by omega), if_neg (by omega), if_neg (by omega), Array.getElem?_eq_none (by simp [size_lm]; omega), Array.getElem?_eq_none (by simp [size_lm]; omega)]
theorem isAgg_mo (w : World) : (isAgg 27).run Try.prog w = .ok true w := by kernel_rfl
theorem size_mo (w : World) : (sizeOf 27).run Try.prog w = .ok 6 w := by kernel_rfl
theorem extract_lm (l : Nat → Mo) (k : Nat) (hk : k < 16) : (lm l).extract (k * 6) (k * 6 + 6) = #[.int .u8 (l k).ph, .int .i64 (l k).cur, .int .i64 (l k).nxt, .int .i64 (l k).gen, .int .i64 (l k).tick, .int .i64 (l k).ver] := by
  refine Array.ext_getElem? fun j => ?_
  rw [Array.getElem?_extract]
  rw [size_lm]
  by_cases hj : j < 6
  · rw [if_pos (by omega), get_lm l k j hk hj]
    obtain rfl | rfl | rfl | rfl | rfl | rfl : j = 0 ∨ j = 1 ∨ j = 2 ∨ j = 3 ∨ j = 4 ∨ j = 5 := by omega
    all_goals rfl
  · rw [if_neg (by omega), Array.getElem?_eq_none (by simp; omega)]
@[go_sem ↓ high] theorem index_mov (l : Nat → Mo) (k : Nat) (w : World) (h1 : (k : Int) < 16) : (Instr.index 28 (.agg (lm l)) (.int .i64 k)).run Try.prog w = .ok (l k).v w := by
  have hu : (underlying 28).run Try.prog w = .ok (.array 16 27) w := run_underlying Try.underlying28 w
  have h2 : ¬ (16 : Int) ≤ (k : Int) := by omega
  have h3 : k < 16 := by omega
  have hx := extract_lm l k h3
  simp [Instr.index, asIntOf, Sem.run_bind, hu, h2, h3, part, isAgg_mo, size_mo, hx]
/-- Nobody's moves, as a new variable has them. -/
def mz : Nat → Mo := fun _ => ⟨0, 0, 0, 0, 0, 0⟩
@[go_sem] theorem fits_lm {x o m} : Fits o m (lm x) = (o + m ≤ 96) := by unfold Fits; rw [size_lm]
@[go_sem] theorem sizeIs_lm {x} : SizeIs (lm x) 96 := size_lm x

/-- A bucket's mode; a row; a table; what a mux has. -/
structure Md where
  kind : Int
  peer : Int
  gen : Int
  ret : Bool
  deriving DecidableEq
structure En where
  cur : Int
  prev : Int
  gen : Int
  tick : Int
  deriving DecidableEq
structure Tb where
  ver : Int
  rows : Nat → En
structure Cl where
  has : Bool
  t : Tb
/-- An agent; its connections are a slice. -/
structure Ag where
  id : Int
  idle : Int
  md : Nat → Md
  p : Option Addr
  xs : List Co
  c : Nat
structure Mb where
  bk : Nat → Int
  mx : Nat → Int
structure St where
  mb : Mb
  mv : Nat → Mo
  t : Tb
  set : Nat → Int
  has : Nat → Int
  win : Int
  p : Option Addr
  pl : List Sh
  c : Nat
structure Wd where
  now : Int
  idle : Int
  st : St
  cl : Nat → Cl
  ag : Nat → Ag
  fp : Option Addr
  fl : Nat
  fc : Nat
  tp : Option Addr
  tl : Nat
  tc : Nat
  drops : Nat → Int
def Md.at (m : Md) (j : Nat) : Value := match j with | 0 => .int .u8 m.kind | 1 => .int .i64 m.peer | 2 => .int .i64 m.gen | _ => .bool m.ret
def En.at (e : En) (j : Nat) : Value := match j with | 0 => .int .i64 e.cur | 1 => .int .i64 e.prev | 2 => .int .i64 e.gen | _ => .int .i64 e.tick
def Tb.at (t : Tb) (j : Nat) : Value := if j = 0 then .int .i64 t.ver else (t.rows ((j - 1) / 4)).at ((j - 1) % 4)
def Cl.at (c : Cl) (j : Nat) : Value := if j = 0 then .bool c.has else c.t.at (j - 1)
def Ag.at (a : Ag) (j : Nat) : Value := if j = 0 then .int .i64 a.id else if j = 1 then .int .i64 a.idle else if j < 66 then (a.md ((j - 2) / 4)).at ((j - 2) % 4) else .slice a.p a.xs.length a.c
def Mb.at (m : Mb) (j : Nat) : Value := if j < 6 then .int .u8 (m.bk j) else .int .u8 (m.mx (j - 6))
def St.at (s : St) (j : Nat) : Value :=
  if j < 9 then s.mb.at j else if j < 105 then (s.mv ((j - 9) / 6)).at ((j - 9) % 6) else if j < 170 then s.t.at (j - 105) else if j < 186 then .int .i64 (s.set (j - 170))
  else if j < 189 then .int .i64 (s.has (j - 186)) else if j = 189 then .int .i64 s.win else .slice s.p s.pl.length s.c
def Wd.at (x : Wd) (j : Nat) : Value :=
  if j = 0 then .int .i64 x.now else if j = 1 then .int .i64 x.idle else if j < 193 then x.st.at (j - 2) else if j < 391 then (x.cl ((j - 193) / 66)).at ((j - 193) % 66)
  else if j < 793 then (x.ag ((j - 391) / 67)).at ((j - 391) % 67) else if j = 793 then .slice x.fp x.fl x.fc else if j = 794 then .slice x.tp x.tl x.tc else .int .i64 (x.drops (j - 795))
def mdv (m : Md) : Array Value := rowv 4 m.at
def mdL (l : Nat → Md) : Array Value := rowv 64 fun j => (l (j / 4)).at (j % 4)
def env (e : En) : Array Value := rowv 4 e.at
def enL (l : Nat → En) : Array Value := rowv 64 fun j => (l (j / 4)).at (j % 4)
def tbv (t : Tb) : Array Value := rowv 65 t.at
def clv (c : Cl) : Array Value := rowv 66 c.at
def clL (l : Nat → Cl) : Array Value := rowv 198 fun j => (l (j / 66)).at (j % 66)
def agv (a : Ag) : Array Value := rowv 67 a.at
def agL (l : Nat → Ag) : Array Value := rowv 402 fun j => (l (j / 67)).at (j % 67)
def mbv (m : Mb) : Array Value := rowv 9 m.at
def stv (s : St) : Array Value := rowv 191 s.at
def wdv (x : Wd) : Array Value := rowv 814 x.at
theorem size_mdv {x} : (mdv x).size = 4 := by unfold mdv; rw [size_rowv]
@[go_sem] theorem fits_mdv {x o m} : Fits o m (mdv x) = (o + m ≤ 4) := by unfold Fits; rw [size_mdv]
@[go_sem] theorem sizeIs_mdv {x} : SizeIs (mdv x) 4 := size_mdv
@[go_sem ↓ high] theorem cells_mdv {x} : (Value.agg (mdv x)).cells = mdv x := cells_agg' _
theorem size_mdL {x} : (mdL x).size = 64 := by unfold mdL; rw [size_rowv]
@[go_sem] theorem fits_mdL {x o m} : Fits o m (mdL x) = (o + m ≤ 64) := by unfold Fits; rw [size_mdL]
@[go_sem] theorem sizeIs_mdL {x} : SizeIs (mdL x) 64 := size_mdL
@[go_sem ↓ high] theorem cells_mdL {x} : (Value.agg (mdL x)).cells = mdL x := cells_agg' _
theorem size_env {x} : (env x).size = 4 := by unfold env; rw [size_rowv]
@[go_sem] theorem fits_env {x o m} : Fits o m (env x) = (o + m ≤ 4) := by unfold Fits; rw [size_env]
@[go_sem] theorem sizeIs_env {x} : SizeIs (env x) 4 := size_env
@[go_sem ↓ high] theorem cells_env {x} : (Value.agg (env x)).cells = env x := cells_agg' _
theorem size_enL {x} : (enL x).size = 64 := by unfold enL; rw [size_rowv]
@[go_sem] theorem fits_enL {x o m} : Fits o m (enL x) = (o + m ≤ 64) := by unfold Fits; rw [size_enL]
@[go_sem] theorem sizeIs_enL {x} : SizeIs (enL x) 64 := size_enL
@[go_sem ↓ high] theorem cells_enL {x} : (Value.agg (enL x)).cells = enL x := cells_agg' _
theorem size_tbv {x} : (tbv x).size = 65 := by unfold tbv; rw [size_rowv]
@[go_sem] theorem fits_tbv {x o m} : Fits o m (tbv x) = (o + m ≤ 65) := by unfold Fits; rw [size_tbv]
@[go_sem] theorem sizeIs_tbv {x} : SizeIs (tbv x) 65 := size_tbv
@[go_sem ↓ high] theorem cells_tbv {x} : (Value.agg (tbv x)).cells = tbv x := cells_agg' _
theorem size_clv {x} : (clv x).size = 66 := by unfold clv; rw [size_rowv]
@[go_sem] theorem fits_clv {x o m} : Fits o m (clv x) = (o + m ≤ 66) := by unfold Fits; rw [size_clv]
@[go_sem] theorem sizeIs_clv {x} : SizeIs (clv x) 66 := size_clv
@[go_sem ↓ high] theorem cells_clv {x} : (Value.agg (clv x)).cells = clv x := cells_agg' _
theorem size_clL {x} : (clL x).size = 198 := by unfold clL; rw [size_rowv]
@[go_sem] theorem fits_clL {x o m} : Fits o m (clL x) = (o + m ≤ 198) := by unfold Fits; rw [size_clL]
@[go_sem] theorem sizeIs_clL {x} : SizeIs (clL x) 198 := size_clL
@[go_sem ↓ high] theorem cells_clL {x} : (Value.agg (clL x)).cells = clL x := cells_agg' _
theorem size_agv {x} : (agv x).size = 67 := by unfold agv; rw [size_rowv]
@[go_sem] theorem fits_agv {x o m} : Fits o m (agv x) = (o + m ≤ 67) := by unfold Fits; rw [size_agv]
@[go_sem] theorem sizeIs_agv {x} : SizeIs (agv x) 67 := size_agv
@[go_sem ↓ high] theorem cells_agv {x} : (Value.agg (agv x)).cells = agv x := cells_agg' _
theorem size_agL {x} : (agL x).size = 402 := by unfold agL; rw [size_rowv]
@[go_sem] theorem fits_agL {x o m} : Fits o m (agL x) = (o + m ≤ 402) := by unfold Fits; rw [size_agL]
@[go_sem] theorem sizeIs_agL {x} : SizeIs (agL x) 402 := size_agL
@[go_sem ↓ high] theorem cells_agL {x} : (Value.agg (agL x)).cells = agL x := cells_agg' _
theorem size_mbv {x} : (mbv x).size = 9 := by unfold mbv; rw [size_rowv]
@[go_sem] theorem fits_mbv {x o m} : Fits o m (mbv x) = (o + m ≤ 9) := by unfold Fits; rw [size_mbv]
@[go_sem] theorem sizeIs_mbv {x} : SizeIs (mbv x) 9 := size_mbv
@[go_sem ↓ high] theorem cells_mbv {x} : (Value.agg (mbv x)).cells = mbv x := cells_agg' _
theorem size_stv {x} : (stv x).size = 191 := by unfold stv; rw [size_rowv]
@[go_sem] theorem fits_stv {x o m} : Fits o m (stv x) = (o + m ≤ 191) := by unfold Fits; rw [size_stv]
@[go_sem] theorem sizeIs_stv {x} : SizeIs (stv x) 191 := size_stv
@[go_sem ↓ high] theorem cells_stv {x} : (Value.agg (stv x)).cells = stv x := cells_agg' _
theorem size_wdv {x} : (wdv x).size = 814 := by unfold wdv; rw [size_rowv]
@[go_sem] theorem fits_wdv {x o m} : Fits o m (wdv x) = (o + m ≤ 814) := by unfold Fits; rw [size_wdv]
@[go_sem] theorem sizeIs_wdv {x} : SizeIs (wdv x) 814 := size_wdv
@[go_sem ↓ high] theorem cells_wdv {x} : (Value.agg (wdv x)).cells = wdv x := cells_agg' _
theorem md_at_one (m : Md) (j : Nat) : (m.at j).oneCell' = true := by unfold Md.at; split <;> rfl
theorem en_at_one (m : En) (j : Nat) : (m.at j).oneCell' = true := by unfold En.at; split <;> rfl
theorem tb_at_one (t : Tb) (j : Nat) : (t.at j).oneCell' = true := by unfold Tb.at; split; rfl; exact en_at_one _ _
theorem cl_at_one (c : Cl) (j : Nat) : (c.at j).oneCell' = true := by unfold Cl.at; split; rfl; exact tb_at_one _ _
theorem ag_at_one (a : Ag) (j : Nat) : (a.at j).oneCell' = true := by unfold Ag.at; split; rfl; split; rfl; split; exact md_at_one _ _; rfl
theorem mb_at_one (m : Mb) (j : Nat) : (m.at j).oneCell' = true := by unfold Mb.at; split <;> rfl
theorem st_at_one (s : St) (j : Nat) : (s.at j).oneCell' = true := by
  unfold St.at; split; exact mb_at_one _ _; split; exact at_one _ _; split; exact tb_at_one _ _; split; rfl; split; rfl; split <;> rfl
theorem wd_at_one (x : Wd) (j : Nat) : (x.at j).oneCell' = true := by
  unfold Wd.at; split; rfl; split; rfl; split; exact st_at_one _ _; split; exact cl_at_one _ _; split; exact ag_at_one _ _; split; rfl; split <;> rfl
@[go_sem] theorem all_mdv {x} : oneC (mdv x) := all_rowv _ _ fun _ => md_at_one _ _
@[go_sem] theorem all_mdL {x} : oneC (mdL x) := all_rowv _ _ fun _ => md_at_one _ _
@[go_sem] theorem all_env {x} : oneC (env x) := all_rowv _ _ fun _ => en_at_one _ _
@[go_sem] theorem all_enL {x} : oneC (enL x) := all_rowv _ _ fun _ => en_at_one _ _
@[go_sem] theorem all_tbv {x} : oneC (tbv x) := all_rowv _ _ fun _ => tb_at_one _ _
@[go_sem] theorem all_clv {x} : oneC (clv x) := all_rowv _ _ fun _ => cl_at_one _ _
@[go_sem] theorem all_clL {x} : oneC (clL x) := all_rowv _ _ fun _ => cl_at_one _ _
@[go_sem] theorem all_agv {x} : oneC (agv x) := all_rowv _ _ fun _ => ag_at_one _ _
@[go_sem] theorem all_agL {x} : oneC (agL x) := all_rowv _ _ fun _ => ag_at_one _ _
@[go_sem] theorem all_mbv {x} : oneC (mbv x) := all_rowv _ _ fun _ => mb_at_one _ _
@[go_sem] theorem all_stv {x} : oneC (stv x) := all_rowv _ _ fun _ => st_at_one _ _
@[go_sem] theorem all_wdv {x} : oneC (wdv x) := all_rowv _ _ fun _ => wd_at_one _ _
@[go_sem] theorem cut_all_mdL {x} : cutD (mdL x) 0 64 = mdL x := cut_all _ _ (size_mdL)
@[go_sem] theorem cut_all_enL {x} : cutD (enL x) 0 64 = enL x := cut_all _ _ (size_enL)
@[go_sem] theorem cut_all_tbv {x} : cutD (tbv x) 0 65 = tbv x := cut_all _ _ (size_tbv)
@[go_sem] theorem cut_all_clv {x} : cutD (clv x) 0 66 = clv x := cut_all _ _ (size_clv)
@[go_sem] theorem cut_all_clL {x} : cutD (clL x) 0 198 = clL x := cut_all _ _ (size_clL)
@[go_sem] theorem cut_all_agv {x} : cutD (agv x) 0 67 = agv x := cut_all _ _ (size_agv)
@[go_sem] theorem cut_all_agL {x} : cutD (agL x) 0 402 = agL x := cut_all _ _ (size_agL)
@[go_sem] theorem cut_all_mbv {x} : cutD (mbv x) 0 9 = mbv x := cut_all _ _ (size_mbv)
@[go_sem] theorem cut_all_stv {x} : cutD (stv x) 0 191 = stv x := cut_all _ _ (size_stv)
@[go_sem] theorem cut_all_wdv {x} : cutD (wdv x) 0 814 = wdv x := cut_all _ _ (size_wdv)
@[go_sem] theorem cut_all_lm {x} : cutD (lm x) 0 96 = lm x := cut_all _ _ (size_lm _)
@[go_sem] theorem cut_wd_st (x : Wd)  : cutD (wdv x) 2 191 = stv x.st := by
  unfold wdv stv
  rw [cut_rowv _ _ _ _ (by omega)]
  refine rowv_congr _ _ _ fun j hj => ?_
  unfold Wd.at
  rw [if_neg (by omega), if_neg (by omega), if_pos (by omega), show 2 + j - 2 = j by omega]
@[go_sem] theorem cut_wd_mb (x : Wd)  : cutD (wdv x) 2 9 = mbv x.st.mb := by
  unfold wdv mbv
  rw [cut_rowv _ _ _ _ (by omega)]
  refine rowv_congr _ _ _ fun j hj => ?_
  unfold Wd.at
  rw [if_neg (by omega), if_neg (by omega), if_pos (by omega), show 2 + j - 2 = j by omega]
  unfold St.at
  rw [if_pos hj]
@[go_sem] theorem cut_wd_mv (x : Wd)  : cutD (wdv x) 11 96 = lm x.st.mv := by
  unfold wdv lm
  rw [cut_rowv _ _ _ _ (by omega)]
  refine rowv_congr _ _ _ fun j hj => ?_
  unfold Wd.at
  rw [if_neg (by omega), if_neg (by omega), if_pos (by omega), show 11 + j - 2 = j + 9 by omega]
  unfold St.at
  rw [if_neg (by omega), if_pos (by omega), show j + 9 - 9 = j by omega]
@[go_sem] theorem cut_wd_cls (x : Wd)  : cutD (wdv x) 193 198 = clL x.cl := by
  unfold wdv clL
  rw [cut_rowv _ _ _ _ (by omega)]
  refine rowv_congr _ _ _ fun j hj => ?_
  unfold Wd.at
  rw [if_neg (by omega), if_neg (by omega), if_neg (by omega), if_pos (by omega), show 193 + j - 193 = j by omega]
@[go_sem] theorem cut_wd_cl (x : Wd) (i : Nat) (hi : i < 3) : cutD (wdv x) (193 + i * 66) 66 = clv (x.cl i) := by
  unfold wdv clv
  rw [cut_rowv _ _ _ _ (by omega)]
  refine rowv_congr _ _ _ fun j hj => ?_
  unfold Wd.at
  rw [if_neg (by omega), if_neg (by omega), if_neg (by omega), if_pos (by omega), show (193 + i * 66 + j - 193) / 66 = i by omega, show (193 + i * 66 + j - 193) % 66 = j by omega]
@[go_sem] theorem cut_wd_ags (x : Wd)  : cutD (wdv x) 391 402 = agL x.ag := by
  unfold wdv agL
  rw [cut_rowv _ _ _ _ (by omega)]
  refine rowv_congr _ _ _ fun j hj => ?_
  unfold Wd.at
  rw [if_neg (by omega), if_neg (by omega), if_neg (by omega), if_neg (by omega), if_pos (by omega), show 391 + j - 391 = j by omega]
@[go_sem] theorem cut_wd_ag (x : Wd) (i : Nat) (hi : i < 6) : cutD (wdv x) (391 + i * 67) 67 = agv (x.ag i) := by
  unfold wdv agv
  rw [cut_rowv _ _ _ _ (by omega)]
  refine rowv_congr _ _ _ fun j hj => ?_
  unfold Wd.at
  rw [if_neg (by omega), if_neg (by omega), if_neg (by omega), if_neg (by omega), if_pos (by omega), show (391 + i * 67 + j - 391) / 67 = i by omega, show (391 + i * 67 + j - 391) % 67 = j by omega]
@[go_sem] theorem cut_st_mb (s : St)  : cutD (stv s) 0 9 = mbv s.mb := by
  unfold stv mbv
  rw [cut_rowv _ _ _ _ (by omega)]
  refine rowv_congr _ _ _ fun j hj => ?_
  unfold St.at
  rw [Nat.zero_add, if_pos hj]
@[go_sem] theorem cut_st_mv (s : St)  : cutD (stv s) 9 96 = lm s.mv := by
  unfold stv lm
  rw [cut_rowv _ _ _ _ (by omega)]
  refine rowv_congr _ _ _ fun j hj => ?_
  unfold St.at
  rw [if_neg (by omega), if_pos (by omega), show 9 + j - 9 = j by omega]
@[go_sem] theorem cut_st_t (s : St)  : cutD (stv s) 105 65 = tbv s.t := by
  unfold stv tbv
  rw [cut_rowv _ _ _ _ (by omega)]
  refine rowv_congr _ _ _ fun j hj => ?_
  unfold St.at
  rw [if_neg (by omega), if_neg (by omega), if_pos (by omega), show 105 + j - 105 = j by omega]
@[go_sem] theorem cut_tb_rows (t : Tb)  : cutD (tbv t) 1 64 = enL t.rows := by
  unfold tbv enL
  rw [cut_rowv _ _ _ _ (by omega)]
  refine rowv_congr _ _ _ fun j hj => ?_
  unfold Tb.at
  rw [if_neg (by omega), show 1 + j - 1 = j by omega]
@[go_sem] theorem cut_cl_t (c : Cl)  : cutD (clv c) 1 65 = tbv c.t := by
  unfold clv tbv
  rw [cut_rowv _ _ _ _ (by omega)]
  refine rowv_congr _ _ _ fun j hj => ?_
  unfold Cl.at
  rw [if_neg (by omega), show 1 + j - 1 = j by omega]
@[go_sem] theorem cut_ags_ag (l : Nat → Ag) (i : Nat) (hi : i < 6) : cutD (agL l) (i * 67) 67 = agv (l i) := by
  unfold agL agv
  rw [cut_rowv _ _ _ _ (by omega)]
  refine rowv_congr _ _ _ fun j hj => ?_
  rw [show (i * 67 + j) / 67 = i by omega, show (i * 67 + j) % 67 = j by omega]
@[go_sem] theorem cut_cls_cl (l : Nat → Cl) (i : Nat) (hi : i < 3) : cutD (clL l) (i * 66) 66 = clv (l i) := by
  unfold clL clv
  rw [cut_rowv _ _ _ _ (by omega)]
  refine rowv_congr _ _ _ fun j hj => ?_
  rw [show (i * 66 + j) / 66 = i by omega, show (i * 66 + j) % 66 = j by omega]
@[go_sem] theorem cut_ag_mds (a : Ag)  : cutD (agv a) 2 64 = mdL a.md := by
  unfold agv mdL
  rw [cut_rowv _ _ _ _ (by omega)]
  refine rowv_congr _ _ _ fun j hj => ?_
  unfold Ag.at
  rw [if_neg (by omega), if_neg (by omega), if_pos (by omega), show 2 + j - 2 = j by omega]
@[go_sem] theorem cut_ag_md (a : Ag) (k : Nat) (hk : k < 16) : cutD (agv a) (2 + k * 4) 4 = mdv (a.md k) := by
  unfold agv mdv
  rw [cut_rowv _ _ _ _ (by omega)]
  refine rowv_congr _ _ _ fun j hj => ?_
  unfold Ag.at
  rw [if_neg (by omega), if_neg (by omega), if_pos (by omega), show (2 + k * 4 + j - 2) / 4 = k by omega, show (2 + k * 4 + j - 2) % 4 = j by omega]
@[go_sem] theorem cut_wd_md (x : Wd) (i k : Nat) (hi : i < 6) (hk : k < 16) : cutD (wdv x) (391 + i * 67 + 2 + k * 4) 4 = mdv ((x.ag i).md k) := by
  unfold wdv mdv
  rw [cut_rowv _ _ _ _ (by omega)]
  refine rowv_congr _ _ _ fun j hj => ?_
  unfold Wd.at
  rw [if_neg (by omega), if_neg (by omega), if_neg (by omega), if_neg (by omega), if_pos (by omega), show (391 + i * 67 + 2 + k * 4 + j - 391) / 67 = i by omega, show (391 + i * 67 + 2 + k * 4 + j - 391) % 67 = 2 + k * 4 + j by omega]
  unfold Ag.at
  rw [if_neg (by omega), if_neg (by omega), if_pos (by omega), show (2 + k * 4 + j - 2) / 4 = k by omega, show (2 + k * 4 + j - 2) % 4 = j by omega]
@[go_sem] theorem get_md0 (m : Md) : (mdv m)[0]? = some (.int .u8 m.kind) := by
  unfold mdv
  rw [get_rowv, if_pos (by omega)]
  simp [Md.at, En.at, Ag.at]
@[go_sem] theorem get_md1 (m : Md) : (mdv m)[1]? = some (.int .i64 m.peer) := by
  unfold mdv
  rw [get_rowv, if_pos (by omega)]
  simp [Md.at, En.at, Ag.at]
@[go_sem] theorem get_md2 (m : Md) : (mdv m)[2]? = some (.int .i64 m.gen) := by
  unfold mdv
  rw [get_rowv, if_pos (by omega)]
  simp [Md.at, En.at, Ag.at]
@[go_sem] theorem get_md3 (m : Md) : (mdv m)[3]? = some (.bool m.ret) := by
  unfold mdv
  rw [get_rowv, if_pos (by omega)]
  simp [Md.at, En.at, Ag.at]
@[go_sem] theorem get_en0 (e : En) : (env e)[0]? = some (.int .i64 e.cur) := by
  unfold env
  rw [get_rowv, if_pos (by omega)]
  simp [Md.at, En.at, Ag.at]
@[go_sem] theorem get_en1 (e : En) : (env e)[1]? = some (.int .i64 e.prev) := by
  unfold env
  rw [get_rowv, if_pos (by omega)]
  simp [Md.at, En.at, Ag.at]
@[go_sem] theorem get_en2 (e : En) : (env e)[2]? = some (.int .i64 e.gen) := by
  unfold env
  rw [get_rowv, if_pos (by omega)]
  simp [Md.at, En.at, Ag.at]
@[go_sem] theorem get_en3 (e : En) : (env e)[3]? = some (.int .i64 e.tick) := by
  unfold env
  rw [get_rowv, if_pos (by omega)]
  simp [Md.at, En.at, Ag.at]
@[go_sem] theorem get_ag_id (a : Ag) : (agv a)[0]? = some (.int .i64 a.id) := by
  unfold agv
  rw [get_rowv, if_pos (by omega)]
  simp [Md.at, En.at, Ag.at]
@[go_sem] theorem get_ag_idle (a : Ag) : (agv a)[1]? = some (.int .i64 a.idle) := by
  unfold agv
  rw [get_rowv, if_pos (by omega)]
  simp [Md.at, En.at, Ag.at]
@[go_sem] theorem get_ag_conns (a : Ag) : (agv a)[66]? = some (.slice a.p a.xs.length a.c) := by
  unfold agv
  rw [get_rowv, if_pos (by omega)]
  simp [Md.at, En.at, Ag.at]

end Go.Proofs.Ytedamnocolfmlaa
