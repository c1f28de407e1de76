/- Lemmas of this claim, put together out of: A, V, V2, V4, X, C1, C2, C3, C4, Z, Z2, XR. -/
import Derived.Test.YtookffaojlkfaaaProg
import Derived.ScopeJumps
import Derived.Lib.Hide
import Derived.Deep.DeepFit
import Derived.Deep.DeepCutAuto
import Derived.WalkKit
import Derived.WalkSpells
import Derived.WalkLawsBesides
import Derived.Deep.QuietTactic
import Derived.BigQuiet
import Derived.Deep.RegionWith
import Derived.Deep.RegionHeld3
import Derived.RangeFuncNested
import Derived.Deep.MidRow
import Derived.Deep.Quiet
import Derived.Shelf.Abstract
import Derived.Maps.AppendAt
import Derived.OwnWalkIn
import Derived.TacticsInMore
import Derived.RangeFuncOne
import Derived.RangeFuncBound
import Derived.Deep.AppendLies
import Derived.RegionIn
set_option linter.unusedSimpArgs false
set_option linter.unusedVariables false
/- Small lemmas on worlds and scopes that the walks of this seat share. -/
namespace Go.Proofs.Ytookffaojlkfaaa
open Go.RowKit

theorem wp_scope_fwd {P : Program} {a : Act} {w : World} {Q : Exit → Act → World → Prop} {c rest : Code} (l : Nat) (hf : findLabel c l = some rest)
    (first : c.wp P (Exit.jump l (fun a w => rest.wp P (Exit.noGoto Q) a w) Q) a w) : (Code.scope c).wp P Q a w := by
  refine wp_scope_jumps l _ (fun _ _ => 0) hf first ?_
  intro a w h
  refine wp_mono h ?_
  intro e a w q
  cases e <;> first | exact q | exact q.elim

/-- Block b lies in the world W. -/
def Lt (b : Nat) (W : World) : Prop := b < W.heap.size

section
variable {W : World} {b : Nat}
@[go_sem] theorem Lt_alloc (o : Obj) : Lt b (W.alloc o) = (b = W.heap.size ∨ Lt b W) := by
  unfold Lt; simp; omega
@[go_sem] theorem Lt_setCell (a : Addr) (v : Value) : Lt b (W.setCell a v) = Lt b W := by unfold Lt; simp [World.setCell]
@[go_sem] theorem Lt_drew : Lt b W.drew = Lt b W := rfl
@[go_sem] theorem Lt_drewN (n : Nat) : Lt b (W.drewN n) = Lt b W := rfl
@[go_sem] theorem cell_alloc_Lt (h : Lt b W) (o : Obj) (i : Nat) : (W.alloc o).cell? ⟨b, i, none⟩ = W.cell? ⟨b, i, none⟩ := World.cell?_alloc_past _ _ _ h
@[go_sem] theorem frozen_alloc_Lt (h : Lt b W) (o : Obj) (i : Nat) : (W.alloc o).frozen? ⟨b, i, none⟩ = W.frozen? ⟨b, i, none⟩ := World.frozen?_alloc_past _ _ _ h
@[go_sem] theorem Lt_ne (h : Lt b W) : (b = W.heap.size) = False := by unfold Lt at h; simp; omega
@[go_sem] theorem Lt_ne' (h : Lt b W) : (W.heap.size = b) = False := by unfold Lt at h; simp; omega
@[go_sem] theorem Lt_ne1 (h : Lt b W) : (b = W.heap.size + 1) = False := by unfold Lt at h; simp; omega
@[go_sem] theorem Lt_ne1' (h : Lt b W) : (W.heap.size + 1 = b) = False := by unfold Lt at h; simp; omega
@[go_sem] theorem Lt_ne2 (h : Lt b W) : (b = W.heap.size + 1 + 1) = False := by unfold Lt at h; simp; omega
@[go_sem] theorem Lt_ne2' (h : Lt b W) : (W.heap.size + 1 + 1 = b) = False := by unfold Lt at h; simp; omega
end

/-- The same as cell?, frozen?, Lt, for what is not known of a world. -/
def cellX (w : World) (b o : Nat) : Option Value := w.cell? ⟨b, o, none⟩
def frozenX (w : World) (b o : Nat) : Bool := w.frozen? ⟨b, o, none⟩
def LtX (b : Nat) (w : World) : Prop := b < w.heap.size

open Classical in
/-- W is kept in w', a world that is a letter: rules without conditions. -/
abbrev Kept (W w' : World) : Prop := (∀ b o, w'.cell? ⟨b, o, none⟩ = if Lt b W then W.cell? ⟨b, o, none⟩ else cellX w' b o) ∧ (∀ b o, w'.frozen? ⟨b, o, none⟩ = if Lt b W then W.frozen? ⟨b, o, none⟩ else frozenX w' b o) ∧ (∀ b, Lt b w' = (Lt b W ∨ LtX b w')) ∧ W.heap.size ≤ w'.heap.size ∧ Below W.heap.size W w'

theorem kept {W w' : World} (h : Below W.heap.size W w') : Kept W w' := by
  refine ⟨fun b o => ?_, fun b o => ?_, fun b => ?_, h.size, h⟩
  · split
    · exact h.cell (p := ⟨b, o, none⟩) ‹Lt b W›
    · rfl
  · split
    · exact h.frozen (p := ⟨b, o, none⟩) ‹Lt b W›
    · rfl
  · unfold Lt LtX
    have := h.size
    simp only [eq_iff_iff]
    omega

/-- W is kept in w', any world: rules under a condition. -/
abbrev Up (W w' : World) : Prop := (∀ b o, Lt b W → w'.cell? ⟨b, o, none⟩ = W.cell? ⟨b, o, none⟩) ∧ (∀ b o, Lt b W → w'.frozen? ⟨b, o, none⟩ = W.frozen? ⟨b, o, none⟩) ∧ (∀ b, Lt b W → Lt b w') ∧ W.heap.size ≤ w'.heap.size ∧ Below W.heap.size W w'

theorem up {W w' : World} (h : Below W.heap.size W w') : Up W w' :=
  ⟨fun b o hb => h.cell (p := ⟨b, o, none⟩) hb, fun b o hb => h.frozen (p := ⟨b, o, none⟩) hb, fun _ hb => Nat.lt_of_lt_of_le hb h.size, h.size, h⟩
theorem Up.start (W : World) : Up W W.drew := up ((Below.refl _ _).drew)
theorem Up.next {W w1 w2 : World} (h : Up W w1) (hb : Below w1.heap.size w1 w2) : Up W w2 := up (h.2.2.2.2.trans (hb.mono h.2.2.2.2.size))

theorem Up.al {W w1 : World} (h : Up W w1) (o : Obj) : Up W (w1.alloc o) := up (Below.alloc h.2.2.2.2 h.2.2.2.1 o)
theorem Up.dr {W w1 : World} (h : Up W w1) : Up W w1.drew := up (Below.drew h.2.2.2.2)
theorem Up.st {W w1 : World} (h : Up W w1) {p : Addr} (v : Value) (hp : W.heap.size ≤ p.block) : Up W (w1.setCell p v) := up (Below.setCell h.2.2.2.2 hp v)

theorem Up.st4 {W w1 : World} (h : Up W w1) {b o1 o2 o3 o4 : Nat} {v1 v2 v3 v4 : Value} (hp : W.heap.size ≤ b) : Up W ((((w1.setCell ⟨b, o1, none⟩ v1).setCell ⟨b, o2, none⟩ v2).setCell ⟨b, o3, none⟩ v3).setCell ⟨b, o4, none⟩ v4) :=
  Up.st (Up.st (Up.st (Up.st h _ hp) _ hp) _ hp) _ hp

/-- Only blocks from the size of w on are new, or written. -/
abbrev Ext (w w' : World) : Prop := Below w.heap.size w w'
theorem Ext.rf (w : World) : Ext w w := Below.refl _ _
theorem Ext.al {w W : World} (h : Ext w W) (o : Obj) : Ext w (W.alloc o) := Below.alloc h h.size o
theorem Ext.dr {w W : World} (h : Ext w W) : Ext w W.drew := Below.drew h
theorem Ext.dn {w W : World} (h : Ext w W) (n : Nat) : Ext w (W.drewN n) := ⟨h.os, h.tape, h.output, h.size, h.block⟩
theorem Ext.st {w W : World} {p : Addr} (v : Value) (hp : w.heap.size ≤ p.block) (h : Ext w W) : Ext w (W.setCell p v) := Below.setCell h hp v
theorem Ext.tr {w W W' : World} (h : Ext w W) (hb : Ext W W') : Ext w W' := h.trans (hb.mono h.size)
theorem up_ext {W w' : World} (h : Up W w') : Ext W w' := h.2.2.2.2
theorem Ext.of {w W W' : World} (e : Hid (W = W')) (h : Ext w W') : Ext w W := by rw [e.out]; exact h

theorem wp_named {P : Program} {c : Code} {Q : Exit → Act → World → Prop} {a : Act} {w : World}
    (h : ∀ W : World, (∀ b o, W.cell? ⟨b, o, none⟩ = w.cell? ⟨b, o, none⟩) → (∀ b o, W.frozen? ⟨b, o, none⟩ = w.frozen? ⟨b, o, none⟩) → (∀ b, Lt b W = Lt b w) → W.heap.size = w.heap.size → Hid (W = w) → c.wp P Q a W) : c.wp P Q a w :=
  h w (fun _ _ => rfl) (fun _ _ => rfl) (fun _ => rfl) rfl rfl

theorem ret_bool {a b : Bool} (h : a = b) : Ending.returned (.bool a) = .returned (.bool b) := by rw [h]


theorem ret_bool2 {v : Value} {a b : Bool} (h : a = b) : Ending.returned (.tuple #[v, .bool a]) = .returned (.tuple #[v, .bool b]) := by rw [h]

end Go.Proofs.Ytookffaojlkfaaa

/- Rows of cells, whole. -/
namespace Go.Proofs.Ytookffaojlkfaaa
open Go.RowKit
def upd {α : Type} (f : Nat → α) (k : Nat) (v : α) : Nat → α := fun i => if i = k then v else f i

/-- An array's cells: n of them, the i-th is f i. -/
def rowv (n : Nat) (f : Nat → Value) : Array Value := Array.ofFn (n := n) fun i => f i.1
@[go_sem, simp] theorem size_rowv (n : Nat) (f : Nat → Value) : (rowv n f).size = n := by simp [rowv]
theorem get_rowv (n : Nat) (f : Nat → Value) (i : Nat) : (rowv n f)[i]? = if i < n then some (f i) else none := by
  unfold rowv; simp [Array.getElem?_ofFn]
theorem set_rowv (n : Nat) (f : Nat → Value) (k : Nat) (v : Value) : (rowv n f).setIfInBounds k v = rowv n (upd f k v) := by
  apply Array.ext (by simp)
  intro i h1 h2
  simp only [rowv, upd, Array.getElem_setIfInBounds, Array.getElem_ofFn]
  by_cases h : k = i
  · subst h; simp
  · rw [if_neg (fun e => h e.symm), Array.getElem_setIfInBounds_ne (by simpa [rowv] using h1) h]; simp
theorem rowv_congr (n : Nat) (f g : Nat → Value) (h : ∀ i, i < n → f i = g i) : rowv n f = rowv n g := by
  apply Array.ext (by simp)
  intro i h1 h2
  simp at h1
  simp [rowv, h i h1]

/-- The cells of a block, if it is one of cells. -/
def rowD (w : World) (b : Nat) : Array Value := match w.heap[b]? with | some (.cells cs _ _) => cs | _ => #[]
theorem rowD_new (w : World) (cs : Array Value) (t : TypeId) (fr : Nat × Nat) : rowD (w.alloc (.cells cs t fr)) w.heap.size = cs := by
  unfold rowD; rw [World.alloc_heap_new]
theorem rowD_old (w : World) (o : Obj) (b : Nat) (h : b < w.heap.size) : rowD (w.alloc o) b = rowD w b := by
  unfold rowD; rw [Below.heap_alloc w o b h]
theorem rowD_same {w w' : World} {b : Nat} (h : w'.heap[b]? = w.heap[b]?) : rowD w' b = rowD w b := by unfold rowD; rw [h]
theorem cell_rowD (w : World) (b i : Nat) : w.cell? ⟨b, i, none⟩ = (rowD w b)[i]? := by
  unfold rowD World.cell?
  cases h : w.heap[b]? with
  | none => simp
  | some o => cases o <;> simp
theorem rowD_setCell (w : World) (b i : Nat) (v : Value) (b' : Nat) : rowD (w.setCell ⟨b, i, none⟩ v) b' = if b' = b then (rowD w b).setIfInBounds i v else rowD w b' := by
  unfold rowD World.setCell
  simp only [Array.getElem?_modify]
  by_cases h : b' = b
  · subst h
    simp only [if_true]
    cases hh : w.heap[b']? with
    | none => simp
    | some o => cases o <;> simp
  · rw [if_neg (fun e => h e.symm), if_neg h]

end Go.Proofs.Ytookffaojlkfaaa

/- Blocks of cells: whole stores, frozen ranges, what is kept by calls. -/
namespace Go.Proofs.Ytookffaojlkfaaa
open Go.RowKit

/-- The frozen range of a block of cells. -/
def frzD (w : World) (b : Nat) : Nat × Nat := match w.heap[b]? with | some (.cells _ _ fr) => fr | _ => (0, 0)
theorem frozen_frzD (w : World) (b i : Nat) : w.frozen? ⟨b, i, none⟩ = (decide ((frzD w b).1 ≤ i) && decide (i < (frzD w b).2)) := by
  unfold frzD World.frozen?
  cases h : w.heap[b]? with
  | none => simp
  | some o => cases o <;> simp
theorem frozen_of_frz {w : World} {b : Nat} (h : frzD w b = (0, 0)) (i : Nat) : w.frozen? ⟨b, i, none⟩ = false := by rw [frozen_frzD, h]; simp
@[go_sem] theorem frzD_alloc (w : World) (cs : Array Value) (t : TypeId) (b : Nat) : frzD (w.alloc (.cells cs t)) b = if b = w.heap.size then (0, 0) else frzD w b := by
  by_cases h : b = w.heap.size
  · subst h; rw [if_pos rfl]; unfold frzD; rw [World.alloc_heap_new]
  · rw [if_neg h]; unfold frzD
    by_cases h2 : b < w.heap.size
    · rw [Below.heap_alloc _ _ _ h2]
    · rw [Array.getElem?_eq_none (by simp; omega), Array.getElem?_eq_none (by omega)]
@[go_sem] theorem frzD_drew (w : World) (b : Nat) : frzD w.drew b = frzD w b := rfl
@[go_sem] theorem frzD_drewN (w : World) (n b : Nat) : frzD (w.drewN n) b = frzD w b := rfl
@[go_sem] theorem frzD_setCell (w : World) (b' i : Nat) (v : Value) (b : Nat) : frzD (w.setCell ⟨b', i, none⟩ v) b = frzD w b := by
  unfold frzD World.setCell
  simp only [Array.getElem?_modify]
  by_cases h : b' = b
  · subst h
    simp only [if_true]
    cases hh : w.heap[b']? with
    | none => simp
    | some o => cases o <;> simp
  · rw [if_neg h]
@[go_sem] theorem rowD_alloc (w : World) (cs : Array Value) (t : TypeId) (b : Nat) : rowD (w.alloc (.cells cs t)) b = if b = w.heap.size then cs else rowD w b := by
  by_cases h : b = w.heap.size
  · subst h; rw [rowD_new]; simp
  · rw [if_neg h]; unfold rowD
    by_cases h2 : b < w.heap.size
    · rw [Below.heap_alloc _ _ _ h2]
    · rw [Array.getElem?_eq_none (by simp; omega), Array.getElem?_eq_none (by omega)]
@[go_sem] theorem rowD_drew (w : World) (b : Nat) : rowD w.drew b = rowD w b := rfl
@[go_sem] theorem rowD_drewN (w : World) (n b : Nat) : rowD (w.drewN n) b = rowD w b := rfl
attribute [go_sem] rowD_setCell

/-- A whole row is stored into the block b. -/
def setRow (w : World) (b : Nat) (cs : Array Value) : World := w.setCells b 0 cs.toList
theorem setCells_shape (b : Nat) : ∀ (vs : List Value) (o : Nat) (w : World), (w.setCells b o vs).heap.size = w.heap.size ∧ (∀ k, k ≠ b → (w.setCells b o vs).heap[k]? = w.heap[k]?) ∧ (w.setCells b o vs).os = w.os ∧ (w.setCells b o vs).tape = w.tape ∧ (w.setCells b o vs).output = w.output ∧ frzD (w.setCells b o vs) b = frzD w b
  | [], _, _ => ⟨rfl, fun _ _ => rfl, rfl, rfl, rfl, rfl⟩
  | v :: r, o, w => by
    rw [World.setCells]
    obtain ⟨h1, h2, h3, h4, h5, h6⟩ := setCells_shape b r (o + 1) (w.setCell ⟨b, o, none⟩ v)
    refine ⟨by rw [h1]; simp [World.setCell], fun k hk => ?_, h3, h4, h5, by rw [h6, frzD_setCell]⟩
    rw [h2 k hk]
    simp only [World.setCell, Array.getElem?_modify]
    rw [if_neg (fun e => hk e.symm)]
@[go_sem] theorem size_setRow (w : World) (b : Nat) (cs : Array Value) : (setRow w b cs).heap.size = w.heap.size := (setCells_shape b _ 0 w).1
theorem heap_setRow (w : World) (b : Nat) (cs : Array Value) (k : Nat) (h : k ≠ b) : (setRow w b cs).heap[k]? = w.heap[k]? := (setCells_shape b _ 0 w).2.1 k h
theorem rowD_setCells (b : Nat) : ∀ (vs : List Value) (o : Nat) (w : World), rowD (w.setCells b o vs) b = (vs.zipIdx o).foldl (fun cs x => cs.setIfInBounds x.2 x.1) (rowD w b)
  | [], _, _ => rfl
  | v :: r, o, w => by
    rw [World.setCells, rowD_setCells b r (o + 1), rowD_setCell, if_pos rfl]
    rfl
theorem setAll_get (vs : List Value) : ∀ (o : Nat) (cs : Array Value) (i : Nat), ((vs.zipIdx o).foldl (fun cs x => cs.setIfInBounds x.2 x.1) cs)[i]? = if o ≤ i ∧ i < o + vs.length ∧ i < cs.size then vs[i - o]? else cs[i]? := by
  induction vs with
  | nil => intro o cs i; rw [if_neg (by simp; omega)]; rfl
  | cons v r ih =>
    intro o cs i
    simp only [List.zipIdx_cons, List.foldl_cons]
    rw [ih]
    by_cases h0 : i = o
    · subst h0
      rw [if_neg (by omega)]
      by_cases hs : i < cs.size
      · rw [if_pos ⟨Nat.le_refl _, by simp, hs⟩]; simp [hs]
      · rw [if_neg (by omega), Array.getElem?_eq_none (by simpa using hs), Array.getElem?_eq_none (by omega)]
    · rw [Array.getElem?_setIfInBounds_ne (fun e => h0 e.symm)]
      simp only [Array.size_setIfInBounds, List.length_cons]
      by_cases h : o + 1 ≤ i ∧ i < o + 1 + r.length ∧ i < cs.size
      · rw [if_pos h, if_pos (by omega)]
        obtain ⟨k, rfl⟩ : ∃ k, i = o + 1 + k := ⟨i - (o + 1), by omega⟩
        rw [show o + 1 + k - (o + 1) = k by omega, show o + 1 + k - o = k + 1 by omega, List.getElem?_cons_succ]
      · rw [if_neg h, if_neg (by omega)]
theorem rowD_setRow_same (w : World) (b : Nat) (cs : Array Value) (h : (rowD w b).size = cs.size) : rowD (setRow w b cs) b = cs := by
  unfold setRow
  rw [rowD_setCells]
  apply Array.ext_getElem?
  intro i
  rw [setAll_get]
  by_cases hi : i < cs.size
  · rw [if_pos ⟨Nat.zero_le _, by simpa using hi, by omega⟩]; simp
  · rw [if_neg (by simp; omega), Array.getElem?_eq_none (by omega), Array.getElem?_eq_none (by omega)]
theorem rowD_setRow_other (w : World) (b b' : Nat) (cs : Array Value) (h : b' ≠ b) : rowD (setRow w b cs) b' = rowD w b' := rowD_same (heap_setRow w b cs b' h)
open Classical in
@[go_sem] theorem rowD_setRow (w : World) (b b' : Nat) (cs : Array Value) : rowD (setRow w b cs) b' = if b' = b then (if (rowD w b).size = cs.size then cs else rowD (setRow w b cs) b) else rowD w b' := by
  by_cases h : b' = b
  · subst h; rw [if_pos rfl]; split
    · exact rowD_setRow_same _ _ _ ‹_›
    · rfl
  · rw [if_neg h, rowD_setRow_other _ _ _ _ h]
@[go_sem] theorem frzD_setRow (w : World) (b b' : Nat) (cs : Array Value) : frzD (setRow w b cs) b' = frzD w b' := by
  by_cases h : b' = b
  · subst h; exact (setCells_shape b' _ 0 w).2.2.2.2.2
  · unfold frzD; rw [heap_setRow _ _ _ _ h]
@[go_sem] theorem Lt_setRow (w : World) (b b' : Nat) (cs : Array Value) : Lt b' (setRow w b cs) = Lt b' w := by unfold Lt; rw [size_setRow]
@[go_sem] theorem frozen_setRow (w : World) (b b' i : Nat) (cs : Array Value) : (setRow w b cs).frozen? ⟨b', i, none⟩ = w.frozen? ⟨b', i, none⟩ := by rw [frozen_frzD, frozen_frzD, frzD_setRow]
theorem Ext.sr {w W : World} {b : Nat} (cs : Array Value) (hp : w.heap.size ≤ b) (h : Ext w W) : Ext w (setRow W b cs) :=
  let s := setCells_shape b cs.toList 0 W
  h.trans ⟨s.2.2.1, s.2.2.2.1, s.2.2.2.2.1, by rw [size_setRow]; exact Nat.le_refl _, fun k hk => heap_setRow W b cs k (by omega)⟩

/-- Each is one cell. -/
def oneC (cs : Array Value) : Prop := cs.all (·.oneCell') = true
/-- The block that a pointer leads to. -/
def blkOf : Value → Nat | .pointer (some a) => a.block | _ => 0
@[go_sem] theorem blkOf_ptr (a : Addr) : blkOf (.pointer (some a)) = a.block := rfl
def rowX (w : World) (b : Nat) : Array Value := rowD w b
def frzX (w : World) (b : Nat) : Nat × Nat := frzD w b
open Classical in
/-- W is kept in w', rows too: rules without conditions. -/
abbrev KeptR (W w' : World) : Prop := (∀ b, rowD w' b = if Lt b W then rowD W b else rowX w' b) ∧ (∀ b, frzD w' b = if Lt b W then frzD W b else frzX w' b)
theorem keptR {W w' : World} (h : Below W.heap.size W w') : KeptR W w' := by
  refine ⟨fun b => ?_, fun b => ?_⟩
  · split
    · exact rowD_same (h.block b ‹Lt b W›)
    · rfl
  · split
    · unfold frzD; rw [h.block b ‹Lt b W›]
    · rfl

end Go.Proofs.Ytookffaojlkfaaa

/- Regions that draw their order and whose calls only make new blocks. -/
namespace Go.Proofs.Ytookffaojlkfaaa
open Go.RowKit

/-- The worlds in which W is kept. -/
def Later (W : World) : Type := { w : World // Ext W w }
def later {W : World} (d : Later W) : World := d.1
theorem later_ext {W : World} (d : Later W) : Ext W (later d) := d.2
instance {W : World} : Nonempty (Later W) := ⟨⟨W, Ext.rf W⟩⟩
open Classical in
@[go_sem] theorem cell_later {W : World} (d : Later W) (b o : Nat) : (later d).cell? ⟨b, o, none⟩ = if Lt b W then W.cell? ⟨b, o, none⟩ else cellX (later d) b o := (kept (later_ext d)).1 b o
open Classical in
@[go_sem] theorem frozen_later {W : World} (d : Later W) (b o : Nat) : (later d).frozen? ⟨b, o, none⟩ = if Lt b W then W.frozen? ⟨b, o, none⟩ else frozenX (later d) b o := (kept (later_ext d)).2.1 b o
@[go_sem] theorem Lt_later {W : World} (d : Later W) (b : Nat) : Lt b (later d) = (Lt b W ∨ LtX b (later d)) := (kept (later_ext d)).2.2.1 b
open Classical in
@[go_sem] theorem rowD_later {W : World} (d : Later W) (b : Nat) : rowD (later d) b = if Lt b W then rowD W b else rowX (later d) b := (keptR (later_ext d)).1 b
open Classical in
@[go_sem] theorem frzD_later {W : World} (d : Later W) (b : Nat) : frzD (later d) b = if Lt b W then frzD W b else frzX (later d) b := (keptR (later_ext d)).2 b
/-- A world in which W is kept. -/
def IsLater (W w' : World) : Prop := ∃ d : Later W, w' = later d
@[go_sem ↓ high] theorem quiet_later {P : Program} {o : Oper} {a : Act} {W : World} {K : Act → Prop} :
    Oper.quiet P o a (IsLater W) K = (∃ v, (∀ d : Later W, o.quietAt P a (IsLater W) (later d) v) ∧ K (a.put o.dst v)) := by
  unfold Oper.quiet
  refine propext (exists_congr fun v => and_congr_left' ⟨fun h d => h _ ⟨d, rfl⟩, fun h w hw => ?_⟩)
  obtain ⟨d, rfl⟩ := hw
  exact h d
theorem wp_region_later {P : Program} {id : Nat} {Q : Exit → Act → World → Prop} {a : Act} {w : World} {l : List Oper} (hm : P.follows .mixedOrders = true) (hB : Region.lexB .any l.toArray = true)
    (h : wpQuiet P l.toArray (IsLater w) (fun a' => ∀ d : Later w, Q .normal a' (later d)) l a) : (Code.region id l.toArray true).wp P Q a w :=
 by
  refine wp_region_quiet (C := IsLater w) hm hB ⟨⟨w.drew, Ext.dr (Ext.rf w)⟩, rfl⟩ ?_
  have e : (fun a' => ∀ w', IsLater w w' → Q .normal a' w') = (fun a' => ∀ d : Later w, Q .normal a' (later d)) := by
    funext a'
    exact propext ⟨fun h d => h _ ⟨d, rfl⟩, fun h w' ⟨d, hd⟩ => by rw [hd]; exact h d⟩
  rw [e]
  simpa using h
theorem calls_later {P : Program} {f : FuncId} {args : Array Value} {W : World} {d : Later W} {v : Value} (h : Calls P f args (later d) fun e w' => e = .returned v ∧ Ext (later d) w') :
    Calls P f args (later d) fun e w'' => e = .returned v ∧ IsLater W w'' :=
  h.mono fun _ w' ⟨he, hx⟩ => ⟨he, ⟨w', (later_ext d).tr hx⟩, rfl⟩
theorem calls_later_same {P : Program} {f : FuncId} {args : Array Value} {W : World} {d : Later W} {v : Value} (h : Calls P f args (later d) fun e w' => e = .returned v ∧ later d = w') :
    Calls P f args (later d) fun e w'' => e = .returned v ∧ IsLater W w'' :=
  h.mono fun _ w' ⟨he, hx⟩ => ⟨he, d, hx.symm⟩

end Go.Proofs.Ytookffaojlkfaaa

/- A region that draws: what reads, and calls that leave the world as it was, are taken first. (My own law; any program.) -/
namespace Go.Proofs.Ytookffaojlkfaaa
open Go.RowKit

section
variable {P : Program} {ops : Array Oper} {md : Region.Mode}
def xUpon (P : Program) (N : Value → World → Prop) : Result Next → Prop
  | .ok (.value u) w' => N u w'
  | .ok .skip w' => N undef w'
  | .ok (.enter f args) w' => Calls P f args w' (fun e w'' => ∃ v, e = .returned v ∧ N v w'')
  | _ => False
theorem xUpon_mono {N N' : Value → World → Prop} (h : ∀ v w, N v w → N' v w) : ∀ r : Result Next, xUpon P N r → xUpon P N' r
  | .ok (.value u) w', hh => h _ _ hh
  | .ok .skip w', hh => h _ _ hh
  | .ok (.enter f args) w', hh => Calls.mono hh fun e w'' ⟨v, h1, h2⟩ => ⟨v, h1, h _ _ h2⟩
def xOp (P : Program) (ops : Array Oper) (i : Nat) (K : Act → World → Prop) (a : Act) (w : World) : Prop :=
  match ops[i]? with
  | none => K a w
  | some o => if Region.wanted o (yielded ops a.tmps) = true then xUpon P (fun v w' => K (a.put o.dst v) w') ((execOp a.eval o).run P w) else K (a.put o.dst undef) w
theorem xOp_mono {i : Nat} {a : Act} {w : World} {K K' : Act → World → Prop} (h : ∀ a w, K a w → K' a w) (hh : xOp P ops i K a w) : xOp P ops i K' a w := by
  unfold xOp at *
  split
  · exact h _ _ (by simpa [*] using hh)
  · rename_i o ho
    simp only [ho] at hh
    split
    · rename_i hw; simp only [hw, if_true] at hh; exact xUpon_mono (fun v w' h1 => h _ _ h1) _ hh
    · rename_i hw; simp only [hw] at hh; exact h _ _ hh
theorem wpOp_of_xOp {i : Nat} {a : Act} {w : World} {K : Act → World → Prop} {Q : Exit → Act → World → Prop} (hh : xOp P ops i K a w) : wpOp P ops Q i K a w := by
  unfold xOp at hh
  unfold wpOp
  split
  · rename_i ho; simp only [ho] at hh; exact hh
  · rename_i o ho
    simp only [ho] at hh
    split
    · rename_i hw
      simp only [hw, if_true] at hh
      left
      unfold Oper.wp
      generalize (execOp a.eval o).run P w = r at *
      cases r with
      | ok n w' =>
        cases n <;> simp only [xUpon] at hh <;> simp only [Oper.upon]
        case value u => exact hh
        case skip => exact hh
        case enter f args => exact hh.mono fun e w'' ⟨v, he, hw''⟩ => by subst he; exact hw''
      | halt x w' => simp only [xUpon] at hh
    · rename_i hw; simp only [hw] at hh; exact hh
/-- Whatever order is picked from here on; each operation makes new blocks alone. -/
def wpAnyX (P : Program) (md : Region.Mode) (ops : Array Oper) (Q : Act → World → Prop) : Nat → Array Bool → Act → World → Prop
  | 0, listed, a, w => Region.ready md ops listed = [] ∧ Q a w
  | fuel + 1, listed, a, w => (Region.ready md ops listed = [] → Q a w) ∧
    ∀ i ∈ Region.ready md ops listed, xOp P ops i (fun a' w' => Ext w w' ∧ wpAnyX P md ops Q fuel (listed.setIfInBounds i true) a' w') a w
theorem wpAny_of_X {Q : Act → World → Prop} {Q' : Exit → Act → World → Prop} (hQ : ∀ a w, Q a w → Q' .normal a w) : ∀ (fuel : Nat) (listed : Array Bool) (a : Act) (w : World),
    wpAnyX P md ops Q fuel listed a w → wpAny P md ops Q' fuel listed a w
  | 0, _, _, _, h => ⟨h.1, hQ _ _ h.2⟩
  | fuel + 1, _, _, _, h => ⟨fun h0 => hQ _ _ (h.1 h0), fun i hi => wpOp_of_xOp (xOp_mono (fun a' w' h1 => wpAny_of_X hQ fuel _ a' w' h1.2) (h.2 i hi))⟩
/-- In state 'a', in every world that w grows to, 'o' yields v and does nothing else. -/
def YieldsX (P : Program) (ops : Array Oper) (w : World) (o : Oper) (v : Value) (a : Act) : Prop :=
  (Region.wanted o (yielded ops a.tmps) = true ∧ ∀ w', Ext w w' → (execOp a.eval o).run P w' = .ok (.value v) w') ∨ (Region.wanted o (yielded ops a.tmps) = false ∧ v = undef) ∨
    (Region.wanted o (yielded ops a.tmps) = true ∧ ∃ f args, ∀ w', Ext w w' → (execOp a.eval o).run P w' = .ok (.enter f args) w' ∧ Calls P f args w' fun e w'' => e = .returned v ∧ w'' = w')
theorem YieldsX.later {w w' : World} {o : Oper} {v : Value} {a : Act} (h : YieldsX P ops w o v a) (e : Ext w w') : YieldsX P ops w' o v a := by
  rcases h with ⟨h1, h2⟩ | h | ⟨h1, f, args, h2⟩
  · exact .inl ⟨h1, fun w2 e2 => h2 w2 (e.tr e2)⟩
  · exact .inr (.inl h)
  · exact .inr (.inr ⟨h1, f, args, fun w2 e2 => h2 w2 (e.tr e2)⟩)
theorem YieldsX.xOp {w : World} {i : Nat} {o : Oper} {v : Value} {a : Act} (hi : ops[i]? = some o) (hy : YieldsX P ops w o v a) {K : Act → World → Prop} (h : K (a.put o.dst v) w) : xOp P ops i K a w := by
  unfold Go.Proofs.Ytookffaojlkfaaa.xOp
  simp only [hi]
  rcases hy with ⟨hw, hv⟩ | ⟨hw, rfl⟩ | ⟨hw, f, args, hv⟩
  · simp only [hw, if_true, hv w (Ext.rf _), xUpon]; exact h
  · simp only [hw, Bool.false_eq_true, if_false]; exact h
  · simp only [hw, if_true, (hv w (Ext.rf _)).1, xUpon]
    exact (hv w (Ext.rf _)).2.mono fun e w'' ⟨h1, h2⟩ => ⟨v, h1, by rw [h2]; exact h⟩
theorem xOp_put {j : Nat} {oi oj : Oper} {v : Value} {w : World} (hj : ops[j]? = some oj) (hap : oi.apart ops oj = true)
    (hsi : ∀ cs b, oi.op ≠ .select cs b) (hsj : ∀ cs b, oj.op ≠ .select cs b) {K : Act → World → Prop} {a : Act}
    (hy : YieldsX P ops w oi v a) (h : xOp P ops j K (a.put oi.dst v) w) :
    xOp P ops j (fun a' w' => YieldsX P ops w oi v a' ∧ K (a'.put oi.dst v) w') a w := by
  obtain ⟨h1, h2, h3⟩ := Oper.apart_spec hap
  have keep : ∀ u, YieldsX P ops w oi v (a.put oj.dst u) := fun u => by
    unfold YieldsX at *
    rw [execOp_put oi hsi a oj.dst u h3, wanted_put oi a oj.dst u h3]
    exact hy
  unfold xOp at *
  simp only [hj] at *
  rw [wanted_put oj a oi.dst v h1] at h
  split
  · rename_i hw
    simp only [hw, if_true] at h
    rw [execOp_put oj hsj a oi.dst v h1] at h
    exact xUpon_mono (fun u w' h4 => ⟨keep u, by rw [← Act.put_comm a v u h2]; exact h4⟩) _ h
  · rename_i hw
    simp only [hw] at h
    exact ⟨keep _, by rw [← Act.put_comm a v undef h2]; exact h⟩
/-- What reads may be taken first. -/
theorem wpAnyX_first {Q : Act → World → Prop} {i : Nat} {oi : Oper} {v : Value} (hi : ops[i]? = some oi) (hsel : ∀ (j : Nat) (o : Oper) cs b, ops[j]? = some o → o.op ≠ .select cs b) :
    ∀ (fuel : Nat) (listed : Array Bool) (a : Act) (w : World),
      (∀ j oj, ops[j]? = some oj → j ≠ i → listed.getD j true = false → (∀ e ∈ oj.after, Region.binds md e = true → e.on ≠ i) → oi.apart ops oj = true) →
      i ∈ Region.ready md ops listed → YieldsX P ops w oi v a →
      wpAnyX P md ops Q fuel (listed.setIfInBounds i true) (a.put oi.dst v) w → wpAnyX P md ops Q (fuel + 1) listed a w := by
  intro fuel
  induction fuel with
  | zero =>
    intro listed a w _ hr hy H
    refine ⟨fun h => (by rw [h] at hr; cases hr), fun j hj => ?_⟩
    by_cases hji : j = i
    · subst hji; exact hy.xOp hi ⟨Ext.rf _, H⟩
    · have := ready_mono hj hji
      rw [H.1] at this
      cases this
  | succ fuel ih =>
    intro listed a w hfree hr hy H
    refine ⟨fun h => (by rw [h] at hr; cases hr), fun j hj => ?_⟩
    by_cases hji : j = i
    · subst hji; exact hy.xOp hi ⟨Ext.rf _, H⟩
    · have h1 := H.2 j (ready_mono hj hji)
      obtain ⟨hjun, oj, hoj, hall⟩ := mem_ready.1 hj
      have hnot : ∀ e ∈ oj.after, Region.binds md e = true → e.on ≠ i := fun e he hb heq => by
        have h1 := hall e he hb
        have h0 := (mem_ready.1 hr).1
        rw [heq] at h1
        rcases Nat.lt_or_ge i listed.size with h' | h'
        · simp [h'] at h0 h1; rw [h0] at h1; cases h1
        · simp [Array.getElem?_eq_none h'] at h1
      have h2 := xOp_put hoj (hfree j oj hoj hji hjun hnot) (fun cs b => hsel i oi cs b hi) (fun cs b => hsel j oj cs b hoj) hy h1
      have hfree' : ∀ k ok, ops[k]? = some ok → k ≠ i → (listed.setIfInBounds j true).getD k true = false →
          (∀ e ∈ ok.after, Region.binds md e = true → e.on ≠ i) → oi.apart ops ok = true := fun k ok hk hki hun hno => by
        refine hfree k ok hk hki ?_ hno
        by_cases hjk : j = k
        · subst hjk; exact hjun
        · rw [getD_set_ne true hjk] at hun; exact hun
      refine xOp_mono (fun a' w' h3 => ⟨h3.2.1, ih (listed.setIfInBounds j true) a' w' hfree' (ready_mono hr (Ne.symm hji)) (h3.1.later h3.2.1) ?_⟩) h2
      have h4 := h3.2.2
      rw [Array.setIfInBounds_comm _ _ hji]
      exact h4
theorem takeC {Q : Act → World → Prop} {n k : Nat} {oi : Oper} {v : Value} {fuel : Nat} {listed : Array Bool} {a : Act} {w : World} {f : FuncId} {args : Array Value} (hi : ops[k]? = some oi) (hs : Region.noSelect ops = true)
    (hf : Region.free md ops listed k = true) (hr : (Region.ready md ops listed).contains k = true) (hw : Region.wanted oi (yielded ops a.tmps) = true)
    (he : ∀ w', Ext w w' → (execOp a.eval oi).run P w' = .ok (.enter f args) w') (hc : ∀ w', Ext w w' → Calls P f args w' fun e w'' => e = .returned v ∧ w'' = w')
    (H : wpAnyX P md ops Q fuel (listed.setIfInBounds k true) (a.put oi.dst v) w) : wpAnyX P md ops Q (fuel + 1) listed a w :=
  wpAnyX_first hi (Region.noSelect_spec hs) fuel listed a w (Region.free_spec hi hf) (by simpa using hr) (.inr (.inr ⟨hw, f, args, fun w' h => ⟨he w' h, hc w' h⟩⟩)) H
/-- What comes up alone. -/
theorem wpAnyX_sole {Q : Act → World → Prop} {i : Nat} {fuel : Nat} {listed : Array Bool} {a : Act} {w : World} (hr : Region.ready md ops listed = [i])
    (h : xOp P ops i (fun a' w' => Ext w w' ∧ wpAnyX P md ops Q fuel (listed.setIfInBounds i true) a' w') a w) : wpAnyX P md ops Q (fuel + 1) listed a w :=
  by
    refine ⟨fun h0 => ?_, fun j hj => ?_⟩
    · rw [hr] at h0; cases h0
    · rw [hr] at hj
      obtain rfl : j = i := by simpa using hj
      exact h
theorem takeX {Q : Act → World → Prop} {i : Nat} {oi : Oper} {v : Value} {fuel : Nat} {listed : Array Bool} {a : Act} {w : World} (hi : ops[i]? = some oi) (hs : Region.noSelect ops = true)
    (hf : Region.free md ops listed i = true) (hr : (Region.ready md ops listed).contains i = true) (hw : Region.wanted oi (yielded ops a.tmps) = true)
    (hy : ∀ w', Ext w w' → (execOp a.eval oi).run P w' = .ok (.value v) w')
    (H : wpAnyX P md ops Q fuel (listed.setIfInBounds i true) (a.put oi.dst v) w) : wpAnyX P md ops Q (fuel + 1) listed a w :=
  wpAnyX_first hi (Region.noSelect_spec hs) fuel listed a w (Region.free_spec hi hf) (by simpa using hr) (.inl ⟨hw, hy⟩) H
theorem soleX {Q : Act → World → Prop} {i : Nat} {oi : Oper} {fuel : Nat} {listed : Array Bool} {a : Act} {w : World} (hi : ops[i]? = some oi) (hr : Region.ready md ops listed = [i]) (hw : Region.wanted oi (yielded ops a.tmps) = true)
    (H : xUpon P (fun v w' => Ext w w' ∧ wpAnyX P md ops Q fuel (listed.setIfInBounds i true) (a.put oi.dst v) w') ((execOp a.eval oi).run P w)) : wpAnyX P md ops Q (fuel + 1) listed a w :=
  wpAnyX_sole hr (by unfold xOp; simp only [hi, hw, if_true]; exact H)
theorem doneX {Q : Act → World → Prop} {fuel : Nat} {listed : Array Bool} {a : Act} {w : World} (hr : Region.ready md ops listed = []) (H : Q a w) : wpAnyX P md ops Q fuel listed a w := by
  cases fuel with
  | zero => exact ⟨hr, H⟩
  | succ n => exact ⟨fun _ => H, fun i hi => by rw [hr] at hi; cases hi⟩
theorem wp_region_X {id : Nat} {Q : Exit → Act → World → Prop} {a : Act} {w : World} (hm : P.follows .mixedOrders = true)
    (h : wpAnyX P .any ops (fun a w => Q .normal a w) ops.size (Array.replicate ops.size false) a w.drew) : (Code.region id ops true).wp P Q a w :=
  wp_region_any hm (wpAny_of_X (fun _ _ h => h) _ _ _ _ h)
/-- A call that comes up alone. -/
theorem callX {Q : Act → World → Prop} {i : Nat} {oi : Oper} {v : Value} {f : FuncId} {args : Array Value} {fuel : Nat} {listed : Array Bool} {a : Act} {w : World} (hi : ops[i]? = some oi) (hr : Region.ready md ops listed = [i]) (hw : Region.wanted oi (yielded ops a.tmps) = true)
    (he : (execOp a.eval oi).run P w = .ok (.enter f args) w) (hc : Calls P f args w fun e w' => e = .returned v ∧ Ext w w')
    (H : ∀ w', Ext w w' → wpAnyX P md ops Q fuel (listed.setIfInBounds i true) (a.put oi.dst v) w') : wpAnyX P md ops Q (fuel + 1) listed a w := by
  refine soleX hi hr hw ?_
  rw [he]
  exact hc.mono fun e w' h => ⟨v, h.1, h.2, H w' h.2⟩
/-- An operation that makes memory and comes up alone. -/
theorem makeX {Q : Act → World → Prop} {i : Nat} {oi : Oper} {v : Value} {fuel : Nat} {listed : Array Bool} {a : Act} {w w1 : World} (hi : ops[i]? = some oi) (hr : Region.ready md ops listed = [i]) (hw : Region.wanted oi (yielded ops a.tmps) = true)
    (he : (execOp a.eval oi).run P w = .ok (.value v) w1) (hE : Ext w w1)
    (H : wpAnyX P md ops Q fuel (listed.setIfInBounds i true) (a.put oi.dst v) w1) : wpAnyX P md ops Q (fuel + 1) listed a w := by
  refine soleX hi hr hw ?_
  rw [he]
  exact ⟨hE, H⟩
end
/-- A region of a code, by its number. -/
def findR (n : Nat) : Code → Option (Array Oper)
  | .region id ops _ => if id = n then some ops else none
  | .seq a b => match findR n a with | some o => some o | none => findR n b
  | .cond _ a b => match findR n a with | some o => some o | none => findR n b
  | .block _ b => findR n b
  | .loop b => findR n b
  | .rangeFunc _ _ a b => match findR n a with | some o => some o | none => findR n b
  | .scope b => findR n b
  | _ => none
/-- The first k of n operations are done. -/
def lst (n k : Nat) : Array Bool := ((List.range n).map fun j => decide (j < k)).toArray
theorem lst_set (n k : Nat) : (lst n k).setIfInBounds k true = lst n (k + 1) := by
  unfold lst
  refine Array.ext_getElem? fun i => ?_
  rw [Array.getElem?_setIfInBounds]
  by_cases hi : i < n
  · by_cases h : k = i
    · subst h; simp [hi]
    · simp [h, hi, show (i < k + 1) = (i < k) from propext ⟨fun h => by omega, fun h => by omega⟩]
  · by_cases h : k = i
    · subst h; simp [hi]
    · simp [h, hi]
theorem lst_two (n k : Nat) : ((lst n k).setIfInBounds (k + 1) true).setIfInBounds k true = lst n (k + 2) := by
  rw [Array.setIfInBounds_comm _ _ (by omega), lst_set, lst_set]
theorem lst_zero (n : Nat) : Array.replicate n false = lst n 0 := by
  unfold lst
  refine Array.ext_getElem? fun i => ?_
  by_cases hi : i < n <;> simp [hi, Array.getElem?_replicate]
/-- May come up, of the first k being done. -/
def upX (ops : Array Oper) (listed : Array Bool) (k : Nat) : Bool := decide (k < ops.size) && (!listed.getD k true && ((ops[k]?).map (·.after.all fun e => !Region.binds .any e || listed.getD e.on false)).getD false)
theorem upX_ready {ops : Array Oper} {listed : Array Bool} {k : Nat} (h : upX ops listed k = true) : (Region.ready .any ops listed).contains k = true := by
  unfold upX at h
  rw [Bool.and_eq_true, decide_eq_true_eq] at h
  rw [List.contains_iff_mem]
  unfold Region.ready
  rw [List.mem_filter, List.mem_range]
  exact h
def okX (ops : Array Oper) (n k : Nat) : Bool := Region.free .any ops (lst n k) k && upX ops (lst n k) k
/-- The operations are taken in the text's order, but those in l. -/
def schedX (ops : Array Oper) (n : Nat) (l : List Nat) (lo hi : Nat) : Bool := (List.range hi).all fun k => decide (k < lo) || l.contains k || okX ops n k
theorem schedX_at {ops : Array Oper} {n lo hi k : Nat} {l : List Nat} (h : schedX ops n l lo hi = true) (h1 : lo ≤ k) (h2 : k < hi) (h3 : l.contains k = false) : okX ops n k = true := by
  unfold schedX at h
  have := List.all_eq_true.1 h k (List.mem_range.2 h2)
  rw [h3, decide_eq_false (by omega)] at this
  simpa using this
theorem takeL {P : Program} {ops : Array Oper} {Q : Act → World → Prop} {n k : Nat} {oi : Oper} {v : Value} {fuel : Nat} {a : Act} {w : World} (hs : Region.noSelect ops = true) (hok : okX ops n k = true) (hi : ops[k]? = some oi) (hw : Region.wanted oi (yielded ops a.tmps) = true)
    (hy : ∀ w', Ext w w' → (execOp a.eval oi).run P w' = .ok (.value v) w')
    (H : wpAnyX P .any ops Q fuel (lst n (k + 1)) (a.put oi.dst v) w) : wpAnyX P .any ops Q (fuel + 1) (lst n k) a w := by
  unfold okX at hok
  rw [Bool.and_eq_true] at hok
  refine takeX hi hs hok.1 (upX_ready hok.2) hw hy ?_
  rw [lst_set]
  exact H
theorem callL {P : Program} {ops : Array Oper} {Q : Act → World → Prop} {n k : Nat} {oi : Oper} {v : Value} {f : FuncId} {args : Array Value} {fuel : Nat} {a : Act} {w : World} (hr : Region.ready .any ops (lst n k) = [k]) (hi : ops[k]? = some oi) (hw : Region.wanted oi (yielded ops a.tmps) = true)
    (he : (execOp a.eval oi).run P w = .ok (.enter f args) w) (hc : Calls P f args w fun e w' => e = .returned v ∧ Ext w w')
    (H : ∀ w', Ext w w' → wpAnyX P .any ops Q fuel (lst n (k + 1)) (a.put oi.dst v) w') : wpAnyX P .any ops Q (fuel + 1) (lst n k) a w :=
  callX hi hr hw he hc fun w' h => by rw [lst_set]; exact H w' h
theorem makeL {P : Program} {ops : Array Oper} {Q : Act → World → Prop} {n k : Nat} {oi : Oper} {v : Value} {fuel : Nat} {a : Act} {w w1 : World} (hr : Region.ready .any ops (lst n k) = [k]) (hi : ops[k]? = some oi) (hw : Region.wanted oi (yielded ops a.tmps) = true)
    (he : (execOp a.eval oi).run P w = .ok (.value v) w1) (hE : Ext w w1)
    (H : wpAnyX P .any ops Q fuel (lst n (k + 1)) (a.put oi.dst v) w1) : wpAnyX P .any ops Q (fuel + 1) (lst n k) a w :=
  makeX hi hr hw he hE (by rw [lst_set]; exact H)
theorem takeCL {P : Program} {ops : Array Oper} {Q : Act → World → Prop} {n k : Nat} {oi : Oper} {v : Value} {fuel : Nat} {a : Act} {w : World} {f : FuncId} {args : Array Value} (hs : Region.noSelect ops = true) (hok : okX ops n k = true) (hi : ops[k]? = some oi) (hw : Region.wanted oi (yielded ops a.tmps) = true)
    (he : ∀ w', Ext w w' → (execOp a.eval oi).run P w' = .ok (.enter f args) w') (hc : ∀ w', Ext w w' → Calls P f args w' fun e w'' => e = .returned v ∧ w'' = w')
    (H : wpAnyX P .any ops Q fuel (lst n (k + 1)) (a.put oi.dst v) w) : wpAnyX P .any ops Q (fuel + 1) (lst n k) a w := by
  unfold okX at hok
  rw [Bool.and_eq_true] at hok
  refine takeC (n := n) hi hs hok.1 (upX_ready hok.2) hw he hc ?_
  rw [lst_set]
  exact H
theorem withL {P : Program} {ops E : Array Oper} {Q : Act → World → Prop} {n : Nat} {a : Act} {w : World} {R : Array Oper → Prop} (h : ops = E) (hR : R E) (hf : ops.size = n)
    (H : R ops → wpAnyX P .any ops Q n (lst n 0) a w) : wpAnyX P .any ops Q ops.size (Array.replicate ops.size false) a w := by
  rw [hf, lst_zero]; exact H (h ▸ hR)

end Go.Proofs.Ytookffaojlkfaaa

/- Tuples: how they are compared. -/
namespace Go.Proofs.Ytookffaojlkfaaa
open Go.RowKit

structure Tu where
  a : Int
  b : Int
  c : Int
  d : Int
  deriving DecidableEq
abbrev tu (a b c d : Int) : Value := .agg #[.int .u32 a, .int .u32 b, .int .u16 c, .int .u16 d]
abbrev Tu.v (t : Tu) : Value := tu t.a t.b t.c t.d
def cmpI (x y : Int) : Int := if x < y then -1 else if y < x then 1 else 0
/-- The first that is not nought, of the last r of four. -/
def orR (f : Nat → Int) : Nat → Int
  | 0 => 0
  | r + 1 => if f (3 - r) = 0 then orR f r else f (3 - r)
def four (x y z t : Int) : Nat → Int
  | 0 => x
  | 1 => y
  | 2 => z
  | _ => t
def cmpT (s t : Tu) : Int := orR (four (cmpI s.a t.a) (cmpI s.b t.b) (cmpI s.c t.c) (cmpI s.d t.d)) 4

theorem nan_u32 (x : Int) (w : World) : Calls Try.prog 111 #[.int .u32 x] w fun e w' => e = .returned (.bool false) ∧ w = w' := by
  go_enter Try.func111, Try.ntmps111
  go_wp2
  go_ret
  exact ⟨ret_bool (by simp), rfl⟩
theorem compare_u32 (x y : Int) (w : World) : Calls Try.prog 88 #[.int .u32 x, .int .u32 y] w fun e w' => e = .returned (.int .i64 (cmpI x y)) ∧ w = w' := by
  go_enter Try.func88, Try.ntmps88
  go_wp2_with (go_at_call 111; (with_reducible refine (nan_u32 _ _).mono ?_); rintro e w' ⟨rfl, rfl⟩)
  all_goals (go_ret; refine ⟨?_, rfl⟩)
  all_goals (refine congrArg (fun z => Ending.returned (.int .i64 z)) ?_; unfold cmpI; first | (simp [*]; done) | (simp_all; omega) | (split <;> (try split) <;> omega))
theorem load_u32_X {w : World} {B O : Nat} {a : Int} (h0 : w.cell? ⟨B, O, none⟩ = some (.int .u32 a)) (hl : Lt B w) (ρ : Operand → Value) (dst : Option Tmp) (x : Operand) (ty : TypeId) (pos : String) (after : Array Edge) (g : Option (Nat × Bool))
    (hx : ρ x = .pointer (some ⟨B, O, none⟩)) : ∀ w', Ext w w' → (execOp ρ ⟨dst, .load 23 x, ty, pos, after, g⟩).run Try.prog w' = .ok (.value (.int .u32 a)) w' := by
  intro w' hE
  have h0 := (hE.cell (p := ⟨B, _, none⟩) hl).trans h0
  simp only [execOp, hx]
  go_simp

theorem nan_u16 (x : Int) (w : World) : Calls Try.prog 112 #[.int .u16 x] w fun e w' => e = .returned (.bool false) ∧ w = w' := by
  go_enter Try.func112, Try.ntmps112
  go_wp2
  go_ret
  exact ⟨ret_bool (by simp), rfl⟩
theorem compare_u16 (x y : Int) (w : World) : Calls Try.prog 89 #[.int .u16 x, .int .u16 y] w fun e w' => e = .returned (.int .i64 (cmpI x y)) ∧ w = w' := by
  go_enter Try.func89, Try.ntmps89
  go_wp2_with (go_at_call 112; (with_reducible refine (nan_u16 _ _).mono ?_); rintro e w' ⟨rfl, rfl⟩)
  all_goals (go_ret; refine ⟨?_, rfl⟩)
  all_goals (refine congrArg (fun z => Ending.returned (.int .i64 z)) ?_; unfold cmpI; first | (simp [*]; done) | (simp_all; omega) | (split <;> (try split) <;> omega))
theorem load_u16_X {w : World} {B O : Nat} {a : Int} (h0 : w.cell? ⟨B, O, none⟩ = some (.int .u16 a)) (hl : Lt B w) (ρ : Operand → Value) (dst : Option Tmp) (x : Operand) (ty : TypeId) (pos : String) (after : Array Edge) (g : Option (Nat × Bool))
    (hx : ρ x = .pointer (some ⟨B, O, none⟩)) : ∀ w', Ext w w' → (execOp ρ ⟨dst, .load 24 x, ty, pos, after, g⟩).run Try.prog w' = .ok (.value (.int .u16 a)) w' := by
  intro w' hE
  have h0 := (hE.cell (p := ⟨B, _, none⟩) hl).trans h0
  simp only [execOp, hx]
  go_simp

set_option maxHeartbeats 1000000 in
theorem or_four (x y z t : Int) (W : World) :
    Calls Try.prog 87 #[.slice (some ⟨W.heap.size, 0, none⟩) 4 4] (W.alloc (.cells #[.int .i64 x, .int .i64 y, .int .i64 z, .int .i64 t] 3)) fun e w' => e = .returned (.int .i64 (orR (four x y z t) 4)) ∧ Ext (W.alloc (.cells #[.int .i64 x, .int .i64 y, .int .i64 z, .int .i64 t] 3)) w' := by
  have hcells : ∀ j, j < 4 → (W.alloc (.cells #[.int .i64 x, .int .i64 y, .int .i64 z, .int .i64 t] 3)).cell? ⟨W.heap.size, j, none⟩ = some (.int .i64 (four x y z t j)) := fun j hj => by
    rw [cell_rowD, rowD_new]
    obtain rfl | rfl | rfl | rfl : j = 0 ∨ j = 1 ∨ j = 2 ∨ j = 3 := by omega
    all_goals rfl
  have HC := Lib.hid hcells
  clear hcells
  obtain ⟨f, hf⟩ : ∃ f, four x y z t = f := ⟨_, rfl⟩
  rw [hf] at HC ⊢
  clear hf
  generalize hV : W.alloc (.cells #[.int .i64 x, .int .i64 y, .int .i64 z, .int .i64 t] 3) = V at *
  have hL : Lt W.heap.size V := by rw [← hV]; simp [Lt]
  clear hV
  generalize W.heap.size = B at *
  go_enter Try.func87, Try.ntmps87
  go_wp2
  go_loopw [5, 8] (fun _ a wr => ∃ k : Nat, k ≤ 4 ∧ a = .int .i64 k ∧ orR f 4 = orR f (4 - k) ∧ Ext V wr) (fun _ a _ => 4 - (intOf a).toNat)
  case atStart => exact ⟨0, Nat.zero_le _, rfl, rfl, Ext.rf _⟩
  case round =>
    obtain ⟨k, hk, rfl, hO, hE⟩ := hrel
    have hk4 : (k : Int) ≤ 4 := by omega
    by_cases hlt : k < 4
    · have hkl : (k : Int) < 4 := by omega
      have hc := (hE.cell (p := ⟨B, k, none⟩) hL).trans (HC.out k hlt)
      have hs : orR f (4 - k) = (if f k = 0 then orR f (4 - (k + 1)) else f k) := by
        obtain ⟨r, hr⟩ : ∃ r, 4 - k = r + 1 := ⟨4 - (k + 1), by omega⟩
        rw [hr, show 4 - (k + 1) = r by omega]
        show (if f (3 - r) = 0 then orR f r else f (3 - r)) = _
        rw [show 3 - r = k by omega]
      have HO := Lib.hid (hO.trans hs)
      clear hO hs
      cases hq : (f k == 0)
      · have hqn : (f k != 0) = true := by rw [bne, hq]; rfl
        have HV := Lib.hid (show orR f 4 = f k by rw [HO.out, if_neg (by simpa using hq)])
        go_wp2
        go_ret
        exact ⟨by rw [HV.out]; rfl, hE⟩
      · have hqn : (f k != 0) = false := by rw [bne, hq]; rfl
        have HV := Lib.hid (show orR f 4 = orR f (4 - (k + 1)) by rw [HO.out, if_pos (by simpa using hq)])
        go_wp2
        go_roundw
        case rel => exact ⟨k + 1, by omega, by go_num, HV.out, hE⟩
        case measure => simp [intOf]; omega
    · obtain rfl : k = 4 := by omega
      have HV := Lib.hid (show orR f 4 = 0 from hO)
      clear hO
      go_wp2
      go_ret
      exact ⟨by rw [HV.out]; rfl, hE⟩

end Go.Proofs.Ytookffaojlkfaaa

/- Tuples: Cmp (its region draws: reads and comparisons are taken first). -/
namespace Go.Proofs.Ytookffaojlkfaaa
open Go.RowKit

def SchC (ops : Array Oper) : Prop := Region.noSelect ops = true ∧ (∀ k, k < 23 → [20, 21].contains k = false → okX ops 23 k = true) ∧ (∀ k, [20, 21].contains k = true → Region.ready .any ops (lst 23 k) = [k]) ∧ Region.ready .any ops (lst 23 23) = []
theorem schC_s : schedX ((Try.f63.body.bind (findR 1)).getD #[]) 23 [20, 21] 0 23 = true := by kernel_rfl
theorem schC_20 : Region.ready .any ((Try.f63.body.bind (findR 1)).getD #[]) (lst 23 20) = [20] := by kernel_rfl
theorem schC_21 : Region.ready .any ((Try.f63.body.bind (findR 1)).getD #[]) (lst 23 21) = [21] := by kernel_rfl
theorem schC : SchC ((Try.f63.body.bind (findR 1)).getD #[]) := by
  refine ⟨by kernel_rfl, fun k hk hl => schedX_at schC_s (Nat.zero_le _) hk hl, fun k hk => ?_, by kernel_rfl⟩
  simp only [List.contains_iff_mem, List.mem_cons, List.not_mem_nil, or_false] at hk
  rcases hk with rfl | rfl
  · exact schC_20
  · exact schC_21
set_option maxRecDepth 20000 in
set_option maxHeartbeats 4000000 in
theorem cmp_any (s t : Tu) (w : World) :
    Calls Try.prog 63 #[tu s.a s.b s.c s.d, tu t.a t.b t.c t.d] w fun e w' => e = .returned (.int .i64 (cmpT s t)) ∧ Ext w w' := by
  go_enter Try.func63, Try.ntmps63
  go_wp2_with (fail)
  obtain ⟨W0, hW⟩ : ∃ W0, (w.alloc (.cells #[.int .u32 s.a, .int .u32 s.b, .int .u16 s.c, .int .u16 s.d] 26)).alloc (.cells #[.int .u32 t.a, .int .u32 t.b, .int .u16 t.c, .int .u16 t.d] 26) = W0 := ⟨_, rfl⟩
  rw [hW]
  have e0 : Ext w W0 := by rw [← hW]; exact Ext.al (Ext.al (Ext.rf _) _) _
  have rs : rowD W0 w.heap.size = #[.int .u32 s.a, .int .u32 s.b, .int .u16 s.c, .int .u16 s.d] := by rw [← hW]; simp [go_sem]
  have rt : rowD W0 (w.heap.size + 1) = #[.int .u32 t.a, .int .u32 t.b, .int .u16 t.c, .int .u16 t.d] := by rw [← hW]; simp [go_sem]
  have ls : Lt w.heap.size W0 := by rw [← hW]; simp [Lt]; try omega
  have lt : Lt (w.heap.size + 1) W0 := by rw [← hW]; simp [Lt]; try omega
  clear hW
  have s0 : W0.cell? ⟨w.heap.size, 0, none⟩ = some (.int .u32 s.a) := by rw [cell_rowD, rs]; rfl
  have s1 : W0.cell? ⟨w.heap.size, 1, none⟩ = some (.int .u32 s.b) := by rw [cell_rowD, rs]; rfl
  have s2 : W0.cell? ⟨w.heap.size, 2, none⟩ = some (.int .u16 s.c) := by rw [cell_rowD, rs]; rfl
  have s3 : W0.cell? ⟨w.heap.size, 3, none⟩ = some (.int .u16 s.d) := by rw [cell_rowD, rs]; rfl
  have t0 : W0.cell? ⟨w.heap.size + 1, 0, none⟩ = some (.int .u32 t.a) := by rw [cell_rowD, rt]; rfl
  have t1 : W0.cell? ⟨w.heap.size + 1, 1, none⟩ = some (.int .u32 t.b) := by rw [cell_rowD, rt]; rfl
  have t2 : W0.cell? ⟨w.heap.size + 1, 2, none⟩ = some (.int .u16 t.c) := by rw [cell_rowD, rt]; rfl
  have t3 : W0.cell? ⟨w.heap.size + 1, 3, none⟩ = some (.int .u16 t.d) := by rw [cell_rowD, rt]; rfl
  clear rs rt
  refine wp_region_X (by kernel_rfl) ?_
  obtain ⟨W1, hW⟩ : ∃ W1, W0.drew = W1 := ⟨_, rfl⟩
  have h1 : Ext W0 W1 := by rw [← hW]; exact Ext.dr (Ext.rf _)
  rw [hW]
  clear hW
  have s0 := (h1.cell (p := ⟨w.heap.size, _, none⟩) ls).trans s0
  have s1 := (h1.cell (p := ⟨w.heap.size, _, none⟩) ls).trans s1
  have s2 := (h1.cell (p := ⟨w.heap.size, _, none⟩) ls).trans s2
  have s3 := (h1.cell (p := ⟨w.heap.size, _, none⟩) ls).trans s3
  have t0 := (h1.cell (p := ⟨w.heap.size + 1, _, none⟩) lt).trans t0
  have t1 := (h1.cell (p := ⟨w.heap.size + 1, _, none⟩) lt).trans t1
  have t2 := (h1.cell (p := ⟨w.heap.size + 1, _, none⟩) lt).trans t2
  have t3 := (h1.cell (p := ⟨w.heap.size + 1, _, none⟩) lt).trans t3
  have ls : Lt w.heap.size W1 := Nat.lt_of_lt_of_le ls h1.size
  have lt : Lt (w.heap.size + 1) W1 := Nat.lt_of_lt_of_le lt h1.size
  refine withL (n := 23) (R := SchC) (E := ((Try.f63.body.bind (findR 1)).getD #[])) (by kernel_rfl) schC (by kernel_rfl) fun hS => ?_
  refine takeL (n := 23) (k := 0) (v := .pointer (some ⟨w.heap.size, 0, none⟩)) hS.1 (hS.2.1 0 (by decide) (by decide)) rfl (by kernel_rfl) (fun _ _ => by kernel_rfl) ?_
  refine takeL (n := 23) (k := 1) (v := .int .u32 s.a) hS.1 (hS.2.1 1 (by decide) (by decide)) rfl (by kernel_rfl) (load_u32_X s0 ls _ _ _ _ _ _ _ (by kernel_rfl)) ?_
  refine takeL (n := 23) (k := 2) (v := .pointer (some ⟨(w.heap.size + 1), 0, none⟩)) hS.1 (hS.2.1 2 (by decide) (by decide)) rfl (by kernel_rfl) (fun _ _ => by kernel_rfl) ?_
  refine takeL (n := 23) (k := 3) (v := .int .u32 t.a) hS.1 (hS.2.1 3 (by decide) (by decide)) rfl (by kernel_rfl) (load_u32_X t0 lt _ _ _ _ _ _ _ (by kernel_rfl)) ?_
  refine takeCL (n := 23) (k := 4) (v := .int .i64 (cmpI s.a t.a)) (f := 88) (args := #[.int .u32 s.a, .int .u32 t.a]) hS.1 (hS.2.1 4 (by decide) (by decide)) rfl (by kernel_rfl) (fun _ _ => by kernel_rfl) (fun w' _ => (compare_u32 s.a t.a w').mono fun _ _ h => ⟨h.1, h.2.symm⟩) ?_
  refine takeL (n := 23) (k := 5) (v := .pointer (some ⟨w.heap.size, 1, none⟩)) hS.1 (hS.2.1 5 (by decide) (by decide)) rfl (by kernel_rfl) (fun _ _ => by kernel_rfl) ?_
  refine takeL (n := 23) (k := 6) (v := .int .u32 s.b) hS.1 (hS.2.1 6 (by decide) (by decide)) rfl (by kernel_rfl) (load_u32_X s1 ls _ _ _ _ _ _ _ (by kernel_rfl)) ?_
  refine takeL (n := 23) (k := 7) (v := .pointer (some ⟨(w.heap.size + 1), 1, none⟩)) hS.1 (hS.2.1 7 (by decide) (by decide)) rfl (by kernel_rfl) (fun _ _ => by kernel_rfl) ?_
  refine takeL (n := 23) (k := 8) (v := .int .u32 t.b) hS.1 (hS.2.1 8 (by decide) (by decide)) rfl (by kernel_rfl) (load_u32_X t1 lt _ _ _ _ _ _ _ (by kernel_rfl)) ?_
  refine takeCL (n := 23) (k := 9) (v := .int .i64 (cmpI s.b t.b)) (f := 88) (args := #[.int .u32 s.b, .int .u32 t.b]) hS.1 (hS.2.1 9 (by decide) (by decide)) rfl (by kernel_rfl) (fun _ _ => by kernel_rfl) (fun w' _ => (compare_u32 s.b t.b w').mono fun _ _ h => ⟨h.1, h.2.symm⟩) ?_
  refine takeL (n := 23) (k := 10) (v := .pointer (some ⟨w.heap.size, 2, none⟩)) hS.1 (hS.2.1 10 (by decide) (by decide)) rfl (by kernel_rfl) (fun _ _ => by kernel_rfl) ?_
  refine takeL (n := 23) (k := 11) (v := .int .u16 s.c) hS.1 (hS.2.1 11 (by decide) (by decide)) rfl (by kernel_rfl) (load_u16_X s2 ls _ _ _ _ _ _ _ (by kernel_rfl)) ?_
  refine takeL (n := 23) (k := 12) (v := .pointer (some ⟨(w.heap.size + 1), 2, none⟩)) hS.1 (hS.2.1 12 (by decide) (by decide)) rfl (by kernel_rfl) (fun _ _ => by kernel_rfl) ?_
  refine takeL (n := 23) (k := 13) (v := .int .u16 t.c) hS.1 (hS.2.1 13 (by decide) (by decide)) rfl (by kernel_rfl) (load_u16_X t2 lt _ _ _ _ _ _ _ (by kernel_rfl)) ?_
  refine takeCL (n := 23) (k := 14) (v := .int .i64 (cmpI s.c t.c)) (f := 89) (args := #[.int .u16 s.c, .int .u16 t.c]) hS.1 (hS.2.1 14 (by decide) (by decide)) rfl (by kernel_rfl) (fun _ _ => by kernel_rfl) (fun w' _ => (compare_u16 s.c t.c w').mono fun _ _ h => ⟨h.1, h.2.symm⟩) ?_
  refine takeL (n := 23) (k := 15) (v := .pointer (some ⟨w.heap.size, 3, none⟩)) hS.1 (hS.2.1 15 (by decide) (by decide)) rfl (by kernel_rfl) (fun _ _ => by kernel_rfl) ?_
  refine takeL (n := 23) (k := 16) (v := .int .u16 s.d) hS.1 (hS.2.1 16 (by decide) (by decide)) rfl (by kernel_rfl) (load_u16_X s3 ls _ _ _ _ _ _ _ (by kernel_rfl)) ?_
  refine takeL (n := 23) (k := 17) (v := .pointer (some ⟨(w.heap.size + 1), 3, none⟩)) hS.1 (hS.2.1 17 (by decide) (by decide)) rfl (by kernel_rfl) (fun _ _ => by kernel_rfl) ?_
  refine takeL (n := 23) (k := 18) (v := .int .u16 t.d) hS.1 (hS.2.1 18 (by decide) (by decide)) rfl (by kernel_rfl) (load_u16_X t3 lt _ _ _ _ _ _ _ (by kernel_rfl)) ?_
  refine takeCL (n := 23) (k := 19) (v := .int .i64 (cmpI s.d t.d)) (f := 89) (args := #[.int .u16 s.d, .int .u16 t.d]) hS.1 (hS.2.1 19 (by decide) (by decide)) rfl (by kernel_rfl) (fun _ _ => by kernel_rfl) (fun w' _ => (compare_u16 s.d t.d w').mono fun _ _ h => ⟨h.1, h.2.symm⟩) ?_
  refine makeL (n := 23) (k := 20) (v := .slice (some ⟨W1.heap.size, 0, none⟩) 4 4) (w1 := W1.alloc (.cells #[.int .i64 (cmpI s.a t.a), .int .i64 (cmpI s.b t.b), .int .i64 (cmpI s.c t.c), .int .i64 (cmpI s.d t.d)] 3)) (hS.2.2.1 20 (by decide)) rfl (by kernel_rfl) (by kernel_rfl) (Ext.al (Ext.rf _) _) ?_
  refine callL (n := 23) (k := 21) (v := .int .i64 (cmpT s t)) (f := 87) (args := #[.slice (some ⟨W1.heap.size, 0, none⟩) 4 4]) (hS.2.2.1 21 (by decide)) rfl (by kernel_rfl) (by kernel_rfl) (or_four _ _ _ _ _) ?_
  intro W2 h2
  refine takeL (n := 23) (k := 22) (v := .int .i64 (cmpT s t)) hS.1 (hS.2.1 22 (by decide) (by decide)) rfl (by kernel_rfl) (fun _ _ => by kernel_rfl) ?_
  refine doneX hS.2.2.2 ?_
  generalize hA : Act.put _ _ _ = A
  go_wp2
  exact bodyPost_ret (v := .int .i64 (cmpT s t)) (by subst hA; kernel_rfl) (by subst hA; kernel_rfl) ⟨rfl, (((e0.tr h1).tr (Ext.al (Ext.rf _) _)).tr h2)⟩

end Go.Proofs.Ytookffaojlkfaaa

/- Slices of connections and of holders: IndexFunc, ContainsFunc. -/
namespace Go.Proofs.Ytookffaojlkfaaa
open Go.RowKit
/-- The place of the first that is so, or -1. -/
def idx {α : Type} (pr : α → Bool) (ms : List α) : Int := if ms.any pr then ms.findIdx pr else -1
theorem idx_none {α : Type} (pr : α → Bool) (ms : List α) (h : ∀ k (hk : k < ms.length), pr ms[k] = false) : idx pr ms = -1 := by
  unfold idx
  rw [if_neg]
  intro hh
  obtain ⟨x, hx, hp⟩ := List.any_eq_true.1 hh
  obtain ⟨k, hk, rfl⟩ := List.mem_iff_getElem.1 hx
  rw [h k hk] at hp; cases hp
theorem idx_some {α : Type} (pr : α → Bool) (ms : List α) (k : Nat) (hk : k < ms.length) (h : ∀ j (hj : j < k), pr (ms[j]'(by omega)) = false) (hp : pr ms[k] = true) : idx pr ms = k := by
  unfold idx
  rw [if_pos (List.any_eq_true.2 ⟨ms[k], List.getElem_mem hk, hp⟩)]
  congr 1
  rw [List.findIdx_eq hk]
  exact ⟨hp, fun j hj => by simpa using h j hj⟩
theorem idx_ge {α : Type} (pr : α → Bool) (ms : List α) : decide (0 ≤ idx pr ms) = ms.any pr := by
  unfold idx
  cases h : ms.any pr <;> simp


structure Co where
  t : Tu
  s : Int
  l : Int
  deriving DecidableEq
abbrev Co.v (x : Co) : Value := .agg #[.int .u32 x.t.a, .int .u32 x.t.b, .int .u16 x.t.c, .int .u16 x.t.d, .int .i64 x.s, .int .i64 x.l]
/-- A slice reads as a list. -/
def SlC (w : World) (p : Option Addr) (xs : List Co) : Prop := ∀ k, (h : k < xs.length) → ∃ b off, p = some ⟨b, off, none⟩ ∧ b < w.heap.size ∧ w.cell? ⟨b, off + k * 6, none⟩ = some (.int .u32 xs[k].t.a) ∧ w.cell? ⟨b, off + k * 6 + 1, none⟩ = some (.int .u32 xs[k].t.b) ∧ w.cell? ⟨b, off + k * 6 + 2, none⟩ = some (.int .u16 xs[k].t.c) ∧ w.cell? ⟨b, off + k * 6 + 3, none⟩ = some (.int .u16 xs[k].t.d) ∧ w.cell? ⟨b, off + k * 6 + 4, none⟩ = some (.int .i64 xs[k].s) ∧ w.cell? ⟨b, off + k * 6 + 5, none⟩ = some (.int .i64 xs[k].l)
theorem SlC.ext {w w' : World} {p : Option Addr} {xs : List Co} (h : SlC w p xs) (e : Ext w w') : SlC w' p xs := fun k hk => by
  obtain ⟨b, off, hp, hb, c0, c1, c2, c3, c4, c5⟩ := h k hk
  exact ⟨b, off, hp, Nat.lt_of_lt_of_le hb e.size, (e.cell (p := ⟨b, off + k * 6, none⟩) hb).trans c0, (e.cell (p := ⟨b, off + k * 6 + 1, none⟩) hb).trans c1, (e.cell (p := ⟨b, off + k * 6 + 2, none⟩) hb).trans c2, (e.cell (p := ⟨b, off + k * 6 + 3, none⟩) hb).trans c3, (e.cell (p := ⟨b, off + k * 6 + 4, none⟩) hb).trans c4, (e.cell (p := ⟨b, off + k * 6 + 5, none⟩) hb).trans c5⟩
theorem SlC.nil (w : World) (p : Option Addr) : SlC w p [] := fun k hk => by simp at hk
set_option maxHeartbeats 1000000 in
theorem indexFunc_C (g : Nat) (lb : Array Value) (eg : ∀ args w, (callFunc g args).run Try.prog w = .ok (.enter g args) w) (pr : Co → Bool) (p : Option Addr) (xs : List Co) (c : Nat) (w : World)
    (hs : SlC w p xs) (hl : xs.length ≤ 1000) (hf : ∀ x W, x ∈ xs → Ext w W → Calls Try.prog g (#[.agg #[.int .u32 x.t.a, .int .u32 x.t.b, .int .u16 x.t.c, .int .u16 x.t.d, .int .i64 x.s, .int .i64 x.l]] ++ lb) W fun e w' => e = .returned (.bool (pr x)) ∧ Ext W w') :
    Calls Try.prog 61 #[.slice p xs.length c, .func (.func g) #[] lb] w fun e w' => e = .returned (.int .i64 (idx pr xs)) ∧ Ext w w' := by
  have HF := Lib.hid hf
  clear hf
  go_enter Try.func61, Try.ntmps61
  go_wp2
  go_loopw [5, 8] (fun _ i wr => ∃ k : Nat, k ≤ xs.length ∧ i = .int .i64 k ∧ (∀ j, j < k → ∀ (hj : j < xs.length), pr xs[j] = false) ∧ Ext w wr) (fun _ i _ => xs.length - (intOf i).toNat)
  case atStart => exact ⟨0, Nat.zero_le _, rfl, fun j hj => by omega, Ext.rf _⟩
  case round =>
    obtain ⟨k, hk, rfl, hno, hE⟩ := hrel
    have HN := Lib.hid hno
    clear hno
    by_cases hlt : k < xs.length
    · have hil : (k : Int) < xs.length := by omega
      obtain ⟨b, off, rfl, hb, c0, c1, c2, c3, c4, c5⟩ := (hs.ext hE) k hlt
      have lbb : Lt b wr := hb
      have HC := HF.out xs[k] wr (List.getElem_mem hlt) hE
      obtain ⟨x, hx⟩ : ∃ x, xs[k] = x := ⟨_, rfl⟩
      rw [hx] at c0 c1 c2 c3 c4 c5 HC
      have HX := Lib.hid hx
      clear hx
      cases hp : pr x
      · rw [hp] at HC
        have HP := Lib.hid hp
        clear hp
        have HCC := Lib.hid HC
        clear HC
        go_wp2_with ((with_reducible refine (HCC.out).mono ?_); rintro e w' ⟨rfl, hb'⟩)
        go_roundw
        case rel => exact ⟨k + 1, by omega, by go_num, fun j hj hj' => by
          rcases Nat.lt_or_ge j k with h | h
          · exact HN.out j h hj'
          · obtain rfl : j = k := by omega
            rw [HX.out, HP.out], hE.tr hb'⟩
        case measure => simp [intOf]; omega
      · rw [hp] at HC
        have HP := Lib.hid hp
        clear hp
        have HCC := Lib.hid HC
        clear HC
        go_wp2_with ((with_reducible refine (HCC.out).mono ?_); rintro e w' ⟨rfl, hb'⟩)
        go_ret
        exact ⟨by rw [idx_some pr xs k hlt (fun j hj => HN.out j hj _) (by rw [HX.out, HP.out])]; rfl, hE.tr hb'⟩
    · obtain rfl : k = xs.length := by omega
      go_wp2
      go_ret
      exact ⟨by rw [idx_none pr xs (fun j hj => HN.out j hj hj)]; rfl, hE⟩
set_option maxHeartbeats 1000000 in
theorem containsFunc_C (g : Nat) (lb : Array Value) (eg : ∀ args w, (callFunc g args).run Try.prog w = .ok (.enter g args) w) (pr : Co → Bool) (p : Option Addr) (xs : List Co) (c : Nat) (w : World)
    (hs : SlC w p xs) (hl : xs.length ≤ 1000) (hf : ∀ x W, x ∈ xs → Ext w W → Calls Try.prog g (#[.agg #[.int .u32 x.t.a, .int .u32 x.t.b, .int .u16 x.t.c, .int .u16 x.t.d, .int .i64 x.s, .int .i64 x.l]] ++ lb) W fun e w' => e = .returned (.bool (pr x)) ∧ Ext W w') :
    Calls Try.prog 66 #[.slice p xs.length c, .func (.func g) #[] lb] w fun e w' => e = .returned (.bool (xs.any pr)) ∧ Ext w w' := by
  have HF := Lib.hid hf
  have HE := Lib.hid eg
  clear hf eg
  go_enter Try.func66, Try.ntmps66
  go_wp2_with (go_at_call 61; (with_reducible refine (indexFunc_C g lb HE.out pr p xs c _ hs hl HF.out).mono ?_); rintro e w' ⟨rfl, hb⟩)
  go_ret
  exact ⟨ret_bool (idx_ge _ _), hb⟩

structure Ho where
  t : Tu
  n : Int
  deriving DecidableEq
abbrev Ho.v (x : Ho) : Value := .agg #[.int .u32 x.t.a, .int .u32 x.t.b, .int .u16 x.t.c, .int .u16 x.t.d, .int .i64 x.n]
/-- A slice reads as a list. -/
def SlH (w : World) (p : Option Addr) (xs : List Ho) : Prop := ∀ k, (h : k < xs.length) → ∃ b off, p = some ⟨b, off, none⟩ ∧ b < w.heap.size ∧ w.cell? ⟨b, off + k * 5, none⟩ = some (.int .u32 xs[k].t.a) ∧ w.cell? ⟨b, off + k * 5 + 1, none⟩ = some (.int .u32 xs[k].t.b) ∧ w.cell? ⟨b, off + k * 5 + 2, none⟩ = some (.int .u16 xs[k].t.c) ∧ w.cell? ⟨b, off + k * 5 + 3, none⟩ = some (.int .u16 xs[k].t.d) ∧ w.cell? ⟨b, off + k * 5 + 4, none⟩ = some (.int .i64 xs[k].n)
theorem SlH.ext {w w' : World} {p : Option Addr} {xs : List Ho} (h : SlH w p xs) (e : Ext w w') : SlH w' p xs := fun k hk => by
  obtain ⟨b, off, hp, hb, c0, c1, c2, c3, c4⟩ := h k hk
  exact ⟨b, off, hp, Nat.lt_of_lt_of_le hb e.size, (e.cell (p := ⟨b, off + k * 5, none⟩) hb).trans c0, (e.cell (p := ⟨b, off + k * 5 + 1, none⟩) hb).trans c1, (e.cell (p := ⟨b, off + k * 5 + 2, none⟩) hb).trans c2, (e.cell (p := ⟨b, off + k * 5 + 3, none⟩) hb).trans c3, (e.cell (p := ⟨b, off + k * 5 + 4, none⟩) hb).trans c4⟩
theorem SlH.nil (w : World) (p : Option Addr) : SlH w p [] := fun k hk => by simp at hk
set_option maxHeartbeats 1000000 in
theorem indexFunc_H (g : Nat) (lb : Array Value) (eg : ∀ args w, (callFunc g args).run Try.prog w = .ok (.enter g args) w) (pr : Ho → Bool) (p : Option Addr) (xs : List Ho) (c : Nat) (w : World)
    (hs : SlH w p xs) (hl : xs.length ≤ 1000) (hf : ∀ x W, x ∈ xs → Ext w W → Calls Try.prog g (#[.agg #[.int .u32 x.t.a, .int .u32 x.t.b, .int .u16 x.t.c, .int .u16 x.t.d, .int .i64 x.n]] ++ lb) W fun e w' => e = .returned (.bool (pr x)) ∧ Ext W w') :
    Calls Try.prog 106 #[.slice p xs.length c, .func (.func g) #[] lb] w fun e w' => e = .returned (.int .i64 (idx pr xs)) ∧ Ext w w' := by
  have HF := Lib.hid hf
  clear hf
  go_enter Try.func106, Try.ntmps106
  go_wp2
  go_loopw [5, 8] (fun _ i wr => ∃ k : Nat, k ≤ xs.length ∧ i = .int .i64 k ∧ (∀ j, j < k → ∀ (hj : j < xs.length), pr xs[j] = false) ∧ Ext w wr) (fun _ i _ => xs.length - (intOf i).toNat)
  case atStart => exact ⟨0, Nat.zero_le _, rfl, fun j hj => by omega, Ext.rf _⟩
  case round =>
    obtain ⟨k, hk, rfl, hno, hE⟩ := hrel
    have HN := Lib.hid hno
    clear hno
    by_cases hlt : k < xs.length
    · have hil : (k : Int) < xs.length := by omega
      obtain ⟨b, off, rfl, hb, c0, c1, c2, c3, c4⟩ := (hs.ext hE) k hlt
      have lbb : Lt b wr := hb
      have HC := HF.out xs[k] wr (List.getElem_mem hlt) hE
      obtain ⟨x, hx⟩ : ∃ x, xs[k] = x := ⟨_, rfl⟩
      rw [hx] at c0 c1 c2 c3 c4 HC
      have HX := Lib.hid hx
      clear hx
      cases hp : pr x
      · rw [hp] at HC
        have HP := Lib.hid hp
        clear hp
        have HCC := Lib.hid HC
        clear HC
        go_wp2_with ((with_reducible refine (HCC.out).mono ?_); rintro e w' ⟨rfl, hb'⟩)
        go_roundw
        case rel => exact ⟨k + 1, by omega, by go_num, fun j hj hj' => by
          rcases Nat.lt_or_ge j k with h | h
          · exact HN.out j h hj'
          · obtain rfl : j = k := by omega
            rw [HX.out, HP.out], hE.tr hb'⟩
        case measure => simp [intOf]; omega
      · rw [hp] at HC
        have HP := Lib.hid hp
        clear hp
        have HCC := Lib.hid HC
        clear HC
        go_wp2_with ((with_reducible refine (HCC.out).mono ?_); rintro e w' ⟨rfl, hb'⟩)
        go_ret
        exact ⟨by rw [idx_some pr xs k hlt (fun j hj => HN.out j hj _) (by rw [HX.out, HP.out])]; rfl, hE.tr hb'⟩
    · obtain rfl : k = xs.length := by omega
      go_wp2
      go_ret
      exact ⟨by rw [idx_none pr xs (fun j hj => HN.out j hj hj)]; rfl, hE⟩
set_option maxHeartbeats 1000000 in
theorem containsFunc_H (g : Nat) (lb : Array Value) (eg : ∀ args w, (callFunc g args).run Try.prog w = .ok (.enter g args) w) (pr : Ho → Bool) (p : Option Addr) (xs : List Ho) (c : Nat) (w : World)
    (hs : SlH w p xs) (hl : xs.length ≤ 1000) (hf : ∀ x W, x ∈ xs → Ext w W → Calls Try.prog g (#[.agg #[.int .u32 x.t.a, .int .u32 x.t.b, .int .u16 x.t.c, .int .u16 x.t.d, .int .i64 x.n]] ++ lb) W fun e w' => e = .returned (.bool (pr x)) ∧ Ext W w') :
    Calls Try.prog 79 #[.slice p xs.length c, .func (.func g) #[] lb] w fun e w' => e = .returned (.bool (xs.any pr)) ∧ Ext w w' := by
  have HF := Lib.hid hf
  have HE := Lib.hid eg
  clear hf eg
  go_enter Try.func79, Try.ntmps79
  go_wp2_with (go_at_call 106; (with_reducible refine (indexFunc_H g lb HE.out pr p xs c _ hs hl HF.out).mono ?_); rintro e w' ⟨rfl, hb⟩)
  go_ret
  exact ⟨ret_bool (idx_ge _ _), hb⟩

end Go.Proofs.Ytookffaojlkfaaa

/- Connections: Find, Room. -/
namespace Go.Proofs.Ytookffaojlkfaaa
open Go.RowKit

def eqT (s t : Tu) : Bool := s.a == t.a && s.b == t.b && s.c == t.c && s.d == t.d
theorem eqT_iff {s t : Tu} : eqT s t = true ↔ s = t := by
  constructor
  · intro h
    unfold eqT at h
    simp only [Bool.and_eq_true, beq_iff_eq] at h
    cases s; cases t; simp_all
  · rintro rfl; unfold eqT; simp
@[go_sem ↓ high] theorem eq_tu (a b c d a' b' c' d' : Int) (w : World) :
    (binOp .eql 26 (tu a b c d) (tu a' b' c' d')).run Try.prog w = .ok (.bool (a == a' && b == b' && c == c' && d == d')) w := by
  go_simp
  by_cases h1 : a = a' <;> by_cases h2 : b = b' <;> by_cases h3 : c = c' <;> by_cases h4 : d = d' <;> simp [*]
/-- A block holds a tuple. -/
def TuAt (w : World) (b : Nat) (t : Tu) : Prop := rowD w b = #[.int .u32 t.a, .int .u32 t.b, .int .u16 t.c, .int .u16 t.d] ∧ Lt b w
theorem TuAt.cells {w : World} {b : Nat} {t : Tu} (h : TuAt w b t) : w.cell? ⟨b, 0, none⟩ = some (.int .u32 t.a) ∧ w.cell? ⟨b, 1, none⟩ = some (.int .u32 t.b) ∧ w.cell? ⟨b, 2, none⟩ = some (.int .u16 t.c) ∧ w.cell? ⟨b, 3, none⟩ = some (.int .u16 t.d) := by
  refine ⟨?_, ?_, ?_, ?_⟩ <;> rw [cell_rowD, h.1] <;> rfl
theorem TuAt.ext {w w' : World} {b : Nat} {t : Tu} (h : TuAt w b t) (e : Ext w w') : TuAt w' b t := ⟨by rw [rowD_same (e.block b h.2)]; exact h.1, Nat.lt_of_lt_of_le h.2 e.size⟩
def geT (t : Tu) (x : Co) : Bool := decide (0 ≤ cmpT x.t t)
set_option maxHeartbeats 1000000 in
theorem find1_any (x : Co) (t : Tu) (b : Nat) (w : World) (ht : TuAt w b t) :
    Calls Try.prog 62 #[.agg #[.int .u32 x.t.a, .int .u32 x.t.b, .int .u16 x.t.c, .int .u16 x.t.d, .int .i64 x.s, .int .i64 x.l], .pointer (some ⟨b, 0, none⟩)] w fun e w' => e = .returned (.bool (geT t x)) ∧ Ext w w' := by
  obtain ⟨c0, c1, c2, c3⟩ := ht.cells
  have lb : Lt b w := ht.2
  clear ht
  go_enter Try.func62, Try.ntmps62
  go_wp2_with (go_at_call 63; (with_reducible refine (cmp_any x.t t _).mono ?_); rintro e w' ⟨rfl, hb⟩)
  go_ret
  refine ⟨rfl, ?_⟩
  (repeat (first | with_reducible exact Ext.rf _ | with_reducible assumption | with_reducible refine Ext.al ?_ _ | with_reducible refine Ext.dr ?_ | with_reducible refine Ext.dn ?_ _ | ((with_reducible refine Ext.st _ ?_ ?_); focus (first | omega | (simp; omega) | simp)) | with_reducible refine Ext.tr ?_ (by assumption) | with_reducible refine Ext.tr ?_ (up_ext (by assumption)) | with_reducible refine Ext.of (by assumption) ?_))
theorem find1_cl (x : Co) (t : Tu) (b : Nat) (w : World) (ht : TuAt w b t) :
    Calls Try.prog 62 (#[.agg #[.int .u32 x.t.a, .int .u32 x.t.b, .int .u16 x.t.c, .int .u16 x.t.d, .int .i64 x.s, .int .i64 x.l]] ++ #[.pointer (some ⟨b, 0, none⟩)]) w fun e w' => e = .returned (.bool (geT t x)) ∧ Ext w w' := by
  rw [show (#[Value.agg #[.int .u32 x.t.a, .int .u32 x.t.b, .int .u16 x.t.c, .int .u16 x.t.d, .int .i64 x.s, .int .i64 x.l]] ++ #[Value.pointer (some ⟨b, 0, none⟩)] : Array Value) = #[.agg #[.int .u32 x.t.a, .int .u32 x.t.b, .int .u16 x.t.c, .int .u16 x.t.d, .int .i64 x.s, .int .i64 x.l], .pointer (some ⟨b, 0, none⟩)] from rfl]
  exact find1_any x t b w ht
def atC (xs : List Co) (t : Tu) : Nat := xs.findIdx (geT t)
def okC (xs : List Co) (t : Tu) : Bool := match xs[atC xs t]? with | some x => eqT x.t t | none => false
theorem idx_at (pr : Co → Bool) (xs : List Co) (h : xs.any pr = true) : idx pr xs = (xs.findIdx pr : Nat) ∧ xs.findIdx pr < xs.length := by
  unfold idx
  rw [if_pos h]
  refine ⟨rfl, ?_⟩
  obtain ⟨x, hx, hp⟩ := List.any_eq_true.1 h
  exact List.findIdx_lt_length_of_exists ⟨x, hx, hp⟩
theorem idx_no (pr : Co → Bool) (xs : List Co) (h : xs.any pr = false) : idx pr xs = -1 ∧ xs.findIdx pr = xs.length := by
  unfold idx
  rw [if_neg (by rw [h]; decide)]
  refine ⟨rfl, ?_⟩
  rw [List.findIdx_eq_length]
  intro x hx
  cases hp : pr x
  · rfl
  · have : xs.any pr = true := List.any_eq_true.2 ⟨x, hx, hp⟩
    rw [this] at h; cases h
theorem enters_find1 : ∀ args w, (callFunc 62 args).run Try.prog w = .ok (.enter 62 args) w := enters_of Try.func62 (by kernel_rfl) rfl
set_option maxRecDepth 20000 in
set_option maxHeartbeats 2000000 in
theorem find_any (t : Tu) (p : Option Addr) (xs : List Co) (c : Nat) (w : World) (hs : SlC w p xs) (hl : xs.length ≤ 1000) :
    Calls Try.prog 24 #[.slice p xs.length c, tu t.a t.b t.c t.d] w fun e w' => e = .returned (.tuple #[.int .i64 (atC xs t), .bool (okC xs t)]) ∧ Ext w w' := by
  go_enter Try.func24, Try.ntmps24
  go_upto_region 1 with (fail)
  obtain ⟨W0, hW⟩ : ∃ W0, w.alloc (.cells #[.int .u32 t.a, .int .u32 t.b, .int .u16 t.c, .int .u16 t.d] 26) = W0 := ⟨_, rfl⟩
  have e0 : Ext w W0 := by rw [← hW]; exact Ext.al (Ext.rf _) _
  have s0 := hs.ext e0
  have ht : TuAt W0 w.heap.size t := by rw [← hW]; unfold TuAt; simp [go_sem, Lt]
  rw [hW]
  clear hW hs
  generalize w.heap.size = B at *
  go_upto_region 2 with (go_at_call 61; go_must (with_reducible refine (indexFunc_C 62 #[.pointer (some ⟨B, 0, none⟩)] enters_find1 (geT t) p xs c _ s0 hl (fun x W _ hE => find1_cl x t B W (ht.ext hE))).mono ?_); rintro e W1 ⟨rfl, h1⟩)
  have ht := ht.ext h1
  have s0 := s0.ext h1
  have e1 := e0.tr h1
  cases ha : xs.any (geT t)
  · obtain ⟨i1, i2⟩ := idx_no _ _ ha
    have HR := Lib.hid (show (Value.tuple #[.int .i64 (atC xs t), .bool (okC xs t)]) = .tuple #[.int .i64 xs.length, .bool false] by
      have hat : atC xs t = xs.length := i2
      unfold okC; rw [hat]; simp)
    rw [i1]
    clear i2 ha h1 e0 i1
    go_wp2
    exact bodyPost_ret (v := .tuple #[.int .i64 xs.length, .bool false]) (by simp [results, Try.results24, go_sem]) rfl ⟨by rw [HR.out], e1⟩
  · obtain ⟨i1, i2⟩ := idx_at _ _ ha
    obtain ⟨k, hk⟩ : ∃ k, xs.findIdx (geT t) = k := ⟨_, rfl⟩
    rw [hk] at i1 i2
    obtain ⟨b, off, rfl, hb, c0, c1, c2, c3, c4, c5⟩ := s0 k i2
    have lb : Lt b W1 := hb
    obtain ⟨x, hx⟩ : ∃ x, xs[k] = x := ⟨_, rfl⟩
    rw [hx] at c0 c1 c2 c3 c4 c5
    have HR := Lib.hid (show (Value.tuple #[.int .i64 (atC xs t), .bool (okC xs t)]) = .tuple #[.int .i64 k, .bool (x.t.a == t.a && x.t.b == t.b && x.t.c == t.c && x.t.d == t.d)] by
      have hat : atC xs t = k := hk
      unfold okC; rw [hat, List.getElem?_eq_getElem i2, hx]; rfl)
    rw [i1]
    have hkl : (k : Int) < xs.length := by omega
    obtain ⟨d0, d1, d2, d3⟩ := ht.cells
    have lB : Lt B W1 := ht.2
    clear hx hk i1 ha h1 e0 ht s0
    go_wp2
    refine wp_region_later (by kernel_rfl) (by kernel_rfl) ?_; (repeat (go_big_quiet_step (fail))); refine wpQuiet_nil ?_; intro d
    have hd := later_ext d
    go_wp2
    exact bodyPost_ret (v := .tuple #[.int .i64 k, .bool (x.t.a == t.a && x.t.b == t.b && x.t.c == t.c && x.t.d == t.d)]) (by simp [results, Try.results24, go_sem]) rfl ⟨by rw [HR.out], e1.tr hd⟩
theorem room_any (p : Option Addr) (n c : Nat) (w : World) :
    Calls Try.prog 28 #[.slice p n c] w fun e w' => e = .returned (.bool (decide ((n : Int) < 32))) ∧ w = w' := by
  go_enter Try.func28, Try.ntmps28
  go_wp2
  go_ret
  exact ⟨ret_bool (by simp), rfl⟩

end Go.Proofs.Ytookffaojlkfaaa

/- A range over a function whose iterator keeps state of its own in cells: THE LAW, of any program. -/
namespace Go.Proofs.Ytookffaojlkfaaa
open Go.RowKit

/-- From A to B only blocks of C, and new ones, have changed. -/
structure Mv (C : Nat → Prop) (A B : World) : Prop where
  os : B.os = A.os
  tape : B.tape = A.tape
  output : B.output = A.output
  size : A.heap.size ≤ B.heap.size
  same : ∀ k, k < A.heap.size → ¬ C k → B.heap[k]? = A.heap[k]?
theorem Mv.refl (C : Nat → Prop) (A : World) : Mv C A A := ⟨rfl, rfl, rfl, Nat.le_refl _, fun _ _ _ => rfl⟩
theorem Mv.trans {C : Nat → Prop} {X Y Z : World} (h : Mv C X Y) (k : Mv C Y Z) : Mv C X Z :=
  ⟨k.os.trans h.os, k.tape.trans h.tape, k.output.trans h.output, Nat.le_trans h.size k.size, fun i hi hc => (k.same i (Nat.lt_of_lt_of_le hi h.size) hc).trans (h.same i hi hc)⟩
theorem Mv.mono {C D : Nat → Prop} {A B : World} (h : Mv C A B) (hd : ∀ k, k < A.heap.size → C k → D k) : Mv D A B :=
  ⟨h.os, h.tape, h.output, h.size, fun k hk hn => h.same k hk (fun hc => hn (hd k hk hc))⟩
theorem Mv.of_ext {C : Nat → Prop} {A B : World} (h : Ext A B) : Mv C A B := ⟨h.os, h.tape, h.output, h.size, fun k hk _ => h.block k hk⟩
theorem Mv.ext {C : Nat → Prop} {w A : World} (h : Mv C w A) (hc : ∀ k, k < w.heap.size → ¬ C k) : Ext w A :=
  ⟨h.os, h.tape, h.output, h.size, fun k hk => h.same k hk (hc k hk)⟩
/-- What comes behind the blocks of w is free, if C's are. -/
theorem Mv.ext_of {C : Nat → Prop} {w A B : World} (h : Ext w A) (m : Mv C A B) (hc : ∀ k, C k → w.heap.size ≤ k) : Ext w B :=
  h.trans ⟨m.os, m.tape, m.output, m.size, fun k hk => m.same k (Nat.lt_of_lt_of_le hk h.size) (fun c => by have := hc k c; omega)⟩
theorem Mv.st {C : Nat → Prop} {A B : World} {b i : Nat} (v : Value) (hb : C b ∨ A.heap.size ≤ b) (h : Mv C A B) : Mv C A (B.setCell ⟨b, i, none⟩ v) :=
  ⟨h.os, h.tape, h.output, by simpa using h.size, fun k hk hc => by
    have hne : k ≠ b := fun e => by subst e; rcases hb with h1 | h1; exact hc h1; omega
    rw [← h.same k hk hc]
    simp only [World.setCell, Array.getElem?_modify]
    rw [if_neg (fun e => hne e.symm)]⟩
theorem Mv.al {C : Nat → Prop} {A B : World} (o : Obj) (h : Mv C A B) : Mv C A (B.alloc o) :=
  h.trans (Mv.of_ext (Ext.al (Ext.rf _) o))
theorem Mv.dr {C : Nat → Prop} {A B : World} (h : Mv C A B) : Mv C A B.drew := h.trans (Mv.of_ext (Ext.dr (Ext.rf _)))
theorem Mv.tr {C : Nat → Prop} {A B B' : World} (h : Mv C A B) (e : Ext B B') : Mv C A B' := h.trans (Mv.of_ext e)
theorem Mv.put {C : Nat → Prop} (A : World) (l : Nat) (o : Obj) (hl : C l) : Mv C A (A.putObj l o) :=
  ⟨rfl, rfl, rfl, by simp, fun k _ hc => World.putObj_heap_other (fun e => hc (e ▸ hl))⟩

/-- THE CONTRACT OF AN ITERATOR: it hands over xs, one by one, until it is told to stop; it turns its own blocks T and new ones; it leans on what lies ahead of w's end but for U, which the rounds may turn. -/
def Iter {α : Type} (F : Fence) (n : Nat) (P : Program) (g : Nat) (lb : Array Value) (encs : α → Array Value) (T U : Nat → Prop) (xs : List α) (w : World) : Prop :=
  ∀ (l : Nat) (J : Nat → World → Prop) (Jx : World → Prop) (W : World), Ext w W →
    (∀ i A B, J i A → Mv T A B → J i B) → (∀ A B, Jx A → Mv T A B → Jx B) →
    (∃ (fn : FuncId) (tm : Array Value → Array Value) (assign body : Code), ∀ i x W1, J i W1 → xs[i]? = some x →
      (Instr.yield l (encs x)).run P W1 = .ok (.round l fn (tm (encs x)) assign body) W1 ∧
      RoundIn F (n - 1) P l fn (tm (encs x)) assign body W1 fun e W' => ∃ b : Bool, e = .returned (.bool b) ∧ ((b = true ∧ J (i + 1) W' ∧ Mv (fun k => U k ∨ w.heap.size ≤ k) W1 W') ∨ (b = false ∧ Jx W'))) →
    J 0 W →
    CallsIn F n P g (#[.func (.yield l) #[] #[]] ++ lb) W fun e W' => (∃ v, e = .returned v) ∧ (J xs.length W' ∨ Jx W')

/-- HOW THE BODY OF A ROUND MAY BE LEFT. -/
def bodyP (U : Nat → Prop) (B : Nat) (I : Nat → World → Prop) (Ix : Code → World → Prop) (i : Nat) (W : World) : Exit → Act → World → Prop
  | .normal, _, W' => Mv (fun k => U k ∨ B ≤ k) W W' ∧ I (i + 1) W'
  | .ret, _, W' => Mv (fun k => U k ∨ B ≤ k) W W' ∧ Ix .ret W'
  | .exit id, _, W' => Mv (fun k => U k ∨ B ≤ k) W W' ∧ Ix (.exit id) W'
  | .goto t, _, W' => Mv (fun k => U k ∨ B ≤ k) W W' ∧ Ix (.goto t) W'
  | .panic _, _, _ => False
  | .outgrown, _, _ => False

theorem wpIn_range {α : Type} {F : Fence} {n : Nat} {P : Program} {g : Operand} {ps : Array Tmp} {assign body : Code} {Q : Exit → Act → World → Prop} {a : Act} {w : World}
    (hro : F.round = none) (h1 : 1 ≤ n) {gf : Nat} {lb : Array Value} (hg : a.eval g = .func (.func gf) #[] lb) (hFg : F.fn gf) (eg : ∀ args w, (callFunc gf args).run P w = .ok (.enter gf args) w)
    {encs : α → Array Value} {T U : Nat → Prop} {xs : List α} (hseq : Iter F (n - 1) P gf lb encs T U xs w)
    (hT : ∀ k, T k → k < w.heap.size) (hU : ∀ k, U k → k < w.heap.size) (hps : ∀ x, (encs x).size = ps.size)
    (I : Nat → World → Prop) (Ix : Code → World → Prop) (hI : ∀ i A B, I i A → Mv (fun k => T k ∨ k = w.heap.size ∨ k = w.heap.size + 1) A B → I i B)
    (hIx : ∀ c A B, Ix c A → Mv (fun k => T k ∨ k = w.heap.size ∨ k = w.heap.size + 1) A B → Ix c B) (h0 : I 0 w)
    (Ax : α → Act → World → Prop) (hAx : ∀ x a' A B, Ax x a' A → Mv (fun k => k = w.heap.size + 1) A B → Ax x a' B)
    (hassign : ∀ (l i : Nat) (x : α) (W : World) (K : Act → World → Prop), w.heap.size + 2 ≤ W.heap.size → Mv (fun k => T k ∨ U k) w W → I i W → xs[i]? = some x →
      (∀ a' W', Mv (fun k => U k ∨ w.heap.size + 2 ≤ k) W W' → I i W' → Ax x a' W' → K a' W') →
      assign.wpIn (F.inRound l) (n - 1 - 1) P (Exit.then K (fun _ _ _ => False)) { tmps := (ps.zip (encs x)).foldl (fun t (p, v) => t.setIfInBounds p v) a.tmps, defers := [] } W)
    (hbody : ∀ (l i : Nat) (x : α) (a' : Act) (W : World), w.heap.size ≤ l → (∃ r, W.heap[l]? = some (.loop r)) → w.heap.size + 2 ≤ W.heap.size → Mv (fun k => T k ∨ U k) w W → I i W → xs[i]? = some x → Ax x a' W →
      body.wpIn (F.inRound l) (n - 1 - 1) P (bodyP U (w.heap.size + 2) I Ix i W) a' W)
    (hdone : ∀ (W : World), I xs.length W → Mv (fun k => T k ∨ U k) w W → W.heap[w.heap.size]? = some (.deferred (some [])) → Q .normal { a with defers := { target := .collected w.heap.size, args := #[] } :: a.defers } W)
    (hstop : ∀ (c : Code) (W : World), Ix c W → Mv (fun k => T k ∨ U k) w W → W.heap[w.heap.size]? = some (.deferred (some [])) → c.wpIn F n P Q { a with defers := { target := .collected w.heap.size, args := #[] } :: a.defers } W) :
    (Code.rangeFunc g ps assign body).wpIn F n P Q a w := by
  refine wpIn_rangeFunc ?_
  intro fn hfn
  rw [hro]
  obtain ⟨rec, hrec⟩ : ∃ rec : LoopState → Option Code → Loop, rec = fun st pe => { state := st, pending := pe, fn, tmps := a.tmps, params := ps, assign, body, defers := w.heap.size } := ⟨_, rfl⟩
  obtain ⟨W1, hW1⟩ : ∃ W1, (w.alloc (.deferred (some []))).alloc (.loop (rec .ready none)) = W1 := ⟨_, rfl⟩
  have hL1 : W1.heap[w.heap.size + 1]? = some (.loop (rec .ready none)) := by
    rw [← hW1]; have := World.alloc_heap_new (w.alloc (.deferred (some []))) (.loop (rec .ready none)); rwa [World.size_alloc] at this
  have hK1 : W1.heap[w.heap.size]? = some (.deferred (some [])) := by
    rw [← hW1]; exact (Below.heap_alloc _ _ _ (by simp)).trans (World.alloc_heap_new w _)
  have hb1 : Ext w W1 := by rw [← hW1]; exact Ext.al (Ext.al (Ext.rf _) _) _
  have hI1 : I 0 W1 := hI 0 _ _ h0 (Mv.of_ext hb1)
  refine ⟨w.heap.size + 1, [{ target := .collected w.heap.size, args := #[] }], W1, { target := .fn (.func gf) lb, args := #[.func (.yield (w.heap.size + 1)) #[] #[]] }, W1, gf,
    #[.func (.yield (w.heap.size + 1)) #[] #[]] ++ lb, W1, ?_, ?_, ?_, ?_, fun _ => h1, ?_⟩
  · rw [← hW1, hrec]; exact run_enterLoop_outer _ _ _ _ _
  · simp only [resolve, hg]
    simp [go_sem]
  · intro f' hf'; simp [Target.leads] at hf'; subst hf'; exact hFg
  · simp [invoke, go_sem, eg]
  · have hsame : ∀ {k : Nat} {A B : World} {o : Obj}, w.heap.size ≤ k → A.heap[k]? = some o → Mv T A B → B.heap[k]? = some o := fun hk ha hm =>
      (hm.same _ (Array.getElem?_eq_some_iff.1 ha).1 (fun ht => by have := hT _ ht; omega)).trans ha
    refine (hseq (w.heap.size + 1)
      (fun i W => I i W ∧ Mv (fun k => T k ∨ U k) w W ∧ W.heap[w.heap.size + 1]? = some (.loop (rec .ready none)) ∧ W.heap[w.heap.size]? = some (.deferred (some [])))
      (fun W => ∃ c, Ix c W ∧ Mv (fun k => T k ∨ U k) w W ∧ W.heap[w.heap.size + 1]? = some (.loop (rec .done (some c))) ∧ W.heap[w.heap.size]? = some (.deferred (some [])))
      W1 hb1
      (fun i A B hs hm => ⟨hI i A B hs.1 (hm.mono fun _ _ h => .inl h), hs.2.1.trans (hm.mono fun _ _ h => .inl h), hsame (by omega) hs.2.2.1 hm, hsame (Nat.le_refl _) hs.2.2.2 hm⟩)
      (fun A B hs hm => by
        obtain ⟨c, hc, hv, hl, hk⟩ := hs
        exact ⟨c, hIx c A B hc (hm.mono fun _ _ h => .inl h), hv.trans (hm.mono fun _ _ h => .inl h), hsame (by omega) hl hm, hsame (Nat.le_refl _) hk hm⟩)
      ?_ ⟨hI1, Mv.of_ext hb1, hL1, hK1⟩).mono ?_
    · refine ⟨fn, fun args => (ps.zip args).foldl (fun t (p, v) => t.setIfInBounds p v) a.tmps, assign, body, ?_⟩
      rintro i x W ⟨hi, hv, hl, hk⟩ hx
      have hlt : w.heap.size + 1 < W.heap.size := (Array.getElem?_eq_some_iff.1 hl).1
      have hy := run_yield (P := P) (args := encs x) hl (by rw [hrec]; exact hps x)
      rw [hrec] at hy
      refine ⟨hy, roundIn_of_wpIn hfn (hassign _ i x W _ (by omega) hv hi hx ?_)⟩
      clear hy
      intro a' Wa hma hia hax
      have keepU : ∀ {k : Nat} {A B : World} {o : Obj}, w.heap.size ≤ k → k < w.heap.size + 2 → A.heap[k]? = some o → Mv (fun k => U k ∨ w.heap.size + 2 ≤ k) A B → B.heap[k]? = some o := fun hk1 hk2 ha hm =>
        (hm.same _ (Array.getElem?_eq_some_iff.1 ha).1 (fun ht => by rcases ht with ht | ht; (have := hU _ ht; omega); omega)).trans ha
      have hla := keepU (by omega) (by omega) hl hma
      have hka := keepU (Nat.le_refl _) (by omega) hk hma
      have hva : Mv (fun k => T k ∨ U k) w Wa :=
        ⟨hma.os.trans hv.os, hma.tape.trans hv.tape, hma.output.trans hv.output, Nat.le_trans hv.size hma.size, fun k hk hc => (hma.same k (Nat.lt_of_lt_of_le hk hv.size) (fun hh => by rcases hh with hh | hh; exact hc (.inr hh); omega)).trans (hv.same k hk hc)⟩
      have hlta : w.heap.size + 1 < Wa.heap.size := (Array.getElem?_eq_some_iff.1 hla).1
      refine ⟨_, run_beginRound hla (by rw [hrec]), ?_⟩
      have hput : ∀ (A : World) (o : Obj), Mv (fun k => k = w.heap.size + 1) A (A.putObj (w.heap.size + 1) o) := fun A o => Mv.put A _ o rfl
      have hputT : ∀ (A : World) (o : Obj), Mv (fun k => T k ∨ k = w.heap.size ∨ k = w.heap.size + 1) A (A.putObj (w.heap.size + 1) o) := fun A o => Mv.put A _ o (.inr (.inr rfl))
      have hputV : ∀ (A : World) (o : Obj), Mv (fun k => T k ∨ U k) w A → Mv (fun k => T k ∨ U k) w (A.putObj (w.heap.size + 1) o) := fun A o h =>
        ⟨h.os, h.tape, h.output, by simpa using h.size, fun k hk hc => (World.putObj_heap_other (by omega)).trans (h.same k hk hc)⟩
      obtain ⟨Wb, hWb⟩ : ∃ Wb, Wb = Wa.putObj (w.heap.size + 1) (.loop { rec .ready none with state := .busy }) := ⟨_, rfl⟩
      rw [← hWb]
      have hl2 : Wb.heap[w.heap.size + 1]? = some (.loop { rec .ready none with state := .busy }) := by rw [hWb]; exact World.putObj_heap_same hlta
      have hk2 : Wb.heap[w.heap.size]? = some (.deferred (some [])) := by rw [hWb]; exact (World.putObj_heap_other (by omega)).trans hka
      have hvb : Mv (fun k => T k ∨ U k) w Wb := by rw [hWb]; exact hputV _ _ hva
      have hib : I i Wb := by rw [hWb]; exact hI _ _ _ hia (hputT _ _)
      have haxb : Ax x a' Wb := by rw [hWb]; exact hAx _ _ _ _ hax (hput _ _)
      have hsb : w.heap.size + 2 ≤ Wb.heap.size := by rw [hWb]; simp; omega
      refine wpIn_mono (hbody (w.heap.size + 1) i x a' Wb (by omega) ⟨_, hl2⟩ hsb hvb hib hx haxb) ?_
      have fin : ∀ (jump : Option Code) (W3 : World), Mv (fun k => U k ∨ w.heap.size + 2 ≤ k) Wb W3 →
          (Instr.endRound (w.heap.size + 1) jump).run P W3 = .ok (.bool jump.isNone) (W3.putObj (w.heap.size + 1) (.loop (rec (if jump.isNone then .ready else .done) jump))) ∧
          Mv (fun k => T k ∨ U k) w (W3.putObj (w.heap.size + 1) (.loop (rec (if jump.isNone then .ready else .done) jump))) ∧
          (W3.putObj (w.heap.size + 1) (.loop (rec (if jump.isNone then .ready else .done) jump))).heap[w.heap.size + 1]? = some (.loop (rec (if jump.isNone then .ready else .done) jump)) ∧
          (W3.putObj (w.heap.size + 1) (.loop (rec (if jump.isNone then .ready else .done) jump))).heap[w.heap.size]? = some (.deferred (some [])) := fun jump W3 hm3 => by
        have hl3 := keepU (by omega) (by omega) hl2 hm3
        have := run_endRound (P := P) jump hl3
        rw [hrec] at this ⊢
        refine ⟨this, ?_, World.putObj_heap_same (Array.getElem?_eq_some_iff.1 hl3).1, (World.putObj_heap_other (by omega)).trans (keepU (Nat.le_refl _) (by omega) hk2 hm3)⟩
        exact hputV _ _ ⟨hm3.os.trans hvb.os, hm3.tape.trans hvb.tape, hm3.output.trans hvb.output, Nat.le_trans hvb.size hm3.size, fun k hk hc => (hm3.same k (Nat.lt_of_lt_of_le hk hvb.size) (fun hh => by rcases hh with hh | hh; exact hc (.inr hh); omega)).trans (hvb.same k hk hc)⟩
      rintro e a3 W3 hp
      cases e with
      | normal =>
        obtain ⟨hm3, hi3⟩ := hp
        obtain ⟨hr, hv4, hl4, hk4⟩ := fin none W3 hm3
        refine ⟨_, _, hr, true, rfl, .inl ⟨rfl, ⟨hI _ _ _ hi3 (hputT _ _), hv4, hl4, hk4⟩, ?_⟩⟩
        have e1 : Mv (fun k => U k ∨ w.heap.size ≤ k) W Wa := hma.mono fun k _ h => h.imp id (fun h => by omega)
        have e2 : Mv (fun k => U k ∨ w.heap.size ≤ k) Wa Wb := by rw [hWb]; exact (hput _ _).mono fun k _ h => .inr (by omega)
        have e3 : Mv (fun k => U k ∨ w.heap.size ≤ k) Wb W3 := hm3.mono fun k _ h => h.imp id (fun h => by omega)
        exact ((e1.trans e2).trans e3).trans ((hput _ _).mono fun k _ h => .inr (by omega))
      | ret =>
        obtain ⟨hm3, hi3⟩ := hp
        obtain ⟨hr, hv4, hl4, hk4⟩ := fin (some .ret) W3 hm3
        exact ⟨_, _, hr, false, rfl, .inr ⟨rfl, .ret, hIx _ _ _ hi3 (hputT _ _), hv4, hl4, hk4⟩⟩
      | exit id =>
        obtain ⟨hm3, hi3⟩ := hp
        obtain ⟨hr, hv4, hl4, hk4⟩ := fin (some (.exit id)) W3 hm3
        exact ⟨_, _, hr, false, rfl, .inr ⟨rfl, .exit id, hIx _ _ _ hi3 (hputT _ _), hv4, hl4, hk4⟩⟩
      | goto t =>
        obtain ⟨hm3, hi3⟩ := hp
        obtain ⟨hr, hv4, hl4, hk4⟩ := fin (some (.goto t)) W3 hm3
        exact ⟨_, _, hr, false, rfl, .inr ⟨rfl, .goto t, hIx _ _ _ hi3 (hputT _ _), hv4, hl4, hk4⟩⟩
      | panic ch => exact hp.elim
      | outgrown => exact hp.elim
    · have hputT : ∀ (A : World) (o : Obj), Mv (fun k => T k ∨ k = w.heap.size ∨ k = w.heap.size + 1) A (A.putObj (w.heap.size + 1) o) := fun A o => Mv.put A _ o (.inr (.inr rfl))
      have hputV : ∀ (A : World) (o : Obj), Mv (fun k => T k ∨ U k) w A → Mv (fun k => T k ∨ U k) w (A.putObj (w.heap.size + 1) o) := fun A o h =>
        ⟨h.os, h.tape, h.output, by simpa using h.size, fun k hk hc => (World.putObj_heap_other (by omega)).trans (h.same k hk hc)⟩
      rintro e W2 ⟨⟨v, rfl⟩, (⟨hi, hv, hl, hk⟩ | ⟨c, hi, hv, hl, hk⟩)⟩
      · exact ⟨none, _, by have := run_endLoop (P := P) hl (by rw [hrec]; simp); rw [hrec] at this; exact this, hdone _ (hI _ _ _ hi (hputT _ _)) (hputV _ _ hv) ((World.putObj_heap_other (by omega)).trans hk)⟩
      · exact ⟨some c, _, by have := run_endLoop (P := P) hl (by rw [hrec]; simp); rw [hrec] at this; exact this, hstop c _ (hIx _ _ _ hi (hputT _ _)) (hputV _ _ hv) ((World.putObj_heap_other (by omega)).trans hk)⟩

end Go.Proofs.Ytookffaojlkfaaa

/- Slices that a loop over an iterator fills: what they own, behind turns of other blocks. -/
namespace Go.Proofs.Ytookffaojlkfaaa
open Go.RowKit

theorem Mv.of_grown {C : Nat → Prop} {A B : World} {row : Option Nat} (h : A.grownBy B row) (hr : ∀ r, row = some r → C r ∨ A.heap.size ≤ r) : Mv C A B :=
  ⟨h.os, h.tape, h.output, h.size, fun k hk hc => h.block k hk (fun e => by rcases hr k e.symm with h | h; exact hc h; omega)⟩
theorem boxed_mv {A B : World} {b : Nat} {t : TypeId} {v : Value} {C : Nat → Prop} (h : Boxed A b t v) (hm : Mv C A B) (hb : ¬ C b) : Boxed B b t v :=
  (hm.same b h.lt hb).trans h
theorem ownsRow_mv {A B : World} {C : Nat → Prop} {base : Nat} {e : TypeId} {size : Nat} {v : Value} {n : Nat} {xs : List Value} (h : A.ownsRow base e size v n xs) (hm : Mv C A B) (hc : ∀ k, base ≤ k → ¬ C k) : B.ownsRow base e size v n xs := by
  refine ⟨h.1, ?_⟩
  rcases h.2 with h | ⟨g, cap, cur, rfl, hg, hgb, h1, h2, h3, h4⟩
  · exact .inl h
  · exact .inr ⟨g, cap, cur, rfl, hg, (hm.same g (Array.getElem?_eq_some_iff.1 hgb).1 (hc g hg)).trans hgb, h1, h2, h3, h4⟩
theorem ownBlock_ge {A : World} {base : Nat} {e : TypeId} {size : Nat} {v : Value} {n : Nat} {xs : List Value} (h : A.ownsRow base e size v n xs) : ∀ r, v.ownBlock = some r → base ≤ r := by
  intro r hr
  rcases h.2 with ⟨rfl, _⟩ | ⟨g, cap, cur, rfl, hg, _⟩
  · cases hr
  · simp only [Value.ownBlock, Option.some.injEq] at hr; omega
theorem ownsRow_le {A : World} {base base' : Nat} {e : TypeId} {size : Nat} {v : Value} {n : Nat} {xs : List Value} (h : A.ownsRow base e size v n xs) (hb : base' ≤ base) : A.ownsRow base' e size v n xs := by
  refine ⟨h.1, ?_⟩
  rcases h.2 with h | ⟨g, cap, cur, rfl, hg, r⟩
  · exact .inl h
  · exact .inr ⟨g, cap, cur, rfl, by omega, r⟩
/-- The cells of a slice that owns a row. -/
theorem ownsRow_cell {A : World} {base : Nat} {e : TypeId} {size : Nat} {v : Value} {n : Nat} {xs : List Value} (h : A.ownsRow base e size v n xs) (hn : 0 < n) :
    ∃ g cap, v = .slice (some ⟨g, 0, none⟩) n cap ∧ g < A.heap.size ∧ n ≤ cap ∧ cap ≤ maxLen ∧ ∀ j u, xs[j]? = some u → A.cell? ⟨g, j, none⟩ = some u := by
  rcases h.2 with ⟨_, h0⟩ | ⟨g, cap, cur, rfl, hg, hgb, h1, h2, h3, h4⟩
  · omega
  · refine ⟨g, cap, rfl, (Array.getElem?_eq_some_iff.1 hgb).1, h1, h2, fun j u hu => ?_⟩
    have hj : j < n * size := by rw [← h.1]; exact (List.getElem?_eq_some_iff.1 hu).1
    rw [← h4, List.getElem?_take_of_lt hj] at hu
    simp only [World.cell?, hgb]
    simpa using hu
theorem ownsRow_slice {A : World} {base : Nat} {e : TypeId} {size : Nat} {v : Value} {n : Nat} {xs : List Value} (h : A.ownsRow base e size v n xs) : ∃ p n c, v = .slice p n c := by
  rcases h.2 with ⟨rfl, _⟩ | ⟨g, cap, cur, rfl, _⟩ <;> exact ⟨_, _, _, rfl⟩
theorem cell_two_new (w : World) (a b : Value) (t : TypeId) : ∀ j u, [a, b][j]? = some u → (w.alloc (.cells #[a, b] t)).cell? ((⟨w.heap.size, 0, none⟩ : Addr).add j) = some u := by
  intro j u hu
  have e : (⟨w.heap.size, 0, none⟩ : Addr).add j = ⟨w.heap.size, j, none⟩ := by unfold Addr.add; split <;> simp_all
  rw [e, cell_rowD, rowD_new]
  simpa using hu

end Go.Proofs.Ytookffaojlkfaaa

/- A region that draws and holds one yield: what reads is taken first, the round comes in turn. (My own law; any program.) -/
namespace Go.Proofs.Ytookffaojlkfaaa
open Go.RowKit

section
variable {P : Program} {ops : Array Oper} {md : Region.Mode} {n : Nat} {r : Nat}
def xUponR (n : Nat) (P : Program) (N : Value → World → Prop) : Result Next → Prop
  | .ok (.value u) w' => N u w'
  | .ok .skip w' => N undef w'
  | .ok (.round l f tmps assign body) w' => RoundIn Fence.wide (n - 1) P l f tmps assign body w' (fun e w'' => ∃ v, e = .returned v ∧ N v w'')
  | _ => False
theorem xUponR_mono {N N' : Value → World → Prop} (h : ∀ v w, N v w → N' v w) : ∀ r : Result Next, xUponR n P N r → xUponR n P N' r
  | .ok (.value u) w', hh => h _ _ hh
  | .ok .skip w', hh => h _ _ hh
  | .ok (.round l f tmps assign body) w', hh => RoundIn.mono hh fun e w'' ⟨v, h1, h2⟩ => ⟨v, h1, h _ _ h2⟩
def xOpR (n : Nat) (P : Program) (ops : Array Oper) (i : Nat) (K : Act → World → Prop) (a : Act) (w : World) : Prop :=
  match ops[i]? with
  | none => K a w
  | some o => if Region.wanted o (yielded ops a.tmps) = true then xUponR n P (fun v w' => K (a.put o.dst v) w') ((execOp a.eval o).run P w) else K (a.put o.dst undef) w
theorem xOpR_mono {i : Nat} {a : Act} {w : World} {K K' : Act → World → Prop} (h : ∀ a w, K a w → K' a w) (hh : xOpR n P ops i K a w) : xOpR n P ops i K' a w := by
  unfold xOpR at *
  split
  · exact h _ _ (by simpa [*] using hh)
  · rename_i o ho
    simp only [ho] at hh
    split
    · rename_i hw; simp only [hw, if_true] at hh; exact xUponR_mono (fun v w' h1 => h _ _ h1) _ hh
    · rename_i hw; simp only [hw] at hh; exact h _ _ hh
theorem wpOpIn_of_R {i : Nat} {a : Act} {w : World} {K : Act → World → Prop} {Q : Exit → Act → World → Prop} (hh : xOpR n P ops i K a w) : wpOpIn Fence.wide n P ops Q i K a w := by
  unfold xOpR at hh
  unfold wpOpIn
  split
  · rename_i ho; simp only [ho] at hh; exact hh
  · rename_i o ho
    simp only [ho] at hh
    split
    · rename_i hw
      simp only [hw, if_true] at hh
      refine ⟨fun _ _ => trivial, ?_⟩
      show o.uponIn Fence.wide n P a K Q ((execOp a.eval o).run P w)
      generalize (execOp a.eval o).run P w = q at *
      cases q with
      | ok x w' =>
        cases x <;> simp only [xUponR] at hh <;> simp only [Oper.uponIn]
        case value u => exact hh
        case skip => exact hh
        case round l f tmps assign body => exact ⟨fun h => by simp [Fence.wide] at h, hh.mono fun e w'' ⟨v, he, hw''⟩ => by subst he; exact hw''⟩
      | halt x w' => simp only [xUponR] at hh
    · rename_i hw; simp only [hw] at hh; exact ⟨fun _ _ => trivial, hh⟩
/-- Whatever order is picked from here on; each operation but r makes new blocks alone. -/
def wpAnyR (n : Nat) (P : Program) (md : Region.Mode) (ops : Array Oper) (r : Nat) (Q : Act → World → Prop) : Nat → Array Bool → Act → World → Prop
  | 0, listed, a, w => Region.ready md ops listed = [] ∧ Q a w
  | fuel + 1, listed, a, w => (Region.ready md ops listed = [] → Q a w) ∧
    ∀ i ∈ Region.ready md ops listed, xOpR n P ops i (fun a' w' => (i = r ∨ Ext w w') ∧ wpAnyR n P md ops r Q fuel (listed.setIfInBounds i true) a' w') a w
theorem wpAnyIn_of_R {Q : Act → World → Prop} {Q' : Exit → Act → World → Prop} (hQ : ∀ a w, Q a w → Q' .normal a w) : ∀ (fuel : Nat) (listed : Array Bool) (a : Act) (w : World),
    wpAnyR n P md ops r Q fuel listed a w → wpAnyIn Fence.wide n P md ops Q' fuel listed a w
  | 0, _, _, _, h => ⟨h.1, hQ _ _ h.2⟩
  | fuel + 1, _, _, _, h => ⟨fun h0 => hQ _ _ (h.1 h0), fun i hi => wpOpIn_of_R (xOpR_mono (fun a' w' h1 => wpAnyIn_of_R hQ fuel _ a' w' h1.2) (h.2 i hi))⟩
/-- In state 'a', in every world that w grows to, 'o' yields v and does nothing else. -/
def YieldsR (P : Program) (ops : Array Oper) (w : World) (o : Oper) (v : Value) (a : Act) : Prop :=
  (Region.wanted o (yielded ops a.tmps) = true ∧ ∀ w', Ext w w' → (execOp a.eval o).run P w' = .ok (.value v) w') ∨ (Region.wanted o (yielded ops a.tmps) = false ∧ v = undef)
theorem YieldsR.later {w w' : World} {o : Oper} {v : Value} {a : Act} (h : YieldsR P ops w o v a) (e : Ext w w') : YieldsR P ops w' o v a := by
  rcases h with ⟨h1, h2⟩ | h
  · exact .inl ⟨h1, fun w2 e2 => h2 w2 (e.tr e2)⟩
  · exact .inr h
theorem YieldsR.xOp {w : World} {i : Nat} {o : Oper} {v : Value} {a : Act} (hi : ops[i]? = some o) (hy : YieldsR P ops w o v a) {K : Act → World → Prop} (h : K (a.put o.dst v) w) : xOpR n P ops i K a w := by
  unfold xOpR
  simp only [hi]
  rcases hy with ⟨hw, hv⟩ | ⟨hw, rfl⟩
  · simp only [hw, if_true, hv w (Ext.rf _), xUponR]; exact h
  · simp only [hw, Bool.false_eq_true, if_false]; exact h
theorem xOpR_put {j : Nat} {oi oj : Oper} {v : Value} {w : World} (hj : ops[j]? = some oj) (hap : oi.apart ops oj = true)
    (hsi : ∀ cs b, oi.op ≠ .select cs b) (hsj : ∀ cs b, oj.op ≠ .select cs b) {K : Act → World → Prop} {a : Act}
    (hy : YieldsR P ops w oi v a) (h : xOpR n P ops j K (a.put oi.dst v) w) :
    xOpR n P ops j (fun a' w' => YieldsR P ops w oi v a' ∧ K (a'.put oi.dst v) w') a w := by
  obtain ⟨h1, h2, h3⟩ := Oper.apart_spec hap
  have keep : ∀ u, YieldsR P ops w oi v (a.put oj.dst u) := fun u => by
    unfold YieldsR at *
    rw [execOp_put oi hsi a oj.dst u h3, wanted_put oi a oj.dst u h3]
    exact hy
  unfold xOpR at *
  simp only [hj] at *
  rw [wanted_put oj a oi.dst v h1] at h
  split
  · rename_i hw
    simp only [hw, if_true] at h
    rw [execOp_put oj hsj a oi.dst v h1] at h
    exact xUponR_mono (fun u w' h4 => ⟨keep u, by rw [← Act.put_comm a v u h2]; exact h4⟩) _ h
  · rename_i hw
    simp only [hw] at h
    exact ⟨keep _, by rw [← Act.put_comm a v undef h2]; exact h⟩
/-- What is done has all done that it waits for. -/
def closedX (md : Region.Mode) (ops : Array Oper) (listed : Array Bool) : Prop := ∀ k o, ops[k]? = some o → listed.getD k true = true → ∀ e ∈ o.after, Region.binds md e = true → listed.getD e.on false = true
theorem closedX.set {listed : Array Bool} {j : Nat} (h : closedX md ops listed) (hj : j ∈ Region.ready md ops listed) : closedX md ops (listed.setIfInBounds j true) := by
  intro k o hk hl e he hb
  refine getD_set_true ?_
  by_cases hjk : k = j
  · subst hjk
    obtain ⟨-, oj, hoj, hall⟩ := mem_ready.1 hj
    rw [hk] at hoj
    cases hoj
    exact hall e he hb
  · rw [getD_set_ne true (Ne.symm hjk)] at hl
    exact h k o hk hl e he hb
/-- Each of the row waits for the one ahead of it. -/
def waitsB (md : Region.Mode) (ops : Array Oper) : List Nat → Bool
  | a :: b :: rest => ((ops[b]?).map (fun o => o.after.any fun e => Region.binds md e && e.on == a)).getD false && waitsB md ops (b :: rest)
  | _ => true
theorem waits_listed {listed : Array Bool} (hc : closedX md ops listed) (hr : r ∈ Region.ready md ops listed) : ∀ (l : List Nat) (a : Nat), waitsB md ops (a :: l) = true → (a :: l).getLast? = some r → a ≠ r → listed.getD a false = true
  | [], a, _, hl, hn => by simp at hl; exact absurd hl hn
  | b :: rest, a, hw, hl, _ => by
    unfold waitsB at hw
    rw [Bool.and_eq_true] at hw
    obtain ⟨h1, h2⟩ := hw
    cases ho : ops[b]? with
    | none => rw [ho] at h1; simp at h1
    | some o =>
      rw [ho] at h1
      simp only [Option.map_some, Option.getD_some, Array.any_eq_true', Bool.and_eq_true, beq_iff_eq] at h1
      obtain ⟨e, he, hb, hon⟩ := h1
      by_cases hbr : b = r
      · subst hbr
        obtain ⟨-, oj, hoj, hall⟩ := mem_ready.1 hr
        rw [ho] at hoj
        cases hoj
        rw [← hon]; exact hall e he hb
      · have hbl := waits_listed hc hr rest b h2 (by simpa using hl) hbr
        have hbt : listed.getD b true = true := by
          rcases Nat.lt_or_ge b listed.size with h' | h'
          · simp [h'] at hbl ⊢; exact hbl
          · simp [Array.getElem?_eq_none h']
        rw [← hon]; exact hc b o ho hbt e he hb
/-- What reads may be taken first, where the round waits for it. -/
theorem wpAnyR_first {Q : Act → World → Prop} {i : Nat} {oi : Oper} {v : Value} {l : List Nat} (hi : ops[i]? = some oi) (hsel : ∀ (j : Nat) (o : Oper) cs b, ops[j]? = some o → o.op ≠ .select cs b)
    (hwt : waitsB md ops (i :: l) = true) (hla : (i :: l).getLast? = some r) (hir : i ≠ r) :
    ∀ (fuel : Nat) (listed : Array Bool) (a : Act) (w : World), closedX md ops listed →
      (∀ j oj, ops[j]? = some oj → j ≠ i → listed.getD j true = false → (∀ e ∈ oj.after, Region.binds md e = true → e.on ≠ i) → oi.apart ops oj = true) →
      i ∈ Region.ready md ops listed → YieldsR P ops w oi v a →
      wpAnyR n P md ops r Q fuel (listed.setIfInBounds i true) (a.put oi.dst v) w → wpAnyR n P md ops r Q (fuel + 1) listed a w := by
  intro fuel
  induction fuel with
  | zero =>
    intro listed a w _ _ hr hy H
    refine ⟨fun h => (by rw [h] at hr; cases hr), fun j hj => ?_⟩
    by_cases hji : j = i
    · subst hji; exact hy.xOp hi ⟨.inr (Ext.rf _), H⟩
    · have := ready_mono hj hji
      rw [H.1] at this
      cases this
  | succ fuel ih =>
    intro listed a w hcl hfree hr hy H
    refine ⟨fun h => (by rw [h] at hr; cases hr), fun j hj => ?_⟩
    by_cases hji : j = i
    · subst hji; exact hy.xOp hi ⟨.inr (Ext.rf _), H⟩
    · have hjr : j ≠ r := fun e => by
        subst e
        have h1 := waits_listed hcl hj l i hwt hla hir
        have h0 := (mem_ready.1 hr).1
        rcases Nat.lt_or_ge i listed.size with h' | h'
        · simp [h'] at h0 h1; rw [h0] at h1; cases h1
        · simp [Array.getElem?_eq_none h'] at h1
      have h1 := H.2 j (ready_mono hj hji)
      obtain ⟨hjun, oj, hoj, hall⟩ := mem_ready.1 hj
      have hnot : ∀ e ∈ oj.after, Region.binds md e = true → e.on ≠ i := fun e he hb heq => by
        have h1 := hall e he hb
        have h0 := (mem_ready.1 hr).1
        rw [heq] at h1
        rcases Nat.lt_or_ge i listed.size with h' | h'
        · simp [h'] at h0 h1; rw [h0] at h1; cases h1
        · simp [Array.getElem?_eq_none h'] at h1
      have h2 := xOpR_put hoj (hfree j oj hoj hji hjun hnot) (fun cs b => hsel i oi cs b hi) (fun cs b => hsel j oj cs b hoj) hy h1
      have hfree' : ∀ k ok, ops[k]? = some ok → k ≠ i → (listed.setIfInBounds j true).getD k true = false →
          (∀ e ∈ ok.after, Region.binds md e = true → e.on ≠ i) → oi.apart ops ok = true := fun k ok hk hki hun hno => by
        refine hfree k ok hk hki ?_ hno
        by_cases hjk : j = k
        · subst hjk; exact hjun
        · rw [getD_set_ne true hjk] at hun; exact hun
      refine xOpR_mono (fun a' w' h3 => ⟨h3.2.1, ih (listed.setIfInBounds j true) a' w' (hcl.set hj) hfree' (ready_mono hr (Ne.symm hji)) (h3.1.later (h3.2.1.resolve_left hjr)) ?_⟩) h2
      have h4 := h3.2.2
      rw [Array.setIfInBounds_comm _ _ hji]
      exact h4
def closedB (md : Region.Mode) (ops : Array Oper) (listed : Array Bool) : Bool := (List.range ops.size).all fun k => !listed.getD k true || ((ops[k]?).map (·.after.all fun e => !Region.binds md e || listed.getD e.on false)).getD true
theorem closed_of {listed : Array Bool} (h : closedB md ops listed = true) : closedX md ops listed := by
  intro k o hk hl e he hb
  unfold closedB at h
  have hks : k < ops.size := (Array.getElem?_eq_some_iff.1 hk).1
  have := List.all_eq_true.1 h k (List.mem_range.2 hks)
  rw [hl, hk] at this
  simp only [Bool.not_true, Bool.false_or, Option.map_some, Option.getD_some, Array.all_eq_true', Bool.or_eq_true, Bool.not_eq_true'] at this
  rcases this e he with h1 | h1
  · rw [hb] at h1; cases h1
  · exact h1
theorem takeR {Q : Act → World → Prop} {N k : Nat} {l : List Nat} {oi : Oper} {v : Value} {fuel : Nat} {a : Act} {w : World} (hs : Region.noSelect ops = true) (hok : okX ops N k = true)
    (hcl : closedB .any ops (lst N k) = true) (hwt : waitsB .any ops (k :: l) = true) (hla : (k :: l).getLast? = some r) (hir : k ≠ r) (hi : ops[k]? = some oi) (hw : Region.wanted oi (yielded ops a.tmps) = true)
    (hy : ∀ w', Ext w w' → (execOp a.eval oi).run P w' = .ok (.value v) w')
    (H : wpAnyR n P .any ops r Q fuel (lst N (k + 1)) (a.put oi.dst v) w) : wpAnyR n P .any ops r Q (fuel + 1) (lst N k) a w := by
  unfold okX at hok
  rw [Bool.and_eq_true] at hok
  refine wpAnyR_first hi (Region.noSelect_spec hs) hwt hla hir fuel _ a w (closed_of hcl) (Region.free_spec hi hok.1) (by simpa using upX_ready hok.2) (.inl ⟨hw, hy⟩) ?_
  rw [lst_set]
  exact H
theorem soleR {Q : Act → World → Prop} {N k : Nat} {oi : Oper} {fuel : Nat} {a : Act} {w : World} (hr : Region.ready .any ops (lst N k) = [k]) (hi : ops[k]? = some oi) (hw : Region.wanted oi (yielded ops a.tmps) = true)
    (H : xUponR n P (fun v w' => (k = r ∨ Ext w w') ∧ wpAnyR n P .any ops r Q fuel (lst N (k + 1)) (a.put oi.dst v) w') ((execOp a.eval oi).run P w)) : wpAnyR n P .any ops r Q (fuel + 1) (lst N k) a w := by
  refine ⟨fun h0 => ?_, fun j hj => ?_⟩
  · rw [hr] at h0; cases h0
  · rw [hr] at hj
    obtain rfl : j = k := by simpa using hj
    unfold xOpR
    simp only [hi, hw, if_true]
    rw [lst_set]
    exact H
/-- The yield comes up alone. -/
theorem roundR {Q : Act → World → Prop} {N : Nat} {oi : Oper} {fuel : Nat} {a : Act} {w : World} {l : Nat} {f : FuncId} {tm : Array Value} {asg bo : Code} (hr : Region.ready .any ops (lst N r) = [r]) (hi : ops[r]? = some oi) (hw : Region.wanted oi (yielded ops a.tmps) = true)
    (he : (execOp a.eval oi).run P w = .ok (.round l f tm asg bo) w) {R : Ending → World → Prop} (hR : RoundIn Fence.wide (n - 1) P l f tm asg bo w R)
    (H : ∀ e w', R e w' → ∃ v, e = .returned v ∧ wpAnyR n P .any ops r Q fuel (lst N (r + 1)) (a.put oi.dst v) w') : wpAnyR n P .any ops r Q (fuel + 1) (lst N r) a w := by
  refine soleR hr hi hw ?_
  rw [he]
  exact hR.mono fun e w' h => by
    obtain ⟨v, h1, h2⟩ := H e w' h
    exact ⟨v, h1, .inl rfl, h2⟩
theorem valueR {Q : Act → World → Prop} {N k : Nat} {oi : Oper} {v : Value} {fuel : Nat} {a : Act} {w : World} (hr : Region.ready .any ops (lst N k) = [k]) (hi : ops[k]? = some oi) (hw : Region.wanted oi (yielded ops a.tmps) = true)
    (he : (execOp a.eval oi).run P w = .ok (.value v) w) (H : wpAnyR n P .any ops r Q fuel (lst N (k + 1)) (a.put oi.dst v) w) : wpAnyR n P .any ops r Q (fuel + 1) (lst N k) a w := by
  refine soleR hr hi hw ?_
  rw [he]
  exact ⟨.inr (Ext.rf _), H⟩
theorem doneR {Q : Act → World → Prop} {fuel : Nat} {listed : Array Bool} {a : Act} {w : World} (hr : Region.ready md ops listed = []) (H : Q a w) : wpAnyR n P md ops r Q fuel listed a w := by
  cases fuel with
  | zero => exact ⟨hr, H⟩
  | succ m => exact ⟨fun _ => H, fun i hi => by rw [hr] at hi; cases hi⟩
theorem wp_region_R (r : Nat) {id : Nat} {Q : Exit → Act → World → Prop} {a : Act} {w : World} (hm : P.follows .mixedOrders = true)
    (h : wpAnyR n P .any ops r (fun a w => Q .normal a w) ops.size (Array.replicate ops.size false) a w.drew) : (Code.region id ops true).wpIn Fence.wide n P Q a w :=
  wpIn_region_any hm (wpAnyIn_of_R (fun _ _ h => h) _ _ _ _ h)
theorem withR {P : Program} {ops E : Array Oper} {Q : Act → World → Prop} {N : Nat} {a : Act} {w : World} {R : Array Oper → Prop} (h : ops = E) (hR : R E) (hf : ops.size = N)
    (H : R ops → wpAnyR n P .any ops r Q N (lst N 0) a w) : wpAnyR n P .any ops r Q ops.size (Array.replicate ops.size false) a w := by
  rw [hf, lst_zero]; exact H (h ▸ hR)
end

end Go.Proofs.Ytookffaojlkfaaa
