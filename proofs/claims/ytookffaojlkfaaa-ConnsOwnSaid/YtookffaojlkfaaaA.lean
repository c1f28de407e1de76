/- Small lemmas on worlds and scopes that the walks of this seat share. -/
import Derived.Test.YtookffaojlkfaaaProg
import Derived.ScopeJumps
import Derived.Lib.Hide
import Derived.Deep.DeepFit
import Derived.Deep.DeepCutAuto
import Derived.WalkKit
import Derived.WalkSpells
import Derived.WalkLawsBesides
import Derived.Deep.QuietTactic
import Derived.BigQuiet
import Derived.Deep.RegionWith
import Derived.Deep.RegionHeld3
namespace Go.Proofs.Ytookffaojlkfaaa
open Go.RowKit

theorem wp_scope_fwd {P : Program} {a : Act} {w : World} {Q : Exit → Act → World → Prop} {c rest : Code} (l : Nat) (hf : findLabel c l = some rest)
    (first : c.wp P (Exit.jump l (fun a w => rest.wp P (Exit.noGoto Q) a w) Q) a w) : (Code.scope c).wp P Q a w := by
  refine wp_scope_jumps l _ (fun _ _ => 0) hf first ?_
  intro a w h
  refine wp_mono h ?_
  intro e a w q
  cases e <;> first | exact q | exact q.elim

/-- Block b lies in the world W. -/
def Lt (b : Nat) (W : World) : Prop := b < W.heap.size

section
variable {W : World} {b : Nat}
@[go_sem] theorem Lt_alloc (o : Obj) : Lt b (W.alloc o) = (b = W.heap.size ∨ Lt b W) := by
  unfold Lt; simp; omega
@[go_sem] theorem Lt_setCell (a : Addr) (v : Value) : Lt b (W.setCell a v) = Lt b W := by unfold Lt; simp [World.setCell]
@[go_sem] theorem Lt_drew : Lt b W.drew = Lt b W := rfl
@[go_sem] theorem Lt_drewN (n : Nat) : Lt b (W.drewN n) = Lt b W := rfl
@[go_sem] theorem cell_alloc_Lt (h : Lt b W) (o : Obj) (i : Nat) : (W.alloc o).cell? ⟨b, i, none⟩ = W.cell? ⟨b, i, none⟩ := World.cell?_alloc_past _ _ _ h
@[go_sem] theorem frozen_alloc_Lt (h : Lt b W) (o : Obj) (i : Nat) : (W.alloc o).frozen? ⟨b, i, none⟩ = W.frozen? ⟨b, i, none⟩ := World.frozen?_alloc_past _ _ _ h
@[go_sem] theorem Lt_ne (h : Lt b W) : (b = W.heap.size) = False := by unfold Lt at h; simp; omega
@[go_sem] theorem Lt_ne' (h : Lt b W) : (W.heap.size = b) = False := by unfold Lt at h; simp; omega
@[go_sem] theorem Lt_ne1 (h : Lt b W) : (b = W.heap.size + 1) = False := by unfold Lt at h; simp; omega
@[go_sem] theorem Lt_ne1' (h : Lt b W) : (W.heap.size + 1 = b) = False := by unfold Lt at h; simp; omega
@[go_sem] theorem Lt_ne2 (h : Lt b W) : (b = W.heap.size + 1 + 1) = False := by unfold Lt at h; simp; omega
@[go_sem] theorem Lt_ne2' (h : Lt b W) : (W.heap.size + 1 + 1 = b) = False := by unfold Lt at h; simp; omega
end

/-- The same as cell?, frozen?, Lt, for what is not known of a world. -/
def cellX (w : World) (b o : Nat) : Option Value := w.cell? ⟨b, o, none⟩
def frozenX (w : World) (b o : Nat) : Bool := w.frozen? ⟨b, o, none⟩
def LtX (b : Nat) (w : World) : Prop := b < w.heap.size

open Classical in
/-- W is kept in w', a world that is a letter: rules without conditions. -/
abbrev Kept (W w' : World) : Prop := (∀ b o, w'.cell? ⟨b, o, none⟩ = if Lt b W then W.cell? ⟨b, o, none⟩ else cellX w' b o) ∧ (∀ b o, w'.frozen? ⟨b, o, none⟩ = if Lt b W then W.frozen? ⟨b, o, none⟩ else frozenX w' b o) ∧ (∀ b, Lt b w' = (Lt b W ∨ LtX b w')) ∧ W.heap.size ≤ w'.heap.size ∧ Below W.heap.size W w'

theorem kept {W w' : World} (h : Below W.heap.size W w') : Kept W w' := by
  refine ⟨fun b o => ?_, fun b o => ?_, fun b => ?_, h.size, h⟩
  · split
    · exact h.cell (p := ⟨b, o, none⟩) ‹Lt b W›
    · rfl
  · split
    · exact h.frozen (p := ⟨b, o, none⟩) ‹Lt b W›
    · rfl
  · unfold Lt LtX
    have := h.size
    simp only [eq_iff_iff]
    omega

/-- W is kept in w', any world: rules under a condition. -/
abbrev Up (W w' : World) : Prop := (∀ b o, Lt b W → w'.cell? ⟨b, o, none⟩ = W.cell? ⟨b, o, none⟩) ∧ (∀ b o, Lt b W → w'.frozen? ⟨b, o, none⟩ = W.frozen? ⟨b, o, none⟩) ∧ (∀ b, Lt b W → Lt b w') ∧ W.heap.size ≤ w'.heap.size ∧ Below W.heap.size W w'

theorem up {W w' : World} (h : Below W.heap.size W w') : Up W w' :=
  ⟨fun b o hb => h.cell (p := ⟨b, o, none⟩) hb, fun b o hb => h.frozen (p := ⟨b, o, none⟩) hb, fun _ hb => Nat.lt_of_lt_of_le hb h.size, h.size, h⟩
theorem Up.start (W : World) : Up W W.drew := up ((Below.refl _ _).drew)
theorem Up.next {W w1 w2 : World} (h : Up W w1) (hb : Below w1.heap.size w1 w2) : Up W w2 := up (h.2.2.2.2.trans (hb.mono h.2.2.2.2.size))

theorem Up.al {W w1 : World} (h : Up W w1) (o : Obj) : Up W (w1.alloc o) := up (Below.alloc h.2.2.2.2 h.2.2.2.1 o)
theorem Up.dr {W w1 : World} (h : Up W w1) : Up W w1.drew := up (Below.drew h.2.2.2.2)
theorem Up.st {W w1 : World} (h : Up W w1) {p : Addr} (v : Value) (hp : W.heap.size ≤ p.block) : Up W (w1.setCell p v) := up (Below.setCell h.2.2.2.2 hp v)

theorem Up.st4 {W w1 : World} (h : Up W w1) {b o1 o2 o3 o4 : Nat} {v1 v2 v3 v4 : Value} (hp : W.heap.size ≤ b) : Up W ((((w1.setCell ⟨b, o1, none⟩ v1).setCell ⟨b, o2, none⟩ v2).setCell ⟨b, o3, none⟩ v3).setCell ⟨b, o4, none⟩ v4) :=
  Up.st (Up.st (Up.st (Up.st h _ hp) _ hp) _ hp) _ hp

/-- Only blocks from the size of w on are new, or written. -/
abbrev Ext (w w' : World) : Prop := Below w.heap.size w w'
theorem Ext.rf (w : World) : Ext w w := Below.refl _ _
theorem Ext.al {w W : World} (h : Ext w W) (o : Obj) : Ext w (W.alloc o) := Below.alloc h h.size o
theorem Ext.dr {w W : World} (h : Ext w W) : Ext w W.drew := Below.drew h
theorem Ext.dn {w W : World} (h : Ext w W) (n : Nat) : Ext w (W.drewN n) := ⟨h.os, h.tape, h.output, h.size, h.block⟩
theorem Ext.st {w W : World} {p : Addr} (v : Value) (hp : w.heap.size ≤ p.block) (h : Ext w W) : Ext w (W.setCell p v) := Below.setCell h hp v
theorem Ext.tr {w W W' : World} (h : Ext w W) (hb : Ext W W') : Ext w W' := h.trans (hb.mono h.size)
theorem up_ext {W w' : World} (h : Up W w') : Ext W w' := h.2.2.2.2
theorem Ext.of {w W W' : World} (e : Hid (W = W')) (h : Ext w W') : Ext w W := by rw [e.out]; exact h

theorem wp_named {P : Program} {c : Code} {Q : Exit → Act → World → Prop} {a : Act} {w : World}
    (h : ∀ W : World, (∀ b o, W.cell? ⟨b, o, none⟩ = w.cell? ⟨b, o, none⟩) → (∀ b o, W.frozen? ⟨b, o, none⟩ = w.frozen? ⟨b, o, none⟩) → (∀ b, Lt b W = Lt b w) → W.heap.size = w.heap.size → Hid (W = w) → c.wp P Q a W) : c.wp P Q a w :=
  h w (fun _ _ => rfl) (fun _ _ => rfl) (fun _ => rfl) rfl rfl

theorem ret_bool {a b : Bool} (h : a = b) : Ending.returned (.bool a) = .returned (.bool b) := by rw [h]


theorem ret_bool2 {v : Value} {a b : Bool} (h : a = b) : Ending.returned (.tuple #[v, .bool a]) = .returned (.tuple #[v, .bool b]) := by rw [h]

end Go.Proofs.Ytookffaojlkfaaa
