/- Regions that draw their order and whose calls only make new blocks: one walk of the text's order serves every order. -/
import Derived.Test.YtlacidecomflkaaV3
import Derived.Deep.Quiet
import Derived.BigQuiet
set_option linter.unusedSimpArgs false
set_option linter.unusedVariables false
namespace Go.Proofs.Ytlacidecomflkaa
open Go.RowKit

/-- The worlds in which W is kept. -/
def Later (W : World) : Type := { w : World // Ext W w }
def later {W : World} (d : Later W) : World := d.1
theorem later_ext {W : World} (d : Later W) : Ext W (later d) := d.2
instance {W : World} : Nonempty (Later W) := ⟨⟨W, Ext.rf W⟩⟩
open Classical in
@[go_sem] theorem cell_later {W : World} (d : Later W) (b o : Nat) : (later d).cell? ⟨b, o, none⟩ = if Lt b W then W.cell? ⟨b, o, none⟩ else cellX (later d) b o := (kept (later_ext d)).1 b o
open Classical in
@[go_sem] theorem frozen_later {W : World} (d : Later W) (b o : Nat) : (later d).frozen? ⟨b, o, none⟩ = if Lt b W then W.frozen? ⟨b, o, none⟩ else frozenX (later d) b o := (kept (later_ext d)).2.1 b o
@[go_sem] theorem Lt_later {W : World} (d : Later W) (b : Nat) : Lt b (later d) = (Lt b W ∨ LtX b (later d)) := (kept (later_ext d)).2.2.1 b
open Classical in
@[go_sem] theorem rowD_later {W : World} (d : Later W) (b : Nat) : rowD (later d) b = if Lt b W then rowD W b else rowX (later d) b := (keptR (later_ext d)).1 b
open Classical in
@[go_sem] theorem frzD_later {W : World} (d : Later W) (b : Nat) : frzD (later d) b = if Lt b W then frzD W b else frzX (later d) b := (keptR (later_ext d)).2 b
/-- A world in which W is kept. -/
def IsLater (W w' : World) : Prop := ∃ d : Later W, w' = later d
@[go_sem ↓ high] theorem quiet_later {P : Program} {o : Oper} {a : Act} {W : World} {K : Act → Prop} :
    Oper.quiet P o a (IsLater W) K = (∃ v, (∀ d : Later W, o.quietAt P a (IsLater W) (later d) v) ∧ K (a.put o.dst v)) := by
  unfold Oper.quiet
  refine propext (exists_congr fun v => and_congr_left' ⟨fun h d => h _ ⟨d, rfl⟩, fun h w hw => ?_⟩)
  obtain ⟨d, rfl⟩ := hw
  exact h d
theorem wp_region_later {P : Program} {id : Nat} {Q : Exit → Act → World → Prop} {a : Act} {w : World} {l : List Oper} (hm : P.follows .mixedOrders = true) (hB : Region.lexB .any l.toArray = true)
    (h : wpQuiet P l.toArray (IsLater w) (fun a' => ∀ d : Later w, Q .normal a' (later d)) l a) : (Code.region id l.toArray true).wp P Q a w :=
 by
  refine wp_region_quiet (C := IsLater w) hm hB ⟨⟨w.drew, Ext.dr (Ext.rf w)⟩, rfl⟩ ?_
  have e : (fun a' => ∀ w', IsLater w w' → Q .normal a' w') = (fun a' => ∀ d : Later w, Q .normal a' (later d)) := by
    funext a'
    exact propext ⟨fun h d => h _ ⟨d, rfl⟩, fun h w' ⟨d, hd⟩ => by rw [hd]; exact h d⟩
  rw [e]
  simpa using h
theorem calls_later {P : Program} {f : FuncId} {args : Array Value} {W : World} {d : Later W} {v : Value} (h : Calls P f args (later d) fun e w' => e = .returned v ∧ Ext (later d) w') :
    Calls P f args (later d) fun e w'' => e = .returned v ∧ IsLater W w'' :=
  h.mono fun _ w' ⟨he, hx⟩ => ⟨he, ⟨w', (later_ext d).tr hx⟩, rfl⟩
theorem calls_later_same {P : Program} {f : FuncId} {args : Array Value} {W : World} {d : Later W} {v : Value} (h : Calls P f args (later d) fun e w' => e = .returned v ∧ later d = w') :
    Calls P f args (later d) fun e w'' => e = .returned v ∧ IsLater W w'' :=
  h.mono fun _ w' ⟨he, hx⟩ => ⟨he, d, hx.symm⟩

end Go.Proofs.Ytlacidecomflkaa
