/- Slices that a loop over an iterator fills: what they own, behind turns of other blocks. -/
import Derived.Test.YtookffaojlkfaaaZ
import Derived.Test.YtookffaojlkfaaaV
import Derived.Maps.AppendAt
import Derived.OwnWalkIn
import Derived.TacticsInMore
import Derived.RangeFuncOne
import Derived.RangeFuncBound
import Derived.Deep.AppendLies
set_option linter.unusedSimpArgs false
set_option linter.unusedVariables false
namespace Go.Proofs.Ytookffaojlkfaaa
open Go.RowKit

theorem Mv.of_grown {C : Nat → Prop} {A B : World} {row : Option Nat} (h : A.grownBy B row) (hr : ∀ r, row = some r → C r ∨ A.heap.size ≤ r) : Mv C A B :=
  ⟨h.os, h.tape, h.output, h.size, fun k hk hc => h.block k hk (fun e => by rcases hr k e.symm with h | h; exact hc h; omega)⟩
theorem boxed_mv {A B : World} {b : Nat} {t : TypeId} {v : Value} {C : Nat → Prop} (h : Boxed A b t v) (hm : Mv C A B) (hb : ¬ C b) : Boxed B b t v :=
  (hm.same b h.lt hb).trans h
theorem ownsRow_mv {A B : World} {C : Nat → Prop} {base : Nat} {e : TypeId} {size : Nat} {v : Value} {n : Nat} {xs : List Value} (h : A.ownsRow base e size v n xs) (hm : Mv C A B) (hc : ∀ k, base ≤ k → ¬ C k) : B.ownsRow base e size v n xs := by
  refine ⟨h.1, ?_⟩
  rcases h.2 with h | ⟨g, cap, cur, rfl, hg, hgb, h1, h2, h3, h4⟩
  · exact .inl h
  · exact .inr ⟨g, cap, cur, rfl, hg, (hm.same g (Array.getElem?_eq_some_iff.1 hgb).1 (hc g hg)).trans hgb, h1, h2, h3, h4⟩
theorem ownBlock_ge {A : World} {base : Nat} {e : TypeId} {size : Nat} {v : Value} {n : Nat} {xs : List Value} (h : A.ownsRow base e size v n xs) : ∀ r, v.ownBlock = some r → base ≤ r := by
  intro r hr
  rcases h.2 with ⟨rfl, _⟩ | ⟨g, cap, cur, rfl, hg, _⟩
  · cases hr
  · simp only [Value.ownBlock, Option.some.injEq] at hr; omega
theorem ownsRow_le {A : World} {base base' : Nat} {e : TypeId} {size : Nat} {v : Value} {n : Nat} {xs : List Value} (h : A.ownsRow base e size v n xs) (hb : base' ≤ base) : A.ownsRow base' e size v n xs := by
  refine ⟨h.1, ?_⟩
  rcases h.2 with h | ⟨g, cap, cur, rfl, hg, r⟩
  · exact .inl h
  · exact .inr ⟨g, cap, cur, rfl, by omega, r⟩
/-- The cells of a slice that owns a row. -/
theorem ownsRow_cell {A : World} {base : Nat} {e : TypeId} {size : Nat} {v : Value} {n : Nat} {xs : List Value} (h : A.ownsRow base e size v n xs) (hn : 0 < n) :
    ∃ g cap, v = .slice (some ⟨g, 0, none⟩) n cap ∧ g < A.heap.size ∧ n ≤ cap ∧ cap ≤ maxLen ∧ ∀ j u, xs[j]? = some u → A.cell? ⟨g, j, none⟩ = some u := by
  rcases h.2 with ⟨_, h0⟩ | ⟨g, cap, cur, rfl, hg, hgb, h1, h2, h3, h4⟩
  · omega
  · refine ⟨g, cap, rfl, (Array.getElem?_eq_some_iff.1 hgb).1, h1, h2, fun j u hu => ?_⟩
    have hj : j < n * size := by rw [← h.1]; exact (List.getElem?_eq_some_iff.1 hu).1
    rw [← h4, List.getElem?_take_of_lt hj] at hu
    simp only [World.cell?, hgb]
    simpa using hu
theorem ownsRow_slice {A : World} {base : Nat} {e : TypeId} {size : Nat} {v : Value} {n : Nat} {xs : List Value} (h : A.ownsRow base e size v n xs) : ∃ p n c, v = .slice p n c := by
  rcases h.2 with ⟨rfl, _⟩ | ⟨g, cap, cur, rfl, _⟩ <;> exact ⟨_, _, _, rfl⟩
theorem cell_two_new (w : World) (a b : Value) (t : TypeId) : ∀ j u, [a, b][j]? = some u → (w.alloc (.cells #[a, b] t)).cell? ((⟨w.heap.size, 0, none⟩ : Addr).add j) = some u := by
  intro j u hu
  have e : (⟨w.heap.size, 0, none⟩ : Addr).add j = ⟨w.heap.size, j, none⟩ := by unfold Addr.add; split <;> simp_all
  rw [e, cell_rowD, rowD_new]
  simpa using hu

end Go.Proofs.Ytookffaojlkfaaa
