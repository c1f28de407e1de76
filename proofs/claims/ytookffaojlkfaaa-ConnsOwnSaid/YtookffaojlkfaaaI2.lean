/- The document's bytes of a tuple: rows that are put together. -/
import Derived.Test.YtookffaojlkfaaaI1
import Derived.Test.YtookffaojlkfaaaXK
import Derived.Test.YtookffaojlkfaaaC8
set_option linter.unusedSimpArgs false
set_option linter.unusedVariables false
namespace Go.Proofs.Ytookffaojlkfaaa
open Go.RowKit

def OB (w : World) (base : Nat) (v : Value) (bs : List Int) : Prop := w.ownsRow base 5 1 v bs.length (bs.map (Value.int .u8))
theorem OB.ext {w w' : World} {base : Nat} {v : Value} {bs : List Int} (h : OB w base v bs) (e : Ext w w') : OB w' base v bs := own_ext h e
theorem OB.le {w : World} {base b' : Nat} {v : Value} {bs : List Int} (h : OB w base v bs) (e : b' ≤ base) : OB w b' v bs := ownsRow_le h e
theorem OB.cells {w : World} {base : Nat} {v : Value} {bs : List Int} (h : OB w base v bs) (hn : 0 < bs.length) : ∃ g c, v = .slice (some ⟨g, 0, none⟩) bs.length c ∧ base ≤ g ∧ g < w.heap.size ∧ ∀ j u, (bs.map (Value.int .u8))[j]? = some u → w.cell? ⟨g, j, none⟩ = some u := by
  rcases h.2 with ⟨rfl, h0⟩ | ⟨g, cap, cur, rfl, hg, hgb, h1, h2, h3, h4⟩
  · omega
  · refine ⟨g, cap, rfl, hg, (Array.getElem?_eq_some_iff.1 hgb).1, fun j u hu => ?_⟩
    rw [← h4] at hu
    rw [cell_rowD]
    unfold rowD
    rw [hgb]
    obtain ⟨hj, -⟩ := List.getElem?_eq_some_iff.1 hu
    rw [List.length_take] at hj
    rw [List.getElem?_take, if_pos (by omega), Array.getElem?_toList] at hu
    exact hu
theorem OB.sl {w : World} {base : Nat} {v : Value} {bs : List Int} (h : OB w base v bs) (hn : 0 < bs.length) : ∃ p c, v = .slice p bs.length c ∧ SlB w p bs := by
  obtain ⟨g, c, rfl, h1, h2, h3⟩ := h.cells hn
  refine ⟨_, c, rfl, fun k hk => ⟨g, 0, rfl, h2, ?_⟩⟩
  rw [Nat.zero_add]
  refine h3 k _ ?_
  rw [List.getElem?_map, List.getElem?_eq_getElem hk]
  rfl
theorem app_OB {w : World} {base : Nat} {v1 v2 : Value} {b1 b2 : List Int} {base2 : Nat} (h1 : OB w base v1 b1) (h2 : OB w base2 v2 b2) (hp : 0 < b2.length) (hl : b1.length + b2.length ≤ 1000) (hb : base ≤ w.heap.size)
    (ρ : Operand → Value) (dst : Option Tmp) (x y : Operand) (ty : TypeId) (pos : String) (after : Array Edge) (g : Option (Nat × Bool)) (hx : ρ x = v1) (hy : ρ y = v2) :
    ∃ v' w', (execOp ρ ⟨dst, .call { callee := .builtin .append, args := #[x, y], argTypes := #[104, 104] }, ty, pos, after, g⟩).run Try.prog w = .ok (.value v') w' ∧ OB w' base v' (b1 ++ b2) ∧ w.grownBy w' v1.ownBlock := by
  obtain ⟨i0, hi, hz0, hz, hz2⟩ := info_parts info_U8
  obtain ⟨gg, c, rfl, h3, h4, h5⟩ := h2.cells hp
  obtain ⟨v', w', hr, ho, hg, -, -⟩ := run_append_own_at (P := Try.prog) w base 104 ty 5 i0 (.int .u8 0) 1 1 Try.underlying104 hi hz0 hz hz2 rfl (by decide) v1 b1.length _ h1 ⟨gg, 0, none⟩ b2.length c (b2.map (Value.int .u8)) (by simp) (fun j u hu => by
    have := h5 j u hu
    by_cases hj : j = 0 <;> simp_all [Addr.add]) (by intro u hu; obtain ⟨z, -, rfl⟩ := List.mem_map.1 hu; rfl) (by unfold maxLen; omega) (by omega) hb
  refine ⟨v', w', ?_, ?_, hg⟩
  · simp [execOp, resolve, invoke, builtin, hx, hy, hr, Result.andThen]
  · unfold OB
    rw [List.length_append, List.map_append]
    exact ho
theorem grown_mv {w w' : World} {base : Nat} {v : Value} {bs : List Int} (h : OB w base v bs) (hg : w.grownBy w' v.ownBlock) : Mv (fun k => base ≤ k) w w' := Mv.of_grown hg fun r e => .inl (ownBlock_ge h r e)
theorem OB.keep {w w' : World} {base b2 : Nat} {v u : Value} {bs cs : List Int} (h : OB w base v bs) (hg : w.grownBy w' v.ownBlock) (h2 : OB w b2 u cs) (hn : ∀ g, v.ownBlock = some g → g < b2) : OB w' b2 u cs :=
  own_keep h2 hg fun g hu hv => by
    have a1 := ownBlock_ge h2 g hu
    have a2 := hn g hv
    omega
theorem appD {ops : Array Oper} {Q : Act → World → Prop} {N k : Nat} {d : List Nat} {dst : Option Tmp} {x y : Operand} {ty : TypeId} {pos : String} {after : Array Edge} {fuel : Nat} {a : Act} {w : World} {base base2 : Nat} {v1 v2 : Value} {b1 b2 : List Int}
    (hi : ops[k]? = some ⟨dst, .call { callee := .builtin .append, args := #[x, y], argTypes := #[104, 104] }, ty, pos, after, none⟩) (hx : a.eval x = v1) (hy : a.eval y = v2) (h1 : OB w base v1 b1) (h2 : OB w base2 v2 b2) (hp : 0 < b2.length) (hl : b1.length + b2.length ≤ 1000) (hb : base ≤ w.heap.size)
    (H : ∀ v' w', Mv (fun k => base ≤ k) w w' → OB w' base v' (b1 ++ b2) → wpAnyK (fun k => base ≤ k) Try.prog .any ops Q fuel (don N (k :: d)) (a.put dst v') w') : stepK (fun k => base ≤ k) Try.prog ops Q fuel N k d a w := by
  obtain ⟨v', w', hr, ho, hg⟩ := app_OB h1 h2 hp hl hb a.eval dst x y ty pos after none hx hy
  exact makeD hi rfl hr (grown_mv h1 hg) (H v' w' (grown_mv h1 hg) ho)

end Go.Proofs.Ytookffaojlkfaaa
