/- How arguments of law 15 are read: connections, tuples. -/
import Derived.Test.YtookffaojlkfaaaW3
import Derived.Test.YtookffaojlkfaaaJ8
import Derived.Test.YtookffaojlkfaaaF
import Derived.Deep.Slices
import Derived.Deep.Fields
import Derived.ChangeSame
set_option linter.unusedSimpArgs false
set_option linter.unusedVariables false
namespace Go.Proofs.Ytookffaojlkfaaa
open Go.ChangeShapes Go.WideShapes Go.ChangeAt Go.RowKit Go.Joins Go.Deep

theorem ownKn : ownKnob Try.prog.godebug = none := by kernel_rfl
theorem laidOut : laidOutB Try.prog = true := by kernel_rfl
theorem cells_int : Try.prog.cellsOf 3 = 1 := by kernel_rfl
theorem cells_u32 : Try.prog.cellsOf 23 = 1 := by kernel_rfl
theorem cells_u16 : Try.prog.cellsOf 24 = 1 := by kernel_rfl
theorem cells_tu : Try.prog.cellsOf 26 = 4 := by kernel_rfl
theorem u32_of {n : Int} (h : (Lit.int .u32 n).wf = true) : 0 ≤ n ∧ n < 4294967296 := by
  have h1 : IntKind.u32.min = 0 := rfl
  have h2 : IntKind.u32.max = 4294967295 := rfl
  simp only [Lit.wf, Bool.and_eq_true, decide_eq_true_eq] at h
  omega
theorem u16_of {n : Int} (h : (Lit.int .u16 n).wf = true) : 0 ≤ n ∧ n < 65536 := by
  have h1 : IntKind.u16.min = 0 := rfl
  have h2 : IntKind.u16.max = 65535 := rfl
  simp only [Lit.wf, Bool.and_eq_true, decide_eq_true_eq] at h
  omega
theorem i64_of {n : Int} (h : (Lit.int .i64 n).wf = true) : -9223372036854775808 ≤ n ∧ n ≤ 9223372036854775807 := by
  have h1 : IntKind.i64.min = -9223372036854775808 := rfl
  have h2 : IntKind.i64.max = 9223372036854775807 := rfl
  simp only [Lit.wf, Bool.and_eq_true, decide_eq_true_eq] at h
  omega
theorem one_of {L : List Value} {j : Nat} {v : Value} (h : (L.drop j).take 1 = [v]) : L[j]? = some v := by
  have := congrArg (fun l => l[0]?) h
  simpa using this
def Tu.at (t : Tu) (j : Nat) : Value := match j with | 0 => .int .u32 t.a | 1 => .int .u32 t.b | 2 => .int .u16 t.c | _ => .int .u16 t.d
set_option maxRecDepth 100000 in
theorem open_onetu {H : Type} {enc : TypeId × Value → H} {w : World} {base : Nat} {spare : Nat → Bool} {held : Bool} {fuel : Nat} {L : List Value} {y : DataW H × List MemPlace}
    (h : DataW.trod enc Try.prog w base spare held fuel 26 L = some y) : ∃ t : Tu, TuR t ∧ ∀ j, j < 4 → L[j]? = some (t.at j) := by
  obtain ⟨ys, n, _, _, _, hlen, hf⟩ := DataW.trod_struct Try.underlying26 h
  have hl : ys.length = 4 := hlen
  have g : ∀ j, j < 4 → ∃ z, ys[j]? = some z := fun j hj => ⟨ys[j]'(by omega), List.getElem?_eq_getElem (by omega)⟩
  have h0 : DataW.trod enc Try.prog w base spare held n 23 ((L.drop 0).take (Try.prog.cellsOf 23)) = ys[0]? := hf 0 _ rfl
  have h1 : DataW.trod enc Try.prog w base spare held n 23 ((L.drop 1).take (Try.prog.cellsOf 23)) = ys[1]? := hf 1 _ rfl
  have h2 : DataW.trod enc Try.prog w base spare held n 24 ((L.drop 2).take (Try.prog.cellsOf 24)) = ys[2]? := hf 2 _ rfl
  have h3 : DataW.trod enc Try.prog w base spare held n 24 ((L.drop 3).take (Try.prog.cellsOf 24)) = ys[3]? := hf 3 _ rfl
  obtain ⟨z0, e0⟩ := g 0 (by omega)
  obtain ⟨z1, e1⟩ := g 1 (by omega)
  obtain ⟨z2, e2⟩ := g 2 (by omega)
  obtain ⟨z3, e3⟩ := g 3 (by omega)
  rw [e0, cells_u32] at h0
  rw [e1, cells_u32] at h1
  rw [e2, cells_u16] at h2
  rw [e3, cells_u16] at h3
  obtain ⟨a, p0, _, w0⟩ := DataW.trod_int Try.underlying23 h0
  obtain ⟨b, p1, _, w1⟩ := DataW.trod_int Try.underlying23 h1
  obtain ⟨c, p2, _, w2⟩ := DataW.trod_int Try.underlying24 h2
  obtain ⟨d, p3, _, w3⟩ := DataW.trod_int Try.underlying24 h3
  refine ⟨⟨a, b, c, d⟩, ⟨u32_of w0, u32_of w1, u16_of w2, u16_of w3⟩, fun j hj => ?_⟩
  obtain rfl | rfl | rfl | rfl : j = 0 ∨ j = 1 ∨ j = 2 ∨ j = 3 := by omega
  · exact one_of p0
  · exact one_of p1
  · exact one_of p2
  · exact one_of p3
set_option maxRecDepth 100000 in
theorem open_tu {H : Type} {enc : TypeId × Value → H} {w : World} {base b0 : Nat} {spare : Nat → Bool} {held : Bool} {v : Value} {d : DataW H} {p : List MemPlace} (hv : Value.okWide Try.prog w .any b0 26 v) (h : DataW.Trod enc Try.prog w base spare held 26 v d p) : ∃ t : Tu, v = tu t.a t.b t.c t.d ∧ TuR t := by
  simp only [Value.okWide, Try.underlying26] at hv
  obtain ⟨cs, rfl, hn, _⟩ := hv
  rw [cells_tu] at hn
  obtain ⟨fuel, hf⟩ := h
  obtain ⟨t, hr, ht⟩ := open_onetu hf
  refine ⟨t, congrArg Value.agg (Array.ext_getElem? fun j => ?_), hr⟩
  by_cases hj : j < 4
  · have h1 := ht j hj
    have h2 : cs[j]? = some (t.at j) := by simpa [Value.cells] using h1
    rw [h2]
    obtain rfl | rfl | rfl | rfl : j = 0 ∨ j = 1 ∨ j = 2 ∨ j = 3 := by omega
    all_goals rfl
  · rw [Array.getElem?_eq_none (by omega), Array.getElem?_eq_none (by simp; omega)]

def Co.at (x : Co) (j : Nat) : Value := match j with | 0 => .int .u32 x.t.a | 1 => .int .u32 x.t.b | 2 => .int .u16 x.t.c | 3 => .int .u16 x.t.d | 4 => .int .i64 x.s | _ => .int .i64 x.l
theorem cells_C : Try.prog.cellsOf 43 = 6 := by kernel_rfl
set_option maxRecDepth 100000 in
theorem open_oneC {H : Type} {enc : TypeId × Value → H} {w : World} {base : Nat} {spare : Nat → Bool} {held : Bool} {fuel : Nat} {L : List Value} {y : DataW H × List MemPlace}
    (h : DataW.trod enc Try.prog w base spare held fuel 43 L = some y) : ∃ x : Co, TuR x.t ∧ ∀ j, j < 6 → L[j]? = some (x.at j) := by
  obtain ⟨ys, n, _, _, _, hlen, hf⟩ := DataW.trod_struct Try.underlying43 h
  have hl : ys.length = 3 := hlen
  have g : ∀ j, j < 3 → ∃ z, ys[j]? = some z := fun j hj => ⟨ys[j]'(by omega), List.getElem?_eq_getElem (by omega)⟩
  have h0 : DataW.trod enc Try.prog w base spare held n 26 ((L.drop 0).take (Try.prog.cellsOf 26)) = ys[0]? := hf 0 _ rfl
  have h1 : DataW.trod enc Try.prog w base spare held n 3 ((L.drop 4).take (Try.prog.cellsOf 3)) = ys[1]? := hf 1 _ rfl
  have h2 : DataW.trod enc Try.prog w base spare held n 3 ((L.drop 5).take (Try.prog.cellsOf 3)) = ys[2]? := hf 2 _ rfl
  obtain ⟨z0, e0⟩ := g 0 (by omega)
  obtain ⟨z1, e1⟩ := g 1 (by omega)
  obtain ⟨z2, e2⟩ := g 2 (by omega)
  rw [e0, cells_tu] at h0
  rw [e1, cells_int] at h1
  rw [e2, cells_int] at h2
  obtain ⟨t, hr, ht⟩ := open_onetu h0
  obtain ⟨m1, p1, _, _⟩ := DataW.trod_int Try.underlying3 h1
  obtain ⟨m2, p2, _, _⟩ := DataW.trod_int Try.underlying3 h2
  refine ⟨⟨t, m1, m2⟩, hr, fun j hj => ?_⟩
  obtain rfl | rfl | rfl | rfl | rfl | rfl : j = 0 ∨ j = 1 ∨ j = 2 ∨ j = 3 ∨ j = 4 ∨ j = 5 := by omega
  · have := ht 0 (by omega); rwa [List.getElem?_take, if_pos (by omega), List.getElem?_drop] at this
  · have := ht 1 (by omega); rwa [List.getElem?_take, if_pos (by omega), List.getElem?_drop] at this
  · have := ht 2 (by omega); rwa [List.getElem?_take, if_pos (by omega), List.getElem?_drop] at this
  · have := ht 3 (by omega); rwa [List.getElem?_take, if_pos (by omega), List.getElem?_drop] at this
  · exact one_of p1
  · exact one_of p2
set_option maxRecDepth 100000 in
theorem open_C {H : Type} {enc : TypeId × Value → H} {w : World} {base b0 : Nat} {spare : Nat → Bool} {held : Bool} {v : Value} {d : DataW H} {p : List MemPlace} (hv : Value.okWide Try.prog w .any b0 22 v) (h : DataW.Trod enc Try.prog w base spare held 22 v d p) :
    ∃ (q : Option Addr) (xs : List Co) (c : Nat), v = .slice q xs.length c ∧ SlC w q xs ∧ xs.length ≤ c ∧ ∀ x ∈ xs, TuR x.t := by
  obtain ⟨a0, len, cap, rfl⟩ := okWide_slice Try.underlying22 hv
  obtain ⟨fuel, hf⟩ := h
  rcases open_slice Try.underlying22 hf with ⟨hcs, _⟩ | ⟨a, len', cap', k, n, D, Pl, hcs, _, hl, hm, hk, _, hi⟩
  · simp [Value.cells] at hcs
    obtain ⟨rfl, rfl, rfl⟩ := hcs
    exact ⟨none, [], 0, rfl, SlC.nil _ _, Nat.le_refl _, (fun x h => by cases h)⟩
  · simp [Value.cells] at hcs
    obtain ⟨rfl, rfl, rfl⟩ := hcs
    have hkl : len ≤ k := by rw [hk]; split <;> omega
    have key : ∀ i, i < len → ∃ x : Co, TuR x.t ∧ ∀ j, j < 6 → w.cell? (a.add (i * 6 + j)) = some (x.at j) := by
      intro i hi'
      obtain ⟨cs', hc, ht'⟩ := hi i (by omega)
      rw [cells_C] at hc
      obtain ⟨_, hcl, hat⟩ := World.cells?_some hc
      obtain ⟨x, hr, hx⟩ := open_oneC ht'
      refine ⟨x, hr, fun j hj => ?_⟩
      have h1 := hat j hj
      rw [hx j hj] at h1
      have e : (a.add (i * 6)).add j = a.add (i * 6 + j) := by
        unfold Addr.add
        repeat' split
        all_goals first | (exfalso; simp_all; omega) | (simp_all; done) | (simp_all; omega)
      rw [← e]; exact h1
    have hlen : ((List.range len).map fun i => if h : i < len then (key i h).choose else ⟨⟨0, 0, 0, 0⟩, 0, 0⟩).length = len := by simp
    refine ⟨some a, (List.range len).map fun i => if h : i < len then (key i h).choose else ⟨⟨0, 0, 0, 0⟩, 0, 0⟩, cap, by rw [hlen], ?_, by rw [hlen]; exact hl, ?_⟩
    · intro i hi'
      have hil : i < len := by omega
      have hc := (key i hil).choose_spec
      simp only [List.getElem_map, List.getElem_range, dif_pos hil]
      generalize (key i hil).choose = x at hc
      obtain ⟨-, hx'⟩ := hc
      have hvw : a.spot = none := by
        obtain ⟨x0, _, hx0⟩ := key 0 (by omega)
        have := hx0 0 (by omega)
        simpa [Addr.add] using World.cell?_spot this
      obtain ⟨b, off, view⟩ := a
      obtain rfl : view = none := hvw
      have hx' : ∀ j, j < 6 → w.cell? ⟨b, off + i * 6 + j, none⟩ = some (x.at j) := fun j hj => by
        have := hx' j hj
        rw [add_plain] at this
        rw [Nat.add_assoc]; exact this
      exact ⟨b, off, rfl, World.block_lt_of_cell? w _ (hx' 0 (by omega)), hx' 0 (by omega), hx' 1 (by omega), hx' 2 (by omega), hx' 3 (by omega), hx' 4 (by omega), hx' 5 (by omega)⟩
    · intro x hx
      rw [List.mem_map] at hx
      obtain ⟨i, hi', rfl⟩ := hx
      have hil : i < len := List.mem_range.1 hi'
      rw [dif_pos hil]
      exact (key i hil).choose_spec.1

end Go.Proofs.Ytookffaojlkfaaa
