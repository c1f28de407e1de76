/- How arguments of law 21 are read: owners, members, shifts. -/
import Derived.Test.YtlacidecomflkaaP19
import Derived.Test.YtlacidecomflkaaS
import Derived.Test.YtlacidecomflkaaF
set_option linter.unusedSimpArgs false
set_option linter.unusedVariables false
namespace Go.Proofs.Ytlacidecomflkaa
open Go.ChangeShapes Go.WideShapes Go.ChangeAt Go.RowKit Go.Joins

theorem ownKn : ownKnob Try.prog.godebug = none := by kernel_rfl
theorem laidOut : laidOutB Try.prog = true := by kernel_rfl
theorem cells_own : Try.prog.cellsOf 22 = 16 := by kernel_rfl
theorem cells_int : Try.prog.cellsOf 3 = 1 := by kernel_rfl
theorem cells_sh : Try.prog.cellsOf 45 = 2 := by kernel_rfl
theorem pick_fn {α : Type} {n : Nat} {d : α} {R : Nat → α → Prop} (h : ∀ i, i < n → ∃ z, R i z) : ∃ f : Nat → α, ∀ i, i < n → R i (f i) :=
  ⟨fun i => if hi : i < n then (h i hi).choose else d, fun i hi => by show R i (if hi : i < n then (h i hi).choose else d); rw [dif_pos hi]; exact (h i hi).choose_spec⟩
theorem ov_of (cs : Array Value) (hn : cs.size = 16) (key : ∀ i, i < 16 → ∃ z : Int, cs[i]? = some (.int .i64 z)) : ∃ o, cs = ov o := by
  obtain ⟨f, hf⟩ := pick_fn (d := 0) key
  refine ⟨f, Array.ext_getElem? fun i => ?_⟩
  by_cases hi : i < 16
  · rw [hf i hi]; simp [ov, rowv, hi]
  · rw [Array.getElem?_eq_none (by omega), Array.getElem?_eq_none (by simp [ov, rowv]; omega)]
set_option maxRecDepth 100000 in
theorem open_own {H : Type} {enc : TypeId × Value → H} {w : World} {base b0 : Nat} {spare : Nat → Bool} {held : Bool} {v : Value} {d : DataW H} {p : List MemPlace} (hv : Value.okWide Try.prog w .any b0 22 v) (h : DataW.Trod enc Try.prog w base spare held 22 v d p) : ∃ o : Nat → Int, v = .agg (ov o) := by
  simp only [Value.okWide, Try.underlying22] at hv
  obtain ⟨cs, rfl, hn, _⟩ := hv
  rw [cells_own] at hn
  obtain ⟨fuel, hf⟩ := h
  obtain ⟨xs, m, _, _, hl, hx, hi⟩ := DataW.trod_array Try.underlying22 hf
  rw [cells_own] at hl
  have key : ∀ i, i < 16 → ∃ z : Int, cs[i]? = some (.int .i64 z) := by
    intro i hi'
    have h1 := hi i hi'
    rw [cells_int, Nat.mul_one] at h1
    obtain ⟨y, hy⟩ : ∃ y, xs[i]? = some y := ⟨xs[i]'(by omega), List.getElem?_eq_getElem (by omega)⟩
    rw [hy] at h1
    obtain ⟨n, e, _, _⟩ := DataW.trod_int Try.underlying3 h1
    refine ⟨n, ?_⟩
    have h2 := congrArg (fun l => l[0]?) e
    simp [Value.cells] at h2
    simpa using h2
  obtain ⟨o, rfl⟩ := ov_of cs hn key
  exact ⟨o, rfl⟩
set_option maxRecDepth 100000 in
theorem open_mems {H : Type} {enc : TypeId × Value → H} {w : World} {base b0 : Nat} {spare : Nat → Bool} {held : Bool} {v : Value} {d : DataW H} {p : List MemPlace} (hv : Value.okWide Try.prog w .any b0 23 v) (h : DataW.Trod enc Try.prog w base spare held 23 v d p) :
    ∃ (q : Option Addr) (ms : List Int) (c : Nat), v = .slice q ms.length c ∧ Sl w q ms ∧ ms.length ≤ c := by
  obtain ⟨a0, len, cap, rfl⟩ := okWide_slice Try.underlying23 hv
  obtain ⟨fuel, hf⟩ := h
  rcases open_ints Try.underlying23 Try.underlying3 cells_int hf with ⟨hcs, _⟩ | ⟨a, len', cap', zs, hcs, _, hl, hm, hz, _, hc, _⟩
  · simp [Value.cells] at hcs
    obtain ⟨rfl, rfl, rfl⟩ := hcs
    exact ⟨none, [], 0, rfl, Sl.nil _ _, Nat.le_refl _⟩
  · simp [Value.cells] at hcs
    obtain ⟨rfl, rfl, rfl⟩ := hcs
    have hkl : len ≤ zs.length := by rw [hz]; split <;> omega
    have hlen : (zs.take len).length = len := by rw [List.length_take]; omega
    refine ⟨some a, zs.take len, cap, by rw [hlen], fun k hk => ?_, by omega⟩
    have h1 := hc k (by omega)
    have hvw : a.spot = none := by simpa [Addr.add] using World.cell?_spot (hc 0 (by omega))
    obtain ⟨b, off, view⟩ := a
    obtain rfl : view = none := hvw
    rw [add_plain] at h1
    refine ⟨b, off, rfl, World.block_lt_of_cell? w _ h1, ?_⟩
    rw [h1, List.getElem?_take, if_pos (by omega)]
    simp
set_option maxRecDepth 100000 in
theorem open_shs {H : Type} {enc : TypeId × Value → H} {w : World} {base b0 : Nat} {spare : Nat → Bool} {held : Bool} {v : Value} {d : DataW H} {p : List MemPlace} (hv : Value.okWide Try.prog w .any b0 24 v) (h : DataW.Trod enc Try.prog w base spare held 24 v d p) :
    ∃ (q : Option Addr) (xs : List Sh) (c : Nat), v = .slice q xs.length c ∧ SlS w q xs ∧ xs.length ≤ c := by
  obtain ⟨a0, len, cap, rfl⟩ := okWide_slice Try.underlying24 hv
  obtain ⟨fuel, hf⟩ := h
  rcases open_slice_fields Try.underlying24 Try.underlying45 (by kernel_rfl) cells_sh hf with ⟨hcs, _⟩ | ⟨a, len', cap', k, D, Pl, hcs, _, hl, hm, hk, _, hi⟩
  · simp [Value.cells] at hcs
    obtain ⟨rfl, rfl, rfl⟩ := hcs
    exact ⟨none, [], 0, rfl, fun k hk => by simp at hk, Nat.le_refl _⟩
  · simp [Value.cells] at hcs
    obtain ⟨rfl, rfl, rfl⟩ := hcs
    have hkl : len ≤ k := by rw [hk]; split <;> omega
    have key : ∀ i, i < len → ∃ t : Sh, w.cell? (a.add (i * 2)) = some (.int .i64 t.b) ∧ w.cell? (a.add (i * 2 + 1)) = some (.int .i64 t.t) := by
      intro i hi'
      obtain ⟨ys, n, _, _, _, hf⟩ := hi i (by omega)
      obtain ⟨v0, y0, c0, _, t0⟩ := hf 0 _ rfl
      obtain ⟨v1, y1, c1, _, t1⟩ := hf 1 _ rfl
      obtain ⟨n0, e0, _, _⟩ := DataW.trod_int Try.underlying3 t0
      obtain ⟨n1, e1, _, _⟩ := DataW.trod_int Try.underlying3 t1
      simp at e0 e1
      subst e0 e1
      exact ⟨⟨n0, n1⟩, c0, c1⟩
    have hlen : ((List.range len).map fun i => if h : i < len then (key i h).choose else ⟨0, 0⟩).length = len := by simp
    refine ⟨some a, (List.range len).map fun i => if h : i < len then (key i h).choose else ⟨0, 0⟩, cap, by rw [hlen], fun i hi' => ?_, by omega⟩
    have hil : i < len := by omega
    have hc := (key i hil).choose_spec
    have hvw : a.spot = none := by
      obtain ⟨t0, h0, _⟩ := key 0 (by omega)
      simpa [Addr.add] using World.cell?_spot h0
    simp only [List.getElem_map, List.getElem_range, dif_pos hil]
    generalize (key i hil).choose = t at hc
    obtain ⟨b, off, view⟩ := a
    obtain rfl : view = none := hvw
    obtain ⟨h1, h2⟩ := hc
    rw [add_plain] at h1 h2
    exact ⟨b, off, rfl, World.block_lt_of_cell? w _ h1, h1, by rw [Nat.add_assoc]; exact h2⟩

end Go.Proofs.Ytlacidecomflkaa
