/- Sixteen moves: how they are read, when they are the same. -/
import Derived.Test.YtlacidecomflkaaO4
import Derived.Test.YtlacidecomflkaaD9
import Derived.Test.YtlacidecomflkaaDL2
import Derived.Test.YtlacidecomflkaaP20
set_option linter.unusedSimpArgs false
set_option linter.unusedVariables false
namespace Go.Proofs.Ytlacidecomflkaa
open Go.ChangeShapes Go.WideShapes Go.ChangeAt Go.RowKit Go.Joins Go.Deep

theorem cells_lmt : Try.prog.cellsOf 63 = 96 := by kernel_rfl
theorem cells_u8 : Try.prog.cellsOf 5 = 1 := by kernel_rfl
theorem one_of {L : List Value} {j : Nat} {v : Value} (h : (L.drop j).take 1 = [v]) : L[j]? = some v := by
  have := congrArg (fun l => l[0]?) h
  simpa using this
set_option maxRecDepth 100000 in
theorem open_one {H : Type} {enc : TypeId × Value → H} {w : World} {base : Nat} {spare : Nat → Bool} {held : Bool} {fuel : Nat} {L : List Value} {y : DataW H × List MemPlace}
    (h : DataW.trod enc Try.prog w base spare held fuel 48 L = some y) : ∃ m : Mo, 0 ≤ m.ph ∧ ∀ j, j < 6 → L[j]? = some (m.at j) := by
  obtain ⟨ys, n, _, _, _, hlen, hf⟩ := DataW.trod_struct Try.underlying48 h
  have hl : ys.length = 6 := hlen
  have g : ∀ j, j < 6 → ∃ z, ys[j]? = some z := fun j hj => ⟨ys[j]'(by omega), List.getElem?_eq_getElem (by omega)⟩
  have h0 : DataW.trod enc Try.prog w base spare held n 5 ((L.drop 0).take (Try.prog.cellsOf 5)) = ys[0]? := hf 0 _ rfl
  have h1 : DataW.trod enc Try.prog w base spare held n 3 ((L.drop 1).take (Try.prog.cellsOf 3)) = ys[1]? := hf 1 _ rfl
  have h2 : DataW.trod enc Try.prog w base spare held n 3 ((L.drop 2).take (Try.prog.cellsOf 3)) = ys[2]? := hf 2 _ rfl
  have h3 : DataW.trod enc Try.prog w base spare held n 3 ((L.drop 3).take (Try.prog.cellsOf 3)) = ys[3]? := hf 3 _ rfl
  have h4 : DataW.trod enc Try.prog w base spare held n 3 ((L.drop 4).take (Try.prog.cellsOf 3)) = ys[4]? := hf 4 _ rfl
  have h5 : DataW.trod enc Try.prog w base spare held n 3 ((L.drop 5).take (Try.prog.cellsOf 3)) = ys[5]? := hf 5 _ rfl
  obtain ⟨z0, e0⟩ := g 0 (by omega)
  obtain ⟨z1, e1⟩ := g 1 (by omega)
  obtain ⟨z2, e2⟩ := g 2 (by omega)
  obtain ⟨z3, e3⟩ := g 3 (by omega)
  obtain ⟨z4, e4⟩ := g 4 (by omega)
  obtain ⟨z5, e5⟩ := g 5 (by omega)
  rw [e0, cells_u8] at h0
  rw [e1, cells_int] at h1
  rw [e2, cells_int] at h2
  rw [e3, cells_int] at h3
  rw [e4, cells_int] at h4
  rw [e5, cells_int] at h5
  obtain ⟨a, p0, _, wa⟩ := DataW.trod_int Try.underlying5 h0
  obtain ⟨b, p1, _, _⟩ := DataW.trod_int Try.underlying3 h1
  obtain ⟨c, p2, _, _⟩ := DataW.trod_int Try.underlying3 h2
  obtain ⟨d, p3, _, _⟩ := DataW.trod_int Try.underlying3 h3
  obtain ⟨e, p4, _, _⟩ := DataW.trod_int Try.underlying3 h4
  obtain ⟨f, p5, _, _⟩ := DataW.trod_int Try.underlying3 h5
  refine ⟨⟨a, b, c, d, e, f⟩, u8_of wa, fun j hj => ?_⟩
  obtain rfl | rfl | rfl | rfl | rfl | rfl : j = 0 ∨ j = 1 ∨ j = 2 ∨ j = 3 ∨ j = 4 ∨ j = 5 := by omega
  · exact one_of p0
  · exact one_of p1
  · exact one_of p2
  · exact one_of p3
  · exact one_of p4
  · exact one_of p5
set_option maxRecDepth 100000 in
theorem open_moves {H : Type} {enc : TypeId × Value → H} {w : World} {base b0 : Nat} {spare : Nat → Bool} {held : Bool} {v : Value} {d : DataW H} {p : List MemPlace} (hv : Value.okWide Try.prog w .any b0 63 v) (h : DataW.Trod enc Try.prog w base spare held 63 v d p) :
    ∃ l : Nat → Mo, v = .agg (lm l) ∧ ∀ i, 0 ≤ (l i).ph := by
  simp only [Value.okWide, Try.underlying63] at hv
  obtain ⟨cs, rfl, hn, _⟩ := hv
  rw [cells_lmt] at hn
  obtain ⟨fuel, hf⟩ := h
  obtain ⟨xs, m, _, _, hl0, hx, hi⟩ := DataW.trod_array Try.underlying63 hf
  have key : ∀ i, i < 16 → ∃ m : Mo, 0 ≤ m.ph ∧ ∀ j, j < 6 → cs[i * 6 + j]? = some (m.at j) := by
    intro i hi'
    have h1 := hi i hi'
    rw [cells_mv] at h1
    obtain ⟨y, hy⟩ : ∃ y, xs[i]? = some y := ⟨xs[i]'(by omega), List.getElem?_eq_getElem (by omega)⟩
    rw [hy] at h1
    obtain ⟨mv, h0, hj⟩ := open_one h1
    refine ⟨mv, h0, fun j hj' => ?_⟩
    have h2 := hj j hj'
    rw [List.getElem?_take, if_pos hj', List.getElem?_drop] at h2
    simpa [Value.cells] using h2
  obtain ⟨l, hl⟩ := pick_fn (d := ⟨0, 0, 0, 0, 0, 0⟩) key
  refine ⟨fun i => if i < 16 then l i else ⟨0, 0, 0, 0, 0, 0⟩, congrArg Value.agg (Array.ext_getElem? fun j => ?_), fun i => ?_⟩
  · by_cases hj : j < 96
    · unfold lm
      rw [get_rowv, if_pos hj]
      dsimp only
      rw [if_pos (by omega)]
      have := (hl (j / 6) (by omega)).2 (j % 6) (by omega)
      rwa [show j / 6 * 6 + j % 6 = j by omega] at this
    · rw [Array.getElem?_eq_none (by omega), Array.getElem?_eq_none (by simp; omega)]
  · dsimp only
    split
    · exact (hl i (by assumption)).1
    · exact Int.le_refl _
theorem eqIn_mo (a b c d e f a' b' c' d' e' f' : Int) (w : World) :
    (Op.equalIn 9999 48 (mo a b c d e f) (mo a' b' c' d' e' f')).run Try.prog w = .ok (a == a' && b == b' && c == c' && d == d' && e == e' && f == f') w := by
  go_simp
  by_cases h1 : a = a' <;> by_cases h2 : b = b' <;> by_cases h3 : c = c' <;> by_cases h4 : d = d' <;> by_cases h5 : e = e' <;> by_cases h6 : f = f' <;> simp [*]
theorem info_mv : ∃ i, Try.prog.info? 48 = some i := Option.isSome_iff_exists.1 (by kernel_rfl)
theorem eqItems_lm (a b : Nat → Mo) (w : World) : ∀ (is : List Nat), (∀ i ∈ is, i < 16) → (Op.eqItems 9999 48 6 (lm a) (lm b) is).run Try.prog w = .ok (is.all fun i => eqM (a i) (b i)) w
  | [], _ => by simp [Op.eqItems]
  | i :: is, h => by
    have h16 := h i (by simp)
    have px : ∀ l : Nat → Mo, (part 48 (lm l) (i * 6)).run Try.prog w = .ok (l i).v w := fun l => by
      have hx := extract_lm l i h16
      simp [part, Sem.run_bind, isAgg_mo, size_mo, hx]
    have pe : (Op.equalIn 9999 48 (a i).v (b i).v).run Try.prog w = .ok (eqM (a i) (b i)) w := eqIn_mo _ _ _ _ _ _ _ _ _ _ _ _ w
    simp only [Op.eqItems, Sem.run_bind, px, pe, Result.andThen_ok, List.all_cons]
    cases hb : eqM (a i) (b i)
    · simp
    · simp only [Bool.not_true, Bool.false_eq_true, if_false, Bool.true_and]
      exact eqItems_lm a b w is fun j hj => h j (by simp [hj])
def eqL (a b : Nat → Mo) : Bool := (List.range 16).all fun i => eqM (a i) (b i)
theorem eqL_self (a : Nat → Mo) : eqL a a = true := List.all_eq_true.2 fun i _ => eqM_self _
@[go_sem ↓ high] theorem eql_lm (a b : Nat → Mo) (w : World) : (binOp .eql 63 (.agg (lm a)) (.agg (lm b))).run Try.prog w = .ok (.bool (eqL a b)) w := by
  obtain ⟨i, hi⟩ := info_mv
  rw [run_eql_struct, show (10000 : Nat) = 9999 + 1 from rfl, run_equalIn_array (w := w) 9999 (n := 16) (e := 48) (lm a) (lm b) Try.underlying63 hi, cells_mv, eqItems_lm a b w _ (fun i hi => by simpa using hi)]
  rfl

end Go.Proofs.Ytlacidecomflkaa
