/- Lemmas of this claim, put together out of: YE, Y15, J4, J5, JL, J6, J7, Y10, Y11. -/
import Derived.Test.YtookffaojlkfaaaMA5
set_option linter.unusedSimpArgs false
set_option linter.unusedVariables false
/- What happens to a table: plain laws. -/
namespace Go.Proofs.Ytookffaojlkfaaa
open Go.RowKit

structure Ev where
  k : Int
  n : Int
  t : Tu
  deriving DecidableEq
abbrev Ev.v (e : Ev) : Value := .agg #[.int .u8 e.k, .int .i64 e.n, .int .u32 e.t.a, .int .u32 e.t.b, .int .u16 e.t.c, .int .u16 e.t.d]
def zOf (e : Ev) : Ho := ⟨e.t, e.n⟩
def overX (xs : List Ho) (e : Ev) : List Ho := if xs.any (isH (zOf e)) then xs.eraseIdx (xs.findIdx (isH (zOf e))) else xs
def accX (xs : List Ho) (e : Ev) : List Ho := if okH xs e.t = true then xs else insAt xs (atH xs e.t) (zOf e)
def isN (n : Int) (x : Ho) : Bool := x.n == n
def zeT (t : Tu) : Bool := t.a == 0 && t.b == 0 && t.c == 0 && t.d == 0
def killX (xs : List Ho) (e : Ev) : List Ho := if zeT e.t = true then xs.filter (fun x => !isN e.n x) else xs
def MonoH (xs : List Ho) (t : Tu) : Prop := ∀ (a b : Nat) (x y : Ho), a < b → xs[a]? = some x → xs[b]? = some y → cmpT y.t t < 0 → cmpT x.t t < 0
theorem atH_le (xs : List Ho) (t : Tu) : atH xs t ≤ xs.length := List.findIdx_le_length
def kindH (xs : List Ho) (e : Ev) : List Ho × Bool :=
  if e.k = 1 then (accX xs e, !okH xs e.t)
  else if e.k = 2 then (xs, xs.any (isH (zOf e)))
  else if e.k = 3 ∨ e.k = 4 then (overX xs e, xs.any (isH (zOf e)))
  else if e.k = 5 then (killX xs e, zeT e.t) else (xs, false)
def stepH (xs : List Ho) (e : Ev) : List Ho × Bool := if rightH xs && agB e.n then kindH xs e else (xs, false)
/-- The document's step. -/
def stepR (xs : List Ho) (e : Ev) : List Ho × Bool :=
  if (!rightH xs || !agB e.n) = true then (xs, false)
  else if (e.k == 1 && !ownHas xs e.t) = true then (insAt xs (atH xs e.t) (zOf e), true)
  else if (e.k == 2 && (ownHas xs e.t && ownI xs e.t == e.n)) = true then (xs, true)
  else if ((e.k == 3 || e.k == 4) && (ownHas xs e.t && ownI xs e.t == e.n)) = true then (xs.filter (fun x => !eqH e.t x), true)
  else if (e.k == 5 && zeT e.t) = true then (xs.filter (fun x => !isN e.n x), true)
  else (xs, false)
def RtP (xs : List Ho) : Prop := (∀ x ∈ xs, agB x.n = true) ∧ xs.Pairwise (fun x y => ltT x.t y.t)
theorem ltB_iff {s t : Tu} : ltB s t = true ↔ ltT s t := by unfold ltB; rw [decide_eq_true_eq, cmpT_lt]
theorem rightH_P (xs : List Ho) : rightH xs = true ↔ RtP xs := by
  rw [rightH_iff]
  constructor
  · intro h
    have hadj : ∀ m (hm : m + 1 < xs.length), ltT (xs[m]'(by omega)).t xs[m + 1].t := fun m hm => by
      refine Classical.byContradiction fun hn => h (m + 1) hm ⟨_, List.getElem?_eq_getElem hm, .inr ⟨m, _, rfl, List.getElem?_eq_getElem (by omega), ?_⟩⟩
      rw [Bool.eq_false_iff]
      exact fun e => hn (ltB_iff.1 e)
    have hfar : ∀ (n i : Nat) (hn : i + 1 + n < xs.length), ltT (xs[i]'(by omega)).t xs[i + 1 + n].t := by
      intro n
      induction n with
      | zero => intro i hn; exact hadj i hn
      | succ n ih => intro i hn; exact ltT_trans (ih i (by omega)) (hadj (i + 1 + n) hn)
    refine ⟨fun x hx => ?_, List.pairwise_iff_getElem.2 fun i j hi hj hij => ?_⟩
    · obtain ⟨j, hj, e⟩ := List.getElem_of_mem hx
      have := h j hj
      cases ha : agB x.n
      · exact absurd ⟨x, by rw [List.getElem?_eq_getElem hj, e], .inl (by unfold wrongH; rw [ha]; rfl)⟩ this
      · rfl
    · obtain ⟨n, rfl⟩ : ∃ n, j = i + 1 + n := ⟨j - (i + 1), by omega⟩
      exact hfar n i hj
  · rintro ⟨h1, h2⟩ j hj ⟨x, hx, hb⟩
    rw [List.getElem?_eq_getElem hj] at hx
    cases hx
    rcases hb with hb | ⟨m, y, rfl, hy, hc⟩
    · unfold wrongH at hb
      rw [h1 _ (List.getElem_mem hj)] at hb
      cases hb
    · rw [List.getElem?_eq_getElem (by omega)] at hy
      cases hy
      have := List.pairwise_iff_getElem.1 h2 m (m + 1) (by omega) hj (by omega)
      rw [ltB_iff.2 this] at hc
      cases hc
theorem mono_of {xs : List Ho} (t : Tu) (h : RtP xs) : MonoH xs t := by
  intro a b x y hab hx hy hc
  obtain ⟨ha, rfl⟩ := List.getElem?_eq_some_iff.1 hx
  obtain ⟨hb, rfl⟩ := List.getElem?_eq_some_iff.1 hy
  exact cmpT_lt.2 (ltT_trans (List.pairwise_iff_getElem.1 h.2 a b ha hb hab) (cmpT_lt.1 hc))
theorem ltT_irr (t : Tu) : ¬ ltT t t := by unfold ltT; omega
theorem eqH_iff {t : Tu} {x : Ho} : eqH t x = true ↔ x.t = t := eqT_iff
theorem isH_iff {z x : Ho} : isH z x = true ↔ x = z := by unfold isH; simp
theorem RtP.tail {x : Ho} {xs : List Ho} (h : RtP (x :: xs)) : RtP xs := ⟨fun y hy => h.1 y (List.mem_cons_of_mem _ hy), (List.pairwise_cons.1 h.2).2⟩
theorem RtP.sub {xs ys : List Ho} (h : RtP xs) (s : ys.Sublist xs) : RtP ys := ⟨fun y hy => h.1 y (s.subset hy), h.2.sublist s⟩
theorem RtP.nil : RtP [] := ⟨fun x h => absurd h (by simp), List.Pairwise.nil⟩
/-- One tuple, one holder. -/
theorem RtP.uniq {xs : List Ho} (h : RtP xs) {x y : Ho} (hx : x ∈ xs) (hy : y ∈ xs) (e : x.t = y.t) : x = y := by
  obtain ⟨i, hi, rfl⟩ := List.getElem_of_mem hx
  obtain ⟨j, hj, rfl⟩ := List.getElem_of_mem hy
  rcases Nat.lt_trichotomy i j with h1 | h1 | h1
  · have := List.pairwise_iff_getElem.1 h.2 i j hi hj h1
    rw [e] at this; exact absurd this (ltT_irr _)
  · subst h1; rfl
  · have := List.pairwise_iff_getElem.1 h.2 j i hj hi h1
    rw [e] at this; exact absurd this (ltT_irr _)
theorem okH_cons (x : Ho) (xs : List Ho) (t : Tu) : okH (x :: xs) t = if geH t x then (cmpT x.t t == 0) else okH xs t := by
  unfold okH atH
  rw [List.findIdx_cons]
  cases geH t x <;> simp
theorem atH_cons (x : Ho) (xs : List Ho) (t : Tu) : atH (x :: xs) t = if geH t x then 0 else atH xs t + 1 := by
  unfold atH
  rw [List.findIdx_cons]
  cases geH t x <;> rfl
theorem geH_not {t : Tu} {x : Ho} : geH t x = false ↔ ltT x.t t := by
  unfold geH
  rw [decide_eq_false_iff_not, ← cmpT_lt]
  omega
theorem ok_has {xs : List Ho} (t : Tu) (h : RtP xs) : okH xs t = ownHas xs t := by
  induction xs with
  | nil => rfl
  | cons x xs ih =>
    rw [okH_cons]
    unfold ownHas
    rw [List.any_cons]
    cases hg : geH t x
    · have hl := geH_not.1 hg
      have he : eqH t x = false := by rw [Bool.eq_false_iff]; intro e; rw [eqH_iff.1 e] at hl; exact ltT_irr _ hl
      rw [he, ih h.tail]
      rfl
    · rw [if_pos rfl]
      by_cases hc : cmpT x.t t = 0
      · rw [hc, eqH_iff.2 (cmpT_eq.1 hc)]; rfl
      · have hp : 0 < cmpT x.t t := by
          unfold geH at hg
          have := of_decide_eq_true hg
          omega
        have hno : xs.any (eqH t) = false := by
          rw [List.any_eq_false]
          intro y hy e
          have h1 := (List.pairwise_cons.1 h.2).1 y hy
          rw [eqH_iff.1 e] at h1
          exact ltT_irr _ (ltT_trans h1 (cmpT_gt.1 hp))
        have he : eqH t x = false := by rw [Bool.eq_false_iff]; intro e; exact hc (cmpT_eq.2 (eqH_iff.1 e))
        rw [hno, he]
        simp [hc]
theorem ins_P {xs : List Ho} (z : Ho) (h : RtP xs) (ha : agB z.n = true) (hn : okH xs z.t = false) : RtP (insAt xs (atH xs z.t) z) := by
  refine ⟨fun x hx => ?_, ?_⟩
  · unfold insAt at hx
    rcases List.mem_append.1 hx with hx | hx
    · exact h.1 x (List.mem_of_mem_take hx)
    · rcases List.mem_cons.1 hx with rfl | hx
      · exact ha
      · exact h.1 x (List.mem_of_mem_drop hx)
  · induction xs with
    | nil => simp [insAt, atH]
    | cons x xs ih =>
      rw [okH_cons] at hn
      rw [atH_cons]
      cases hg : geH z.t x
      · rw [hg, if_neg (by simp)] at hn
        have := ih h.tail hn
        rw [if_neg (by simp)]
        unfold insAt at this ⊢
        rw [List.take_succ_cons, List.drop_succ_cons, List.cons_append]
        refine List.pairwise_cons.2 ⟨fun y hy => ?_, this⟩
        rcases List.mem_append.1 hy with hy | hy
        · exact (List.pairwise_cons.1 h.2).1 y (List.mem_of_mem_take hy)
        · rcases List.mem_cons.1 hy with rfl | hy
          · exact geH_not.1 hg
          · exact (List.pairwise_cons.1 h.2).1 y (List.mem_of_mem_drop hy)
      · rw [hg, if_pos rfl] at hn
        rw [if_pos rfl]
        unfold insAt
        rw [List.take_zero, List.drop_zero, List.nil_append]
        have hz : ltT z.t x.t := by
          have h0 := of_decide_eq_true (show decide (0 ≤ cmpT x.t z.t) = true from hg)
          have h1 : cmpT x.t z.t ≠ 0 := by simpa using hn
          exact cmpT_gt.1 (by omega)
        refine List.pairwise_cons.2 ⟨fun y hy => ?_, h.2⟩
        rcases List.mem_cons.1 hy with rfl | hy
        · exact hz
        · exact ltT_trans hz ((List.pairwise_cons.1 h.2).1 y hy)
theorem mem_ins {α : Type} (xs : List α) (k : Nat) (z y : α) : y ∈ insAt xs k z ↔ y = z ∨ y ∈ xs := by
  unfold insAt
  have h := List.take_append_drop k xs
  constructor
  · intro hx
    rcases List.mem_append.1 hx with hx | hx
    · exact .inr (List.mem_of_mem_take hx)
    · rcases List.mem_cons.1 hx with rfl | hx
      · exact .inl rfl
      · exact .inr (List.mem_of_mem_drop hx)
  · rintro (rfl | hx)
    · exact List.mem_append_right _ (List.mem_cons_self)
    · rw [← h] at hx
      rcases List.mem_append.1 hx with hx | hx
      · exact List.mem_append_left _ hx
      · exact List.mem_append_right _ (List.mem_cons_of_mem _ hx)
/-- Who has a tuple. -/
theorem own_cases {xs : List Ho} (t : Tu) : (∃ y ∈ xs, y.t = t ∧ ownI xs t = y.n ∧ ownHas xs t = true) ∨ (∀ y ∈ xs, y.t ≠ t) ∧ ownI xs t = -1 ∧ ownHas xs t = false := by
  unfold ownI ownHas
  cases hf : xs.find? (eqH t) with
  | some y =>
    have h1 := List.find?_some hf
    have h2 := List.mem_of_find?_eq_some hf
    exact .inl ⟨y, h2, eqH_iff.1 h1, rfl, List.any_eq_true.2 ⟨y, h2, h1⟩⟩
  | none =>
    have h1 := List.find?_eq_none.1 hf
    exact .inr ⟨fun y hy e => h1 y hy (eqH_iff.2 e), rfl, List.any_eq_false.2 fun y hy => h1 y hy⟩
theorem own_mem {xs : List Ho} (h : RtP xs) {y : Ho} (hy : y ∈ xs) : ownI xs y.t = y.n ∧ ownHas xs y.t = true := by
  rcases own_cases (xs := xs) y.t with ⟨z, hz, h1, h2, h3⟩ | ⟨h1, -⟩
  · rw [h.uniq hz hy h1] at h2; exact ⟨h2, h3⟩
  · exact absurd rfl (h1 y hy)
theorem own_not {xs : List Ho} {t : Tu} (h : ∀ y ∈ xs, y.t ≠ t) : ownI xs t = -1 ∧ ownHas xs t = false := by
  rcases own_cases (xs := xs) t with ⟨z, hz, h1, -⟩ | ⟨-, h1⟩
  · exact absurd h1 (h z hz)
  · exact h1
theorem ag_range {n : Int} (h : agB n = true) : 0 ≤ n ∧ n < 6 := by
  unfold agB at h
  simpa using h
theorem own_has {xs : List Ho} (h : RtP xs) (t : Tu) : ownHas xs t = decide (0 ≤ ownI xs t) := by
  rcases own_cases (xs := xs) t with ⟨z, hz, h1, h2, h3⟩ | ⟨-, h2, h3⟩
  · rw [h3, h2, decide_eq_true (ag_range (h.1 z hz)).1]
  · rw [h3, h2]; rfl
theorem mine_is {xs : List Ho} (h : RtP xs) (e : Ev) : xs.any (isH (zOf e)) = (ownHas xs e.t && ownI xs e.t == e.n) := by
  rw [Bool.eq_iff_iff, List.any_eq_true, Bool.and_eq_true, beq_iff_eq]
  constructor
  · rintro ⟨x, hx, hi⟩
    obtain rfl := isH_iff.1 hi
    exact ⟨(own_mem h hx).2, (own_mem h hx).1⟩
  · rintro ⟨h1, h2⟩
    rcases own_cases (xs := xs) e.t with ⟨z, hz, g1, g2, -⟩ | ⟨-, -, g3⟩
    · refine ⟨z, hz, isH_iff.2 ?_⟩
      unfold zOf
      rw [← g1, ← h2, g2]
    · rw [g3] at h1; cases h1
theorem over_filter {xs : List Ho} (h : RtP xs) (e : Ev) (ha : xs.any (isH (zOf e)) = true) : overX xs e = xs.filter (fun x => !eqH e.t x) := by
  unfold overX
  rw [if_pos ha]
  induction xs with
  | nil => cases ha
  | cons x xs ih =>
    rw [List.findIdx_cons]
    cases hx : isH (zOf e) x
    · rw [List.any_cons, hx, Bool.false_or] at ha
      obtain ⟨y, hy, hyz⟩ := List.any_eq_true.1 ha
      have h1 := (List.pairwise_cons.1 h.2).1 y hy
      have h2 : y.t = e.t := by rw [isH_iff.1 hyz]; rfl
      have h3 : eqH e.t x = false := by rw [Bool.eq_false_iff]; intro e'; rw [h2, eqH_iff.1 e'] at h1; exact ltT_irr _ h1
      rw [List.filter_cons, h3]
      simp only [cond_false, List.eraseIdx_cons_succ, Bool.not_false, if_true]
      rw [ih h.tail ha]
    · have h2 : x.t = e.t := by rw [isH_iff.1 hx]; rfl
      simp only [cond_true, List.eraseIdx_cons_zero]
      rw [List.filter_cons, eqH_iff.2 h2]
      simp only [Bool.not_true, Bool.false_eq_true, if_false]
      refine (List.filter_eq_self.2 fun y hy => ?_).symm
      have h1 := (List.pairwise_cons.1 h.2).1 y hy
      cases hc : eqH e.t y
      · rfl
      · rw [eqH_iff.1 hc, h2] at h1; exact absurd h1 (ltT_irr _)
theorem step_eq (xs : List Ho) (e : Ev) : stepR xs e = stepH xs e := by
  unfold stepR stepH
  cases hr : rightH xs
  · rfl
  cases ha : agB e.n
  · rfl
  have h := (rightH_P xs).1 hr
  have hm := mine_is h e
  have hk := ok_has e.t h
  simp only [Bool.not_true, Bool.or_self, Bool.false_eq_true, if_false, Bool.and_self, if_true]
  unfold kindH
  rw [← hm, hk, ← hk]
  by_cases h1 : e.k = 1
  · rw [if_pos h1]
    unfold accX
    simp only [h1]
    cases ho : okH xs e.t <;> simp
  by_cases h2 : e.k = 2
  · rw [if_neg h1, if_pos h2]
    simp only [h2]
    cases ho : xs.any (isH (zOf e)) <;> simp
  by_cases h3 : e.k = 3 ∨ e.k = 4
  · rw [if_neg h1, if_neg h2, if_pos h3]
    cases ho : xs.any (isH (zOf e))
    · have : overX xs e = xs := by unfold overX; rw [ho]; rfl
      rw [this]
      rcases h3 with h3 | h3 <;> simp [h3]
    · rw [over_filter h e ho]
      rcases h3 with h3 | h3 <;> simp [h3]
  rw [if_neg h1, if_neg h2, if_neg h3]
  have h3a : e.k ≠ 3 := fun h => h3 (.inl h)
  have h3b : e.k ≠ 4 := fun h => h3 (.inr h)
  by_cases h5 : e.k = 5
  · rw [if_pos h5]
    unfold killX
    simp only [h5]
    cases zeT e.t <;> simp
  · rw [if_neg h5]
    simp [h1, h2, h3a, h3b, h5]
/-- A table that may be stays so. -/
theorem step_P {xs : List Ho} (h : RtP xs) (e : Ev) : RtP (stepH xs e).1 := by
  unfold stepH
  split
  · rename_i hc
    have ha : agB e.n = true := (Bool.and_eq_true _ _ ▸ hc : rightH xs = true ∧ agB e.n = true).2
    unfold kindH
    split
    · unfold accX
      split
      · exact h
      · rename_i hk
        exact ins_P (zOf e) h ha (show okH xs e.t = false by simpa using hk)
    · split
      · exact h
      · split
        · unfold overX
          split
          · exact h.sub (List.eraseIdx_sublist _ _)
          · exact h
        · split
          · unfold killX
            split
            · exact h.sub List.filter_sublist
            · exact h
          · exact h
  · exact h
theorem step_not {xs : List Ho} {e : Ev} (h : (stepH xs e).2 = false) : (stepH xs e).1 = xs := by
  unfold stepH at *
  split
  · rename_i hc
    rw [if_pos hc] at h
    unfold kindH at *
    split
    · rename_i h1
      rw [if_pos h1] at h
      unfold accX
      rw [if_pos (by simpa using h)]
    · rename_i h1
      rw [if_neg h1] at h
      split
      · rfl
      · rename_i h2
        rw [if_neg h2] at h
        split
        · rename_i h3
          rw [if_pos h3] at h
          unfold overX
          simp only at h
          rw [h]; rfl
        · rename_i h3
          rw [if_neg h3] at h
          split
          · rename_i h5
            rw [if_pos h5] at h
            unfold killX
            simp only at h
            rw [h]; rfl
          · rfl
  · rfl
theorem step_mem {xs : List Ho} {e : Ev} {y : Ho} (h : y ∈ (stepH xs e).1) : y = zOf e ∨ y ∈ xs := by
  unfold stepH at h
  split at h
  · unfold kindH at h
    split at h
    · unfold accX at h
      split at h
      · exact .inr h
      · exact (mem_ins _ _ _ _).1 h
    · split at h
      · exact .inr h
      · split at h
        · unfold overX at h
          split at h
          · exact .inr ((List.eraseIdx_sublist _ _).subset h)
          · exact .inr h
        · split at h
          · unfold killX at h
            split at h
            · exact .inr (List.filter_sublist.subset h)
            · exact .inr h
          · exact .inr h
  · exact .inr h
theorem step_len (xs : List Ho) (e : Ev) : (stepH xs e).1.length ≤ xs.length + 1 := by
  unfold stepH
  split
  · unfold kindH
    split
    · unfold accX
      split
      · simp
      · unfold insAt; simp; omega
    · split
      · simp
      · split
        · unfold overX
          split
          · simp only; have := (List.eraseIdx_sublist xs (xs.findIdx (isH (zOf e)))).length_le; omega
          · simp
        · split
          · unfold killX
            split
            · simp only; have := List.length_filter_le (fun x => !isN e.n x) xs; omega
            · simp
          · simp
  · simp

end Go.Proofs.Ytookffaojlkfaaa

/- An agent's tuples, the program's and the document's. -/
namespace Go.Proofs.Ytookffaojlkfaaa
open Go.RowKit

/-- A slice of tuples reads as a list. -/
def SlT (w : World) (p : Option Addr) (xs : List Tu) : Prop := ∀ k, (h : k < xs.length) → ∃ b off, p = some ⟨b, off, none⟩ ∧ b < w.heap.size ∧ w.cell? ⟨b, off + k * 4, none⟩ = some (.int .u32 xs[k].a) ∧ w.cell? ⟨b, off + k * 4 + 1, none⟩ = some (.int .u32 xs[k].b) ∧ w.cell? ⟨b, off + k * 4 + 2, none⟩ = some (.int .u16 xs[k].c) ∧ w.cell? ⟨b, off + k * 4 + 3, none⟩ = some (.int .u16 xs[k].d)
theorem SlT.ext {w w' : World} {p : Option Addr} {xs : List Tu} (h : SlT w p xs) (e : Ext w w') : SlT w' p xs := fun k hk => by
  obtain ⟨b, off, hp, hb, c0, c1, c2, c3⟩ := h k hk
  exact ⟨b, off, hp, Nat.lt_of_lt_of_le hb e.size, (e.cell (p := ⟨b, off + k * 4, none⟩) hb).trans c0, (e.cell (p := ⟨b, off + k * 4 + 1, none⟩) hb).trans c1, (e.cell (p := ⟨b, off + k * 4 + 2, none⟩) hb).trans c2, (e.cell (p := ⟨b, off + k * 4 + 3, none⟩) hb).trans c3⟩
theorem SlT.nil (w : World) (p : Option Addr) : SlT w p [] := fun k hk => by simp at hk
def Tu.cl (x : Tu) : List Value := [.int .u32 x.a, .int .u32 x.b, .int .u16 x.c, .int .u16 x.d]
def flT (xs : List Tu) : List Value := xs.flatMap Tu.cl
theorem flT_len : ∀ xs : List Tu, (flT xs).length = xs.length * 4
  | [] => rfl
  | x :: xs => by
    show (Tu.cl x ++ flT xs).length = _
    rw [List.length_append, flT_len xs, List.length_cons]
    show 4 + _ = _
    omega
theorem flT_get : ∀ (xs : List Tu) (k j : Nat) (hk : k < xs.length), j < 4 → (flT xs)[k * 4 + j]? = (xs[k]).cl[j]?
  | x :: xs, 0, j, _, hj => by
    show (Tu.cl x ++ flT xs)[0 * 4 + j]? = _
    rw [Nat.zero_mul, Nat.zero_add, List.getElem?_append_left (by show j < 4; exact hj)]; rfl
  | x :: xs, k + 1, j, hk, hj => by
    show (Tu.cl x ++ flT xs)[(k + 1) * 4 + j]? = _
    have hc : (Tu.cl x).length = 4 := rfl
    rw [List.getElem?_append_right (by omega), hc, show (k + 1) * 4 + j - 4 = k * 4 + j by omega]
    exact flT_get xs k j (by simpa using hk) hj
theorem flT_snoc (xs : List Tu) (x : Tu) : flT (xs ++ [x]) = flT xs ++ x.cl := by unfold flT; simp
theorem flT_one (xs : List Tu) : ∀ u ∈ flT xs, u.oneCell' = true := by
  intro u hu
  unfold flT at hu
  rw [List.mem_flatMap] at hu
  obtain ⟨x, _, hx⟩ := hu
  unfold Tu.cl at hx
  simp only [List.mem_cons, List.not_mem_nil, or_false] at hx
  rcases hx with rfl | rfl | rfl | rfl <;> rfl
theorem info_T : (Try.prog.info? 26).map (fun i => (i.zero, i.size, i.bytes)) = some (some (.agg #[.int .u32 0, .int .u32 0, .int .u16 0, .int .u16 0]), 4, 12) := by kernel_rfl
theorem SlT.own {w : World} {base : Nat} {v : Value} {xs : List Tu} (h : w.ownsRow base 26 4 v xs.length (flT xs)) : ∃ p c, v = .slice p xs.length c ∧ xs.length ≤ c ∧ SlT w p xs := by
  rcases h.2 with ⟨rfl, h0⟩ | ⟨g, cap, cur, rfl, hg, hgb, h1, h2, h3, h4⟩
  · have : xs = [] := List.length_eq_zero_iff.1 h0
    subst this
    exact ⟨none, 0, rfl, Nat.le_refl _, SlT.nil _ _⟩
  · refine ⟨some ⟨g, 0, none⟩, cap, rfl, h1, fun k hk => ?_⟩
    have key : ∀ j, j < 4 → w.cell? ⟨g, 0 + k * 4 + j, none⟩ = (xs[k]).cl[j]? := fun j hj => by
      rw [← flT_get xs k j hk hj, ← h4, List.getElem?_take_of_lt (by have := flT_len xs; omega)]
      simp only [World.cell?, hgb]
      simp
    exact ⟨g, 0, rfl, (Array.getElem?_eq_some_iff.1 hgb).1, key 0 (by omega), key 1 (by omega), key 2 (by omega), key 3 (by omega)⟩
theorem tu_one (x : Tu) : ∀ u ∈ x.cl, u.oneCell' = true := by
  intro u hu
  unfold Tu.cl at hu
  simp only [List.mem_cons, List.not_mem_nil, or_false] at hu
  rcases hu with rfl | rfl | rfl | rfl <;> rfl
theorem cell_tu_new (W : World) (x : Ho) (t : TypeId) : ∀ j u, x.t.cl[j]? = some u → (W.alloc (.cells #[.int .u32 x.t.a, .int .u32 x.t.b, .int .u16 x.t.c, .int .u16 x.t.d] t)).cell? ((⟨W.heap.size, 0, none⟩ : Addr).add j) = some u := by
  intro j u hu
  have hj : j < 4 := (List.getElem?_eq_some_iff.1 hu).1
  have e : (⟨W.heap.size, 0, none⟩ : Addr).add j = ⟨W.heap.size, j, none⟩ := by unfold Addr.add; split <;> simp_all
  rw [e, cell_rowD, rowD_new, ← hu]
  obtain rfl | rfl | rfl | rfl : j = 0 ∨ j = 1 ∨ j = 2 ∨ j = 3 := by omega
  all_goals rfl
def ofX (xs : List Ho) (n : Int) : List Tu := (xs.filter (isN n)).map Ho.t
def ofN (n : Int) (xs : List Ho) (k : Nat) : List Tu := ofX (xs.take k) n
theorem ofN_yes (n : Int) (xs : List Ho) (k : Nat) (x : Ho) (h : k < xs.length) (hx : xs[k] = x) (hs : (x.n == n) = true) : ofN n xs (k + 1) = ofN n xs k ++ [x.t] := by
  unfold ofN ofX
  rw [List.take_succ_eq_append_getElem h, List.filter_append, hx]
  simp [isN, hs]
theorem ofN_no (n : Int) (xs : List Ho) (k : Nat) (x : Ho) (h : k < xs.length) (hx : xs[k] = x) (hs : (x.n == n) = false) : ofN n xs (k + 1) = ofN n xs k := by
  unfold ofN ofX
  rw [List.take_succ_eq_append_getElem h, List.filter_append, hx]
  simp [isN, hs]
theorem ofN_len (n : Int) (xs : List Ho) (k : Nat) : (ofN n xs k).length ≤ xs.length := by
  unfold ofN ofX
  rw [List.length_map]
  exact Nat.le_trans (List.length_filter_le _ _) (List.length_take_le' _ _)
theorem ofX_len (n : Int) (xs : List Ho) : (ofX xs n).length ≤ xs.length := by
  unfold ofX
  rw [List.length_map]
  exact List.length_filter_le _ _

set_option maxRecDepth 20000 in
set_option maxHeartbeats 4000000 in
theorem rofh_any (p : Option Addr) (xs : List Ho) (c : Nat) (k : Int) (w : World) (hs : SlH w p xs) (hl : xs.length ≤ 1000) :
    Calls Try.prog 47 #[.slice p xs.length c, .int .i64 k] w fun e w' => ∃ v, e = .returned v ∧ w'.ownsRow w.heap.size 26 4 v (ofX xs k).length (flT (ofX xs k)) ∧ Ext w w' := by
  obtain ⟨i0, hi, hz0, hz1, hz2⟩ := info_parts info_T
  go_enter Try.func47, Try.ntmps47
  go_wp2
  go_loopw [5, 6] (fun v a wr => ∃ q : Nat, q ≤ xs.length ∧ a = .int .i64 q ∧ wr.ownsRow w.heap.size 26 4 v (ofN k xs q).length (flT (ofN k xs q)) ∧ Ext w wr) (fun _ a _ => xs.length - (intOf a).toNat)
  case atStart => exact ⟨0, Nat.zero_le _, rfl, World.ownsRow_nil _ _ _ _, Ext.rf _⟩
  case round =>
    obtain ⟨q, hq, rfl, hy, hE⟩ := hrel
    by_cases hlt : q < xs.length
    · have hil : (q : Int) < xs.length := by omega
      obtain ⟨b, off, rfl, hb, c0, c1, c2, c3, c4⟩ := (hs.ext hE) q hlt
      have lbb : Lt b wr := hb
      obtain ⟨x, hx⟩ : ∃ x, xs[q] = x := ⟨_, rfl⟩
      rw [hx] at c0 c1 c2 c3 c4
      have HY := Lib.hid hy
      have HSS := Lib.hid hs
      have hlen := ofN_len k xs q
      have hbw := hE.size
      clear hy hb hs
      by_cases hk : x.n = k
      · have hkd : (x.n == k) = true := by simp [hk]
        have n1 := ofN_yes k xs q x hlt hx hkd
        have HN1 := Lib.hid n1
        have HXX := Lib.hid hx
        clear n1 hx hk
        have HOY := HY
        go_wp2_with ((at_builtin; go_must (refine wpList_append_own_at _ rfl _ _ 62 rfl w.heap.size 26 i0 (.agg #[.int .u32 0, .int .u32 0, .int .u16 0, .int .u16 0]) 4 12 Try.underlying62 hi hz0 hz1 hz2 rfl (by decide) u5 _ _ rfl (HOY.out.alloc _) ⟨wr.heap.size, 0, none⟩ 1 1 x.t.cl rfl rfl (cell_tu_new _ _ _) (tu_one x.t) (by unfold maxLen; omega) (by omega) (by simp; omega) ?_); intro v' w3 hown' hgrow _ hat; have HOW := Lib.hid hown'; have HG := Lib.hid hgrow; have HAT := Lib.hid hat; clear hown' hgrow hat))
        go_roundw
        case rel =>
          refine ⟨q + 1, by omega, by go_num, ?_, Mv.ext_of (Ext.al hE _ : Ext w (wr.alloc (.cells #[.int .u32 x.t.a, .int .u32 x.t.b, .int .u16 x.t.c, .int .u16 x.t.d] 26))) (Mv.of_grown (C := fun k => w.heap.size ≤ k) HG.out fun r e => .inl (ownBlock_ge HOY.out r e)) (fun k h => h)⟩
          rw [HN1.out, List.length_append, flT_snoc]; exact HOW.out
        case measure => simp [intOf]; omega
      · have hkd : (x.n == k) = false := by simp [hk]
        have n1 := ofN_no k xs q x hlt hx hkd
        have HN1 := Lib.hid n1
        clear n1 hx hk
        go_wp2
        go_roundw
        case rel => exact ⟨q + 1, by omega, by go_num, by rw [HN1.out]; exact HY.out, hE⟩
        case measure => simp [intOf]; omega
    · have hil : ¬ ((q : Int) < xs.length) := by omega
      have HY := Lib.hid hy
      have HE := Lib.hid (show ofN k xs q = ofX xs k by unfold ofN; rw [List.take_of_length_le (by omega)])
      clear hy
      go_wp2
      refine bodyPost_ret (v := u5) (by simp [results, Try.results47, go_sem]) rfl ⟨u5, rfl, ?_, hE⟩
      rw [← HE.out]; exact HY.out

set_option maxRecDepth 20000 in
set_option maxHeartbeats 4000000 in
theorem ofh_any (p : Option Addr) (xs : List Ho) (c : Nat) (k : Int) (w : World) (hs : SlH w p xs) (hl : xs.length ≤ 1000) :
    Calls Try.prog 46 #[.slice p xs.length c, .int .i64 k] w fun e w' => ∃ v, e = .returned v ∧ w'.ownsRow w.heap.size 26 4 v (ofX xs k).length (flT (ofX xs k)) ∧ Ext w w' := by
  obtain ⟨i0, hi, hz0, hz1, hz2⟩ := info_parts info_T
  go_enter Try.func46, Try.ntmps46
  go_wp2
  go_loopw [4, 6, 9] (fun v _ a wr => ∃ q : Nat, q ≤ xs.length ∧ a = .int .i64 q ∧ wr.ownsRow w.heap.size 26 4 v (ofN k xs q).length (flT (ofN k xs q)) ∧ Ext w wr) (fun _ _ a _ => xs.length - (intOf a).toNat)
  case atStart => exact ⟨0, Nat.zero_le _, rfl, World.ownsRow_nil _ _ _ _, Ext.rf _⟩
  case round =>
    obtain ⟨q, hq, rfl, hy, hE⟩ := hrel
    by_cases hlt : q < xs.length
    · have hil : (q : Int) < xs.length := by omega
      obtain ⟨b, off, rfl, hb, c0, c1, c2, c3, c4⟩ := (hs.ext hE) q hlt
      have lbb : Lt b wr := hb
      obtain ⟨x, hx⟩ : ∃ x, xs[q] = x := ⟨_, rfl⟩
      rw [hx] at c0 c1 c2 c3 c4
      have HY := Lib.hid hy
      have HSS := Lib.hid hs
      have hlen := ofN_len k xs q
      have hbw := hE.size
      clear hy hb hs
      by_cases hk : x.n = k
      · have hkd : (x.n == k) = true := by simp [hk]
        have n1 := ofN_yes k xs q x hlt hx hkd
        have HN1 := Lib.hid n1
        have HXX := Lib.hid hx
        clear n1 hx hk
        go_upto_region 4 with (fail)
        obtain ⟨W1, hW⟩ : ∃ W1, wr.alloc (.cells #[.int .u32 x.t.a, .int .u32 x.t.b, .int .u16 x.t.c, .int .u16 x.t.d, .int .i64 x.n] 70) = W1 := ⟨_, rfl⟩
        have g1 : Ext wr W1 := by rw [← hW]; exact Ext.al (Ext.rf _) _
        have rx : rowD W1 wr.heap.size = #[.int .u32 x.t.a, .int .u32 x.t.b, .int .u16 x.t.c, .int .u16 x.t.d, .int .i64 x.n] := by rw [← hW]; simp [go_sem]
        have lx : Lt wr.heap.size W1 := by rw [← hW]; simp [Lt]
        rw [hW]
        have HOY := Lib.hid (own_ext HY.out g1)
        have hsz1 := (hE.tr g1).size
        clear hW c0 c1 c2 c3 c4 lbb
        generalize wr.heap.size = BX at *
        have x0 : W1.cell? ⟨BX, 0, none⟩ = some (.int .u32 x.t.a) := by rw [cell_rowD, rx]; rfl
        have x1 : W1.cell? ⟨BX, 1, none⟩ = some (.int .u32 x.t.b) := by rw [cell_rowD, rx]; rfl
        have x2 : W1.cell? ⟨BX, 2, none⟩ = some (.int .u16 x.t.c) := by rw [cell_rowD, rx]; rfl
        have x3 : W1.cell? ⟨BX, 3, none⟩ = some (.int .u16 x.t.d) := by rw [cell_rowD, rx]; rfl
        have x4 : W1.cell? ⟨BX, 4, none⟩ = some (.int .i64 x.n) := by rw [cell_rowD, rx]; rfl
        clear rx
        go_wp2_with ((at_builtin; go_must (refine wpList_append_own_at _ rfl _ _ 62 rfl w.heap.size 26 i0 (.agg #[.int .u32 0, .int .u32 0, .int .u16 0, .int .u16 0]) 4 12 Try.underlying62 hi hz0 hz1 hz2 rfl (by decide) u4 _ _ rfl (HOY.out.alloc _) ⟨W1.heap.size, 0, none⟩ 1 1 x.t.cl rfl rfl (cell_tu_new _ _ _) (tu_one x.t) (by unfold maxLen; omega) (by omega) (by simp; omega) ?_); intro v' w3 hown' hgrow _ hat; have HOW := Lib.hid hown'; have HG := Lib.hid hgrow; have HAT := Lib.hid hat; clear hown' hgrow hat))
        go_roundw
        case rel =>
          refine ⟨q + 1, by omega, by go_num, ?_, Mv.ext_of (Ext.al (hE.tr g1) _ : Ext w (W1.alloc (.cells #[.int .u32 x.t.a, .int .u32 x.t.b, .int .u16 x.t.c, .int .u16 x.t.d] 26))) (Mv.of_grown (C := fun k => w.heap.size ≤ k) HG.out fun r e => .inl (ownBlock_ge HOY.out r e)) (fun k h => h)⟩
          rw [HN1.out, List.length_append, flT_snoc]; exact HOW.out
        case measure => simp [intOf]; omega
      · have hkd : (x.n == k) = false := by simp [hk]
        have n1 := ofN_no k xs q x hlt hx hkd
        have HN1 := Lib.hid n1
        clear n1 hx hk
        go_upto_region 4 with (fail)
        obtain ⟨W1, hW⟩ : ∃ W1, wr.alloc (.cells #[.int .u32 x.t.a, .int .u32 x.t.b, .int .u16 x.t.c, .int .u16 x.t.d, .int .i64 x.n] 70) = W1 := ⟨_, rfl⟩
        have g1 : Ext wr W1 := by rw [← hW]; exact Ext.al (Ext.rf _) _
        have rx : rowD W1 wr.heap.size = #[.int .u32 x.t.a, .int .u32 x.t.b, .int .u16 x.t.c, .int .u16 x.t.d, .int .i64 x.n] := by rw [← hW]; simp [go_sem]
        have lx : Lt wr.heap.size W1 := by rw [← hW]; simp [Lt]
        rw [hW]
        have HOY := Lib.hid (own_ext HY.out g1)
        have hsz1 := (hE.tr g1).size
        clear hW c0 c1 c2 c3 c4 lbb
        generalize wr.heap.size = BX at *
        have x0 : W1.cell? ⟨BX, 0, none⟩ = some (.int .u32 x.t.a) := by rw [cell_rowD, rx]; rfl
        have x1 : W1.cell? ⟨BX, 1, none⟩ = some (.int .u32 x.t.b) := by rw [cell_rowD, rx]; rfl
        have x2 : W1.cell? ⟨BX, 2, none⟩ = some (.int .u16 x.t.c) := by rw [cell_rowD, rx]; rfl
        have x3 : W1.cell? ⟨BX, 3, none⟩ = some (.int .u16 x.t.d) := by rw [cell_rowD, rx]; rfl
        have x4 : W1.cell? ⟨BX, 4, none⟩ = some (.int .i64 x.n) := by rw [cell_rowD, rx]; rfl
        clear rx
        go_wp2
        go_roundw
        case rel => exact ⟨q + 1, by omega, by go_num, by rw [HN1.out]; exact HOY.out, hE.tr g1⟩
        case measure => simp [intOf]; omega
    · have hil : ¬ ((q : Int) < xs.length) := by omega
      have HY := Lib.hid hy
      have HE := Lib.hid (show ofN k xs q = ofX xs k by unfold ofN; rw [List.take_of_length_le (by omega)])
      clear hy
      go_wp2
      refine bodyPost_ret (v := u4) (by simp [results, Try.results46, go_sem]) rfl ⟨u4, rfl, ?_, hE⟩
      rw [← HE.out]; exact HY.out

end Go.Proofs.Ytookffaojlkfaaa

/- The document's Of and Without. -/
namespace Go.Proofs.Ytookffaojlkfaaa
open Go.RowKit

set_option maxRecDepth 20000 in
set_option maxHeartbeats 4000000 in
theorem rcof_any (p : Option Addr) (xs : List Co) (c : Nat) (k : Int) (w : World) (hs : SlC w p xs) (hl : xs.length ≤ 1000) (hr : ∀ x ∈ xs, TuR x.t) :
    Calls Try.prog 31 #[.slice p xs.length c, .int .i64 k] w fun e w' => ∃ v, e = .returned v ∧ w'.ownsRow w.heap.size 43 6 v (xs.filter (inB k)).length (flC (xs.filter (inB k))) ∧ Ext w w' := by
  obtain ⟨i0, hi, hz0, hz1, hz2⟩ := info_parts info_C
  have HRR := Lib.hid hr
  clear hr
  go_enter Try.func31, Try.ntmps31
  go_wp2
  go_loopw [5, 6] (fun v a wr => ∃ q : Nat, q ≤ xs.length ∧ a = .int .i64 q ∧ wr.ownsRow w.heap.size 43 6 v (yesN (inB k) xs q).length (flC (yesN (inB k) xs q)) ∧ Ext w wr) (fun _ a _ => xs.length - (intOf a).toNat)
  case atStart => exact ⟨0, Nat.zero_le _, rfl, World.ownsRow_nil _ _ _ _, Ext.rf _⟩
  case round =>
    obtain ⟨q, hq, rfl, hy, hE⟩ := hrel
    by_cases hlt : q < xs.length
    · have hil : (q : Int) < xs.length := by omega
      obtain ⟨b, off, rfl, hb, c0, c1, c2, c3, c4, c5⟩ := (hs.ext hE) q hlt
      have lbb : Lt b wr := hb
      obtain ⟨x, hx⟩ : ∃ x, xs[q] = x := ⟨_, rfl⟩
      have hmem : x ∈ xs := by rw [← hx]; exact List.getElem_mem hlt
      have HX := Lib.hid (HRR.out x hmem)
      rw [hx] at c0 c1 c2 c3 c4 c5
      have HY := Lib.hid hy
      have HSS := Lib.hid hs
      have hlen := yesN_len (inB k) xs q
      have hbw := hE.size
      clear hy hb hs
      by_cases hk : ofT x.t = k
      · have hkd : (ofT x.t == k) = true := by simp [hk]
        have hkn : (ofT x.t != k) = false := by simp [hk]
        have hso : (inB k) x = true := by show (ofT x.t == k) = _; rw [hkd]
        clear hk
        obtain ⟨n1, n2⟩ := yesN_yes (inB k) xs q x hlt hx hso
        have HN1 := Lib.hid n1
        clear n1 n2 hx hso hmem
        go_wp2_with (first | (at_builtin; go_must (refine wpList_append_own_at _ rfl _ _ 22 rfl w.heap.size 43 i0 (.agg #[.int .u32 0, .int .u32 0, .int .u16 0, .int .u16 0, .int .i64 0, .int .i64 0]) 6 32 Try.underlying22 hi hz0 hz1 hz2 rfl (by decide) _ _ _ rfl (HOY.out.alloc _) ⟨W2.heap.size, 0, none⟩ 1 1 x.cl rfl rfl (cell_co_new _ _ _) (co_one x) (by unfold maxLen; omega) (by omega) (by simp; omega) ?_); intro v' w3 hown' hgrow _ hat; have HOW := Lib.hid hown'; have HG := Lib.hid hgrow; have HAT := Lib.hid hat; clear hown' hgrow hat) | (go_at_call 51; (with_reducible refine (rof_any x.t HX.out _).mono ?_); rintro e W2 ⟨rfl, g2⟩; obtain ⟨hc2, hf2, hl2, hz2', -⟩ := kept g2; (try simp at hz2'); have HOY := Lib.hid (own_ext HY.out g2); have hsz2 := (hE.tr g2).size))
        go_roundw
        case rel =>
          have gX : Ext w (W2.alloc (.cells #[.int .u32 x.t.a, .int .u32 x.t.b, .int .u16 x.t.c, .int .u16 x.t.d, .int .i64 x.s, .int .i64 x.l] 43)) := Ext.al (hE.tr g2) _
          refine ⟨q + 1, by omega, by go_num, ?_, Mv.ext_of gX (Mv.of_grown (C := fun k => w.heap.size ≤ k) HG.out fun r e => .inl (ownBlock_ge HOY.out r e)) (fun k h => h)⟩
          rw [HN1.out, List.length_append, flC_snoc]; exact HOW.out
        case measure => simp [intOf]; omega
      · have hkd : (ofT x.t == k) = false := by simp [hk]
        have hkn : (ofT x.t != k) = true := by simp [hk]
        have hso : (inB k) x = false := by show (ofT x.t == k) = _; rw [hkd]
        clear hk
        obtain ⟨n1, n2⟩ := yesN_no (inB k) xs q x hlt hx hso
        have HN1 := Lib.hid n1
        clear n1 n2 hx hso hmem
        go_wp2_with (go_at_call 51; (with_reducible refine (rof_any x.t HX.out _).mono ?_); rintro e W2 ⟨rfl, g2⟩; obtain ⟨hc2, hf2, hl2, hz2', -⟩ := kept g2; (try simp at hz2'))
        go_roundw
        case rel => exact ⟨q + 1, by omega, by go_num, by rw [HN1.out]; exact own_ext HY.out g2, hE.tr g2⟩
        case measure => simp [intOf]; omega
    · have hil : ¬ ((q : Int) < xs.length) := by omega
      have HY := Lib.hid hy
      have HE := Lib.hid (show yesN (inB k) xs q = xs.filter (inB k) by unfold yesN; rw [List.take_of_length_le (by omega)])
      clear hy
      go_wp2
      refine bodyPost_ret (v := u5) (by simp [results, Try.results31, go_sem]) rfl ⟨u5, rfl, ?_, hE⟩
      rw [← HE.out]; exact HY.out

set_option maxRecDepth 20000 in
set_option maxHeartbeats 4000000 in
theorem rcwo_any (p : Option Addr) (xs : List Co) (c : Nat) (k : Int) (w : World) (hs : SlC w p xs) (hl : xs.length ≤ 1000) (hr : ∀ x ∈ xs, TuR x.t) :
    Calls Try.prog 33 #[.slice p xs.length c, .int .i64 k] w fun e w' => ∃ v, e = .returned v ∧ w'.ownsRow w.heap.size 43 6 v (xs.filter (fun x => !inB k x)).length (flC (xs.filter (fun x => !inB k x))) ∧ Ext w w' := by
  obtain ⟨i0, hi, hz0, hz1, hz2⟩ := info_parts info_C
  have HRR := Lib.hid hr
  clear hr
  go_enter Try.func33, Try.ntmps33
  go_wp2
  go_loopw [5, 6] (fun v a wr => ∃ q : Nat, q ≤ xs.length ∧ a = .int .i64 q ∧ wr.ownsRow w.heap.size 43 6 v (yesN (fun x => !inB k x) xs q).length (flC (yesN (fun x => !inB k x) xs q)) ∧ Ext w wr) (fun _ a _ => xs.length - (intOf a).toNat)
  case atStart => exact ⟨0, Nat.zero_le _, rfl, World.ownsRow_nil _ _ _ _, Ext.rf _⟩
  case round =>
    obtain ⟨q, hq, rfl, hy, hE⟩ := hrel
    by_cases hlt : q < xs.length
    · have hil : (q : Int) < xs.length := by omega
      obtain ⟨b, off, rfl, hb, c0, c1, c2, c3, c4, c5⟩ := (hs.ext hE) q hlt
      have lbb : Lt b wr := hb
      obtain ⟨x, hx⟩ : ∃ x, xs[q] = x := ⟨_, rfl⟩
      have hmem : x ∈ xs := by rw [← hx]; exact List.getElem_mem hlt
      have HX := Lib.hid (HRR.out x hmem)
      rw [hx] at c0 c1 c2 c3 c4 c5
      have HY := Lib.hid hy
      have HSS := Lib.hid hs
      have hlen := yesN_len (fun x => !inB k x) xs q
      have hbw := hE.size
      clear hy hb hs
      by_cases hk : ofT x.t = k
      · have hkd : (ofT x.t == k) = true := by simp [hk]
        have hkn : (ofT x.t != k) = false := by simp [hk]
        have hso : (fun x => !inB k x) x = false := by show (!(ofT x.t == k)) = _; rw [hkd]; rfl
        clear hk
        obtain ⟨n1, n2⟩ := yesN_no (fun x => !inB k x) xs q x hlt hx hso
        have HN1 := Lib.hid n1
        clear n1 n2 hx hso hmem
        go_wp2_with (go_at_call 51; (with_reducible refine (rof_any x.t HX.out _).mono ?_); rintro e W2 ⟨rfl, g2⟩; obtain ⟨hc2, hf2, hl2, hz2', -⟩ := kept g2; (try simp at hz2'))
        go_roundw
        case rel => exact ⟨q + 1, by omega, by go_num, by rw [HN1.out]; exact own_ext HY.out g2, hE.tr g2⟩
        case measure => simp [intOf]; omega
      · have hkd : (ofT x.t == k) = false := by simp [hk]
        have hkn : (ofT x.t != k) = true := by simp [hk]
        have hso : (fun x => !inB k x) x = true := by show (!(ofT x.t == k)) = _; rw [hkd]; rfl
        clear hk
        obtain ⟨n1, n2⟩ := yesN_yes (fun x => !inB k x) xs q x hlt hx hso
        have HN1 := Lib.hid n1
        clear n1 n2 hx hso hmem
        go_wp2_with (first | (at_builtin; go_must (refine wpList_append_own_at _ rfl _ _ 22 rfl w.heap.size 43 i0 (.agg #[.int .u32 0, .int .u32 0, .int .u16 0, .int .u16 0, .int .i64 0, .int .i64 0]) 6 32 Try.underlying22 hi hz0 hz1 hz2 rfl (by decide) _ _ _ rfl (HOY.out.alloc _) ⟨W2.heap.size, 0, none⟩ 1 1 x.cl rfl rfl (cell_co_new _ _ _) (co_one x) (by unfold maxLen; omega) (by omega) (by simp; omega) ?_); intro v' w3 hown' hgrow _ hat; have HOW := Lib.hid hown'; have HG := Lib.hid hgrow; have HAT := Lib.hid hat; clear hown' hgrow hat) | (go_at_call 51; (with_reducible refine (rof_any x.t HX.out _).mono ?_); rintro e W2 ⟨rfl, g2⟩; obtain ⟨hc2, hf2, hl2, hz2', -⟩ := kept g2; (try simp at hz2'); have HOY := Lib.hid (own_ext HY.out g2); have hsz2 := (hE.tr g2).size))
        go_roundw
        case rel =>
          have gX : Ext w (W2.alloc (.cells #[.int .u32 x.t.a, .int .u32 x.t.b, .int .u16 x.t.c, .int .u16 x.t.d, .int .i64 x.s, .int .i64 x.l] 43)) := Ext.al (hE.tr g2) _
          refine ⟨q + 1, by omega, by go_num, ?_, Mv.ext_of gX (Mv.of_grown (C := fun k => w.heap.size ≤ k) HG.out fun r e => .inl (ownBlock_ge HOY.out r e)) (fun k h => h)⟩
          rw [HN1.out, List.length_append, flC_snoc]; exact HOW.out
        case measure => simp [intOf]; omega
    · have hil : ¬ ((q : Int) < xs.length) := by omega
      have HY := Lib.hid hy
      have HE := Lib.hid (show yesN (fun x => !inB k x) xs q = xs.filter (fun x => !inB k x) by unfold yesN; rw [List.take_of_length_le (by omega)])
      clear hy
      go_wp2
      refine bodyPost_ret (v := u5) (by simp [results, Try.results33, go_sem]) rfl ⟨u5, rfl, ?_, hE⟩
      rw [← HE.out]; exact HY.out

end Go.Proofs.Ytookffaojlkfaaa

/- The document's Idle. -/
namespace Go.Proofs.Ytookffaojlkfaaa
open Go.RowKit

set_option maxRecDepth 20000 in
set_option maxHeartbeats 8000000 in
theorem ridle_any (p : Option Addr) (xs : List Co) (c : Nat) (idle now : Int) (w : World) (hs : SlC w p xs) (hl : xs.length ≤ 1000) (hid : idle ≤ 9223372036854775807) :
    Calls Try.prog 22 #[.slice p xs.length c, .int .i64 idle, .int .i64 now] w fun e w' => ∃ v1 v2, e = .returned (.tuple #[v1, v2]) ∧ TwoC w.heap.size w' v1 v2 (xs.filter (idleB idle now)) (xs.filter fun x => !idleB idle now x) ∧ Ext w w' := by
  obtain ⟨i0, hi, hz0, hz1, hz2⟩ := info_parts info_C
  go_enter Try.func22, Try.ntmps22
  go_wp2
  go_loopw [8, 9, 10] (fun vy vn a wr => ∃ q : Nat, q ≤ xs.length ∧ a = .int .i64 q ∧ TwoC w.heap.size wr vy vn (yesN (idleB idle now) xs q) (noN (idleB idle now) xs q) ∧ Ext w wr) (fun _ _ a _ => xs.length - (intOf a).toNat)
  case atStart => exact ⟨0, Nat.zero_le _, rfl, ⟨World.ownsRow_nil _ _ _ _, World.ownsRow_nil _ _ _ _, fun g h => by cases h⟩, Ext.rf _⟩
  case round =>
    obtain ⟨q, hq, rfl, ⟨hy, hn, hd⟩, hE⟩ := hrel
    by_cases hlt : q < xs.length
    · have hil : (q : Int) < xs.length := by omega
      obtain ⟨b, off, rfl, hb, c0, c1, c2, c3, c4, c5⟩ := (hs.ext hE) q hlt
      have lbb : Lt b wr := hb
      obtain ⟨x, hx⟩ : ∃ x, xs[q] = x := ⟨_, rfl⟩
      rw [hx] at c0 c1 c2 c3 c4 c5
      have HY := Lib.hid hy
      have HN := Lib.hid hn
      have HD := Lib.hid hd
      have HSS := Lib.hid hs
      have hlen := yesN_len (idleB idle now) xs q
      have hbw := hE.size
      clear hy hn hd hb hs
      by_cases h1 : 0 ≤ idle
      rotate_left
      · have hso : idleB idle now x = false := by unfold idleB asksB; simp [h1]
        obtain ⟨n1, n2⟩ := yesN_no (idleB idle now) xs q x hlt hx hso
        have HN1 := Lib.hid n1
        have HN2 := Lib.hid n2
        clear n1 n2 hx hso
        go_wp2_with ((at_builtin; go_must (refine wpList_append_own_at _ rfl _ _ 22 rfl w.heap.size 43 i0 (.agg #[.int .u32 0, .int .u32 0, .int .u16 0, .int .u16 0, .int .i64 0, .int .i64 0]) 6 32 Try.underlying22 hi hz0 hz1 hz2 rfl (by decide) u9 _ _ rfl (HN.out.alloc _) ⟨wr.heap.size, 0, none⟩ 1 1 x.cl rfl rfl (cell_co_new _ _ _) (co_one x) (by unfold maxLen; omega) (by omega) (by simp; omega) ?_); intro v' w3 hown' hgrow _ hat; have HOW := Lib.hid hown'; have HG := Lib.hid hgrow; have HAT := Lib.hid hat; clear hown' hgrow hat))
        go_roundw
        case rel =>
          have gX : Ext w (wr.alloc (.cells #[.int .u32 x.t.a, .int .u32 x.t.b, .int .u16 x.t.c, .int .u16 x.t.d, .int .i64 x.s, .int .i64 x.l] 43)) := Ext.al hE _
          refine ⟨q + 1, by omega, by go_num, ⟨?_, ?_, ?_⟩, Mv.ext_of gX (Mv.of_grown (C := fun k => w.heap.size ≤ k) HG.out fun r e => .inl (ownBlock_ge HN.out r e)) (fun k h => h)⟩
          · rw [HN1.out]; exact own_keep (HY.out.alloc _) HG.out (fun g h e => HD.out g h e)
          · rw [HN2.out, List.length_append, flC_snoc]; exact HOW.out
          · intro gg hg1 hg2
            have b1 := own_lt HY.out
            have b2 := own_lt HN.out
            rcases HAT.out with e | e
            · exact HD.out gg hg1 (e ▸ hg2)
            · have := b1 gg hg1; rw [hg2] at e; simp at e; omega
        case measure => simp [intOf]; omega
      by_cases h2 : 0 ≤ now
      rotate_left
      · have hso : idleB idle now x = false := by unfold idleB asksB; simp [h2]
        obtain ⟨n1, n2⟩ := yesN_no (idleB idle now) xs q x hlt hx hso
        have HN1 := Lib.hid n1
        have HN2 := Lib.hid n2
        clear n1 n2 hx hso
        go_wp2_with ((at_builtin; go_must (refine wpList_append_own_at _ rfl _ _ 22 rfl w.heap.size 43 i0 (.agg #[.int .u32 0, .int .u32 0, .int .u16 0, .int .u16 0, .int .i64 0, .int .i64 0]) 6 32 Try.underlying22 hi hz0 hz1 hz2 rfl (by decide) u9 _ _ rfl (HN.out.alloc _) ⟨wr.heap.size, 0, none⟩ 1 1 x.cl rfl rfl (cell_co_new _ _ _) (co_one x) (by unfold maxLen; omega) (by omega) (by simp; omega) ?_); intro v' w3 hown' hgrow _ hat; have HOW := Lib.hid hown'; have HG := Lib.hid hgrow; have HAT := Lib.hid hat; clear hown' hgrow hat))
        go_roundw
        case rel =>
          have gX : Ext w (wr.alloc (.cells #[.int .u32 x.t.a, .int .u32 x.t.b, .int .u16 x.t.c, .int .u16 x.t.d, .int .i64 x.s, .int .i64 x.l] 43)) := Ext.al hE _
          refine ⟨q + 1, by omega, by go_num, ⟨?_, ?_, ?_⟩, Mv.ext_of gX (Mv.of_grown (C := fun k => w.heap.size ≤ k) HG.out fun r e => .inl (ownBlock_ge HN.out r e)) (fun k h => h)⟩
          · rw [HN1.out]; exact own_keep (HY.out.alloc _) HG.out (fun g h e => HD.out g h e)
          · rw [HN2.out, List.length_append, flC_snoc]; exact HOW.out
          · intro gg hg1 hg2
            have b1 := own_lt HY.out
            have b2 := own_lt HN.out
            rcases HAT.out with e | e
            · exact HD.out gg hg1 (e ▸ hg2)
            · have := b1 gg hg1; rw [hg2] at e; simp at e; omega
        case measure => simp [intOf]; omega
      by_cases h3 : now ≤ 1099511627776
      rotate_left
      · have hso : idleB idle now x = false := by unfold idleB asksB; simp [h3]
        obtain ⟨n1, n2⟩ := yesN_no (idleB idle now) xs q x hlt hx hso
        have HN1 := Lib.hid n1
        have HN2 := Lib.hid n2
        clear n1 n2 hx hso
        go_wp2_with ((at_builtin; go_must (refine wpList_append_own_at _ rfl _ _ 22 rfl w.heap.size 43 i0 (.agg #[.int .u32 0, .int .u32 0, .int .u16 0, .int .u16 0, .int .i64 0, .int .i64 0]) 6 32 Try.underlying22 hi hz0 hz1 hz2 rfl (by decide) u9 _ _ rfl (HN.out.alloc _) ⟨wr.heap.size, 0, none⟩ 1 1 x.cl rfl rfl (cell_co_new _ _ _) (co_one x) (by unfold maxLen; omega) (by omega) (by simp; omega) ?_); intro v' w3 hown' hgrow _ hat; have HOW := Lib.hid hown'; have HG := Lib.hid hgrow; have HAT := Lib.hid hat; clear hown' hgrow hat))
        go_roundw
        case rel =>
          have gX : Ext w (wr.alloc (.cells #[.int .u32 x.t.a, .int .u32 x.t.b, .int .u16 x.t.c, .int .u16 x.t.d, .int .i64 x.s, .int .i64 x.l] 43)) := Ext.al hE _
          refine ⟨q + 1, by omega, by go_num, ⟨?_, ?_, ?_⟩, Mv.ext_of gX (Mv.of_grown (C := fun k => w.heap.size ≤ k) HG.out fun r e => .inl (ownBlock_ge HN.out r e)) (fun k h => h)⟩
          · rw [HN1.out]; exact own_keep (HY.out.alloc _) HG.out (fun g h e => HD.out g h e)
          · rw [HN2.out, List.length_append, flC_snoc]; exact HOW.out
          · intro gg hg1 hg2
            have b1 := own_lt HY.out
            have b2 := own_lt HN.out
            rcases HAT.out with e | e
            · exact HD.out gg hg1 (e ▸ hg2)
            · have := b1 gg hg1; rw [hg2] at e; simp at e; omega
        case measure => simp [intOf]; omega
      have hw8 : IntKind.i64.wrap (now - idle) = now - idle := by rw [IntKind.wrap_i64]; omega
      by_cases h4 : x.l ≤ now - idle
      · have hso : idleB idle now x = true := by unfold idleB asksB; simp [h1, h2, h3, h4]
        obtain ⟨n1, n2⟩ := yesN_yes (idleB idle now) xs q x hlt hx hso
        have HN1 := Lib.hid n1
        have HN2 := Lib.hid n2
        clear n1 n2 hx hso
        go_wp2_with ((at_builtin; go_must (refine wpList_append_own_at _ rfl _ _ 22 rfl w.heap.size 43 i0 (.agg #[.int .u32 0, .int .u32 0, .int .u16 0, .int .u16 0, .int .i64 0, .int .i64 0]) 6 32 Try.underlying22 hi hz0 hz1 hz2 rfl (by decide) u8 _ _ rfl (HY.out.alloc _) ⟨wr.heap.size, 0, none⟩ 1 1 x.cl rfl rfl (cell_co_new _ _ _) (co_one x) (by unfold maxLen; omega) (by omega) (by simp; omega) ?_); intro v' w3 hown' hgrow _ hat; have HOW := Lib.hid hown'; have HG := Lib.hid hgrow; have HAT := Lib.hid hat; clear hown' hgrow hat))
        go_roundw
        case rel =>
          have gX : Ext w (wr.alloc (.cells #[.int .u32 x.t.a, .int .u32 x.t.b, .int .u16 x.t.c, .int .u16 x.t.d, .int .i64 x.s, .int .i64 x.l] 43)) := Ext.al hE _
          refine ⟨q + 1, by omega, by go_num, ⟨?_, ?_, ?_⟩, Mv.ext_of gX (Mv.of_grown (C := fun k => w.heap.size ≤ k) HG.out fun r e => .inl (ownBlock_ge HY.out r e)) (fun k h => h)⟩
          · rw [HN1.out, List.length_append, flC_snoc]; exact HOW.out
          · rw [HN2.out]; exact own_keep (HN.out.alloc _) HG.out (fun g h e => HD.out g e h)
          · intro gg hg1 hg2
            have b1 := own_lt HY.out
            have b2 := own_lt HN.out
            rcases HAT.out with e | e
            · exact HD.out gg (e ▸ hg1) hg2
            · have := b2 gg hg2; rw [hg1] at e; simp at e; omega
        case measure => simp [intOf]; omega
      · have hso : idleB idle now x = false := by unfold idleB; simp [h4]
        obtain ⟨n1, n2⟩ := yesN_no (idleB idle now) xs q x hlt hx hso
        have HN1 := Lib.hid n1
        have HN2 := Lib.hid n2
        clear n1 n2 hx hso
        go_wp2_with ((at_builtin; go_must (refine wpList_append_own_at _ rfl _ _ 22 rfl w.heap.size 43 i0 (.agg #[.int .u32 0, .int .u32 0, .int .u16 0, .int .u16 0, .int .i64 0, .int .i64 0]) 6 32 Try.underlying22 hi hz0 hz1 hz2 rfl (by decide) u9 _ _ rfl (HN.out.alloc _) ⟨wr.heap.size, 0, none⟩ 1 1 x.cl rfl rfl (cell_co_new _ _ _) (co_one x) (by unfold maxLen; omega) (by omega) (by simp; omega) ?_); intro v' w3 hown' hgrow _ hat; have HOW := Lib.hid hown'; have HG := Lib.hid hgrow; have HAT := Lib.hid hat; clear hown' hgrow hat))
        go_roundw
        case rel =>
          have gX : Ext w (wr.alloc (.cells #[.int .u32 x.t.a, .int .u32 x.t.b, .int .u16 x.t.c, .int .u16 x.t.d, .int .i64 x.s, .int .i64 x.l] 43)) := Ext.al hE _
          refine ⟨q + 1, by omega, by go_num, ⟨?_, ?_, ?_⟩, Mv.ext_of gX (Mv.of_grown (C := fun k => w.heap.size ≤ k) HG.out fun r e => .inl (ownBlock_ge HN.out r e)) (fun k h => h)⟩
          · rw [HN1.out]; exact own_keep (HY.out.alloc _) HG.out (fun g h e => HD.out g h e)
          · rw [HN2.out, List.length_append, flC_snoc]; exact HOW.out
          · intro gg hg1 hg2
            have b1 := own_lt HY.out
            have b2 := own_lt HN.out
            rcases HAT.out with e | e
            · exact HD.out gg hg1 (e ▸ hg2)
            · have := b1 gg hg1; rw [hg2] at e; simp at e; omega
        case measure => simp [intOf]; omega
    · have hil : ¬ ((q : Int) < xs.length) := by omega
      have hE1 : yesN (idleB idle now) xs q = xs.filter (idleB idle now) := by unfold yesN; rw [List.take_of_length_le (by omega)]
      have hE2 : noN (idleB idle now) xs q = xs.filter fun x => !idleB idle now x := by unfold noN; rw [List.take_of_length_le (by omega)]
      rw [hE1] at hy
      rw [hE2] at hn
      have HT := Lib.hid (show TwoC w.heap.size wr u8 u9 (xs.filter (idleB idle now)) (xs.filter fun x => !idleB idle now x) from ⟨hy, hn, hd⟩)
      clear hy hn hd hE1 hE2
      go_wp2
      exact bodyPost_ret (v := .tuple #[u8, u9]) (by simp [results, Try.results22, go_sem]) rfl ⟨u8, u9, rfl, HT.out, hE⟩

end Go.Proofs.Ytookffaojlkfaaa

/- Connections' rows in drawn regions: put together, cut. -/
namespace Go.Proofs.Ytookffaojlkfaaa
open Go.RowKit

theorem appC_run {w : World} {base n : Nat} {v1 : Value} {l : List Value} {q : Option Addr} {ys : List Co} {c2 : Nat} (h1 : w.ownsRow base 43 6 v1 n l) (h2 : SlC w q ys) (hn : n + ys.length ≤ 2000) (hb : base ≤ w.heap.size)
    (ρ : Operand → Value) (dst : Option Tmp) (x y : Operand) (ty : TypeId) (pos : String) (after : Array Edge) (g : Option (Nat × Bool)) (hx : ρ x = v1) (hy : ρ y = .slice q ys.length c2) :
    ∃ v' w', (execOp ρ ⟨dst, .call { callee := .builtin .append, args := #[x, y], argTypes := #[22, 22] }, ty, pos, after, g⟩).run Try.prog w = .ok (.value v') w' ∧ w'.ownsRow base 43 6 v' (n + ys.length) (l ++ flC ys) ∧ w.grownBy w' v1.ownBlock := by
  obtain ⟨i0, hi, hz0, hz, hz2⟩ := info_parts info_C
  cases q with
  | none =>
    have h0 : ys = [] := h2.nil_of
    subst h0
    refine ⟨v1, w, ?_, by simpa [flC] using h1, ⟨rfl, rfl, rfl, Nat.le_refl _, fun _ _ _ => rfl⟩⟩
    rcases h1.2 with ⟨rfl, h0⟩ | ⟨gg, cap, cur, rfl, hg, hgb, h1, h2, h3, h4⟩
    · simp only [execOp, hx, hy]
      go_simp
    · simp only [execOp, hx, hy]
      go_simp
  | some a =>
    obtain ⟨v', w', hr, ho, hg, -, -⟩ := run_append_own_at (P := Try.prog) w base 22 ty 43 i0 (.agg #[.int .u32 0, .int .u32 0, .int .u16 0, .int .u16 0, .int .i64 0, .int .i64 0]) 6 32 Try.underlying22 hi hz0 hz hz2 rfl (by decide) v1 n l h1 a ys.length c2 (flC ys) (by rw [flC_len]) (h2.news (Ext.rf w)) (flC_one ys) (by unfold maxLen; omega) (by omega) hb
    refine ⟨v', w', ?_, ho, hg⟩
    simp [execOp, resolve, invoke, builtin, hx, hy, hr, Result.andThen]
theorem grown_mvC {w w' : World} {base n : Nat} {v : Value} {l : List Value} (h : w.ownsRow base 43 6 v n l) (hg : w.grownBy w' v.ownBlock) : Mv (fun k => base ≤ k) w w' := Mv.of_grown hg fun r e => .inl (ownBlock_ge h r e)
theorem appDC {ops : Array Oper} {Q : Act → World → Prop} {N k : Nat} {d : List Nat} {dst : Option Tmp} {x y : Operand} {ty : TypeId} {pos : String} {after : Array Edge} {fuel : Nat} {a : Act} {w : World} {base n : Nat} {v1 : Value} {l : List Value} {q : Option Addr} {ys : List Co} {c2 : Nat}
    (hi : ops[k]? = some ⟨dst, .call { callee := .builtin .append, args := #[x, y], argTypes := #[22, 22] }, ty, pos, after, none⟩) (hx : a.eval x = v1) (hy : a.eval y = .slice q ys.length c2) (h1 : w.ownsRow base 43 6 v1 n l) (h2 : SlC w q ys) (hn : n + ys.length ≤ 2000) (hb : base ≤ w.heap.size)
    (H : ∀ v' w', w.grownBy w' v1.ownBlock → Mv (fun k => base ≤ k) w w' → w'.ownsRow base 43 6 v' (n + ys.length) (l ++ flC ys) → wpAnyK (fun k => base ≤ k) Try.prog .any ops Q fuel (don N (k :: d)) (a.put dst v') w') : stepK (fun k => base ≤ k) Try.prog ops Q fuel N k d a w := by
  obtain ⟨v', w', hr, ho, hg⟩ := appC_run h1 h2 hn hb a.eval dst x y ty pos after none hx hy
  exact makeD hi rfl hr (grown_mvC h1 hg) (H v' w' hg (grown_mvC h1 hg) ho)
theorem lo_run {p : Option Addr} {n k c : Nat} (hk : k ≤ n) (hc : n ≤ c) (hp : p = none → c = 0 ∨ k = 0) (ρ : Operand → Value) (dst : Option Tmp) (x y : Operand) (ty : TypeId) (pos : String) (after : Array Edge) (g : Option (Nat × Bool)) (hx : ρ x = .slice p n c) (hy : ρ y = .int .i64 (k : Nat)) (w : World) :
    (execOp ρ ⟨dst, .slice 22 x none (some y) none, ty, pos, after, g⟩).run Try.prog w = .ok (.value (.slice p k c)) w := by
  have h1 : ¬ (k : Int) < 0 := by omega
  have h2 : (k : Int) ≤ c := by omega
  cases p with
  | none =>
    simp only [execOp, hx, hy]
    go_simp
  | some a =>
    obtain ⟨b, o, s⟩ := a
    simp only [execOp, hx, hy]
    go_simp
theorem SlC.take {w : World} {p : Option Addr} {xs : List Co} (h : SlC w p xs) (k : Nat) : SlC w p (xs.take k) := fun j hj => by
  rw [List.length_take] at hj
  obtain ⟨b, off, hp, hb, c0, c1, c2, c3, c4, c5⟩ := h j (by omega)
  have e : (xs.take k)[j]'(by rw [List.length_take]; exact hj) = xs[j]'(by omega) := by simp
  exact ⟨b, off, hp, hb, by rw [e]; exact c0, by rw [e]; exact c1, by rw [e]; exact c2, by rw [e]; exact c3, by rw [e]; exact c4, by rw [e]; exact c5⟩
theorem hi_run {p : Option Addr} {xs : List Co} {k c : Nat} {w0 : World} (hs : SlC w0 p xs) (hk : k ≤ xs.length) (hc : xs.length ≤ c) :
    ∃ q c2, SlC w0 q (xs.drop k) ∧ ∀ (ρ : Operand → Value) (dst : Option Tmp) (x y : Operand) (ty : TypeId) (pos : String) (after : Array Edge) (g : Option (Nat × Bool)), ρ x = .slice p xs.length c → ρ y = .int .i64 (k : Nat) → ∀ w, (execOp ρ ⟨dst, .slice 22 x (some y) none none, ty, pos, after, g⟩).run Try.prog w = .ok (.value (.slice q (xs.drop k).length c2)) w := by
  rw [List.length_drop]
  have h1 : ¬ (k : Int) < 0 := by omega
  have h2 : (k : Int) ≤ xs.length := by omega
  have h3 : (xs.length : Int) ≤ c := by omega
  cases p with
  | none =>
    have h0 : xs = [] := hs.nil_of
    subst h0
    obtain rfl : k = 0 := by simpa using hk
    refine ⟨none, c, by simpa using hs, fun ρ dst x y ty pos after g hx hy w => ?_⟩
    simp only [execOp, hx, hy]
    go_simp
  | some a =>
    by_cases h0 : xs = []
    · subst h0
      obtain rfl : k = 0 := by simpa using hk
      refine ⟨some a, c, SlC.nil _ _, fun ρ dst x y ty pos after g hx hy w => ?_⟩
      obtain ⟨b, o, s⟩ := a
      by_cases hc0 : c = 0
      · subst hc0
        simp only [execOp, hx, hy]
        go_simp
      · have hc1 : ¬ (c : Int) = 0 := by omega
        simp only [execOp, hx, hy]
        go_simp
    obtain ⟨b, o, hp0, -⟩ := hs 0 (List.length_pos_iff.2 h0)
    cases hp0
    by_cases hcc : c = k
    · subst hcc
      have hl : xs.length = c := by omega
      refine ⟨some ⟨b, o, none⟩, 0, ?_, fun ρ dst x y ty pos after g hx hy w => ?_⟩
      · rw [List.drop_of_length_le (by omega)]; exact SlC.nil _ _
      · simp only [execOp, hx, hy]
        go_simp
    · refine ⟨some ⟨b, o + k * 6, none⟩, c - k, ?_, fun ρ dst x y ty pos after g hx hy w => ?_⟩
      rotate_left
      · simp only [execOp, hx, hy]
        go_simp
      · intro j hj
        rw [List.length_drop] at hj
        obtain ⟨b', off, hp, hb, c0, c1, c2, c3, c4, c5⟩ := hs (k + j) (by omega)
        cases hp
        have e : (xs.drop k)[j]'(by rw [List.length_drop]; exact hj) = xs[k + j]'(by omega) := by simp
        have e2 : o + k * 6 + j * 6 = o + (k + j) * 6 := by omega
        exact ⟨b, o + k * 6, rfl, hb, by rw [e, e2]; exact c0, by rw [e, e2]; exact c1, by rw [e, e2]; exact c2, by rw [e, e2]; exact c3, by rw [e, e2]; exact c4, by rw [e, e2]; exact c5⟩

end Go.Proofs.Ytookffaojlkfaaa

/- The document's Close. -/
namespace Go.Proofs.Ytookffaojlkfaaa
open Go.RowKit

def SchCl (ops : Array Oper) : Prop := Region.noSelect ops = true ∧ takesB ops 11 [0, 1, 2, 4, 5, 6, 7] [] = true ∧ Region.ready .any ops (don 11 [7, 6, 5, 4, 2, 1, 0]) = [3] ∧ Region.ready .any ops (don 11 [3, 7, 6, 5, 4, 2, 1, 0]) = [8] ∧ takesB ops 11 [9, 10] [8, 3, 7, 6, 5, 4, 2, 1, 0] = true ∧ Region.ready .any ops (don 11 [10, 9, 8, 3, 7, 6, 5, 4, 2, 1, 0]) = []
theorem schCl : SchCl ((Try.f20.body.bind (findR 4)).getD #[]) := ⟨by kernel_rfl, by kernel_rfl, by kernel_rfl, by kernel_rfl, by kernel_rfl, by kernel_rfl⟩
theorem add1_run {k : Nat} (hk : k ≤ 2000) (ρ : Operand → Value) (dst : Option Tmp) (x : Operand) (ty : TypeId) (pos : String) (after : Array Edge) (g : Option (Nat × Bool)) (hx : ρ x = .int .i64 (k : Nat)) (h1 : ρ (.const (.int .i64 1)) = .int .i64 1) (w : World) :
    (execOp ρ ⟨dst, .binOp .add 3 x (.const (.int .i64 1)) 3, ty, pos, after, g⟩).run Try.prog w = .ok (.value (.int .i64 ((k + 1 : Nat) : Int))) w := by
  have hw : IntKind.i64.wrap ((k : Int) + 1) = (k : Int) + 1 := by rw [IntKind.wrap_i64]; omega
  simp only [execOp, hx, h1]
  go_simp
theorem own_take (p : Option Addr) (xs : List Co) (k c : Nat) (w : World) (hs : SlC w p xs) (hk : k ≤ xs.length) (hl : xs.length ≤ 1000) :
    Calls Try.prog 54 #[.slice p k c] w fun e w' => ∃ v, e = .returned v ∧ w'.ownsRow w.heap.size 43 6 v k (flC (xs.take k)) ∧ Ext w w' := by
  have e : (xs.take k).length = k := by rw [List.length_take]; omega
  have h := own_C p (xs.take k) c w (hs.take k) (by omega)
  rw [e] at h
  exact h
set_option maxRecDepth 100000 in
set_option maxHeartbeats 8000000 in
theorem rclose_any (t : Tu) (p : Option Addr) (xs : List Co) (c : Nat) (w : World) (hs : SlC w p xs) (hl : xs.length ≤ 1000) (hc : xs.length ≤ c) (hr : ∀ x ∈ xs, TuR x.t) (hrt : TuR t) :
    Calls Try.prog 20 #[.slice p xs.length c, tu t.a t.b t.c t.d] w fun e w' => ∃ v, e = .returned (.tuple #[v, .bool (withOk xs t)]) ∧ w'.ownsRow w.heap.size 43 6 v (withX (fun xs k => xs.eraseIdx k) xs t).length (flC (withX (fun xs k => xs.eraseIdx k) xs t)) ∧ Ext w w' := by
  have HRR := Lib.hid hr
  have HRT := Lib.hid hrt
  clear hr hrt
  go_enter Try.func20, Try.ntmps20
  go_upto_region 1 with (fail)
  obtain ⟨W0, hW⟩ : ∃ W0, w.alloc (.cells #[.int .u32 t.a, .int .u32 t.b, .int .u16 t.c, .int .u16 t.d] 26) = W0 := ⟨_, rfl⟩
  have g0 : Ext w W0 := by rw [← hW]; exact Ext.al (Ext.rf _) _
  have ht : TuAt W0 w.heap.size t := by rw [← hW]; unfold TuAt; simp [go_sem, Lt]
  have s0 := hs.ext g0
  have hsz : w.heap.size ≤ W0.heap.size := g0.size
  have HS0 := Lib.hid hs
  rw [hW]
  clear hW hs
  obtain ⟨d0, d1, d2, d3⟩ := ht.cells
  have lB : Lt w.heap.size W0 := ht.2
  go_upto_region 2 with (go_at_call 25; go_must (with_reducible refine (rfind_any t p xs c _ s0 hl HRR.out HRT.out).mono ?_); rintro e W2 ⟨rfl, g2⟩)
  have s2 := s0.ext g2
  have e2 := g0.tr g2
  have hb2 := e2.size
  clear d0 d1 d2 d3 lB ht s0 g0 g2 hsz
  have hX : withX (fun xs k => xs.eraseIdx k) xs t = if withOk xs t = true then xs.eraseIdx (atC xs t) else xs := rfl
  have hO : withOk xs t = (okC xs t && rightC xs) := rfl
  cases hrr : rightC xs
  · rw [hrr, Bool.and_false] at hO
    rw [hO, if_neg (by simp)] at hX
    have HO := Lib.hid hO
    have HX := Lib.hid hX
    clear hO hX
    go_wp2_with (first | (go_at_call 27; (with_reducible refine (rright_any p xs c _ s2 hl HRR.out).mono ?_); rw [hrr]; rintro e W3 ⟨rfl, g3⟩) | (go_at_call 54; (with_reducible refine (own_C p xs c _ (s2.ext g3) hl).mono ?_); rintro e W4 ⟨v, rfl, ho, g4⟩; have HW := Lib.hid ho; clear ho))
    exact bodyPost_ret (v := .tuple #[v, .bool false]) (by simp [results, Try.results20, go_sem]) rfl ⟨v, by rw [HO.out], by rw [HX.out]; exact ownsRow_le HW.out (Nat.le_trans hb2 g3.size), (e2.tr g3).tr g4⟩
  · rw [hrr, Bool.and_true] at hO
    cases hok : okC xs t
    · rw [hok] at hO
      rw [hO, if_neg (by simp)] at hX
      have HO := Lib.hid hO
      have HX := Lib.hid hX
      clear hO hX
      go_wp2_with (first | (go_at_call 27; (with_reducible refine (rright_any p xs c _ s2 hl HRR.out).mono ?_); rw [hrr]; rintro e W3 ⟨rfl, g3⟩) | (go_at_call 54; (with_reducible refine (own_C p xs c _ (s2.ext g3) hl).mono ?_); rintro e W4 ⟨v, rfl, ho, g4⟩; have HW := Lib.hid ho; clear ho))
      exact bodyPost_ret (v := .tuple #[v, .bool false]) (by simp [results, Try.results20, go_sem]) rfl ⟨v, by rw [HO.out], by rw [HX.out]; exact ownsRow_le HW.out (Nat.le_trans hb2 g3.size), (e2.tr g3).tr g4⟩
    · rw [hok] at hO
      rw [hO, if_pos rfl] at hX
      have hat := okC_lt hok
      have HO := Lib.hid hO
      have HX := Lib.hid hX
      clear hO hX
      obtain ⟨k, hk⟩ : ∃ k, atC xs t = k := ⟨_, rfl⟩
      rw [hk] at HX hat ⊢
      clear hk
      go_upto_region 4 with (go_at_call 27; (with_reducible refine (rright_any p xs c _ s2 hl HRR.out).mono ?_); rw [hrr]; rintro e W3 ⟨rfl, g3⟩)
      refine wp_region_K (fun k => w.heap.size ≤ k) (by kernel_rfl) ?_
      obtain ⟨W5, hW5⟩ : ∃ W5, W3.drew = W5 := ⟨_, rfl⟩
      have g5 : Ext W3 W5 := by rw [← hW5]; exact Ext.dr (Ext.rf _)
      rw [hW5]
      clear hW5
      have s5 := (s2.ext g3).ext g5
      have hb5 : w.heap.size ≤ W5.heap.size := (e2.tr (g3.tr g5)).size
      refine withK (N := 11) (R := SchCl) (E := ((Try.f20.body.bind (findR 4)).getD #[])) (by kernel_rfl) schCl (by kernel_rfl) fun hS => ?_
      have hT := hS.2.1
      refine takeD (N := 11) (k := 0) (v := .slice p xs.length c) hS.1 hT rfl (by kernel_rfl) (fun _ _ => by kernel_rfl) fun hT => ?_
      refine takeD (N := 11) (k := 1) (v := .int .i64 (k : Nat)) hS.1 hT rfl (by kernel_rfl) (fun _ _ => by kernel_rfl) fun hT => ?_
      refine takeD (N := 11) (k := 2) (v := .slice p k c) hS.1 hT rfl (by kernel_rfl) (fun w' _ => lo_run (by omega) hc (fun e => by subst e; have := s5.nil_of; subst this; exact (by simp at hat)) _ _ _ _ _ _ _ _ (by kernel_rfl) (by kernel_rfl) w') fun hT => ?_
      refine takeD (N := 11) (k := 4) (v := .slice p xs.length c) hS.1 hT rfl (by kernel_rfl) (fun _ _ => by kernel_rfl) fun hT => ?_
      refine takeD (N := 11) (k := 5) (v := .int .i64 (k : Nat)) hS.1 hT rfl (by kernel_rfl) (fun _ _ => by kernel_rfl) fun hT => ?_
      refine takeD (N := 11) (k := 6) (v := .int .i64 ((k + 1 : Nat) : Int)) hS.1 hT rfl (by kernel_rfl) (fun w' _ => add1_run (by omega) _ _ _ _ _ _ _ (by kernel_rfl) rfl w') fun hT => ?_
      obtain ⟨q, c2, sq, hq⟩ := hi_run s5 (k := k + 1) (by omega) hc
      refine takeD (N := 11) (k := 7) (v := .slice q (xs.drop (k + 1)).length c2) hS.1 hT rfl (by kernel_rfl) (fun w' _ => hq _ _ _ _ _ _ _ _ (by kernel_rfl) (by kernel_rfl) w') fun hT => ?_
      refine soleD hS.2.2.1 (callD (R := fun v w' => w'.ownsRow W5.heap.size 43 6 v k (flC (xs.take k))) rfl rfl (by kernel_rfl) ((own_take p xs k c W5 s5 (by omega) hl).mono fun e w' ⟨v, h1, h2, h3⟩ => ⟨v, h1, h2, h3⟩) fun v1 W6 g6 o6 => ?_)
      refine soleD hS.2.2.2.1 (appDC (v1 := v1) (q := q) (ys := xs.drop (k + 1)) (c2 := c2) rfl (by kernel_rfl) (by kernel_rfl) (ownsRow_le o6 hb5) (sq.ext g6) (by rw [List.length_drop]; omega) (Nat.le_trans hb5 g6.size) fun v7 W7 gr m7 o7 => ?_)
      have hT := hS.2.2.2.2.1
      refine takeD (N := 11) (k := 9) (v := v7) hS.1 hT rfl (by kernel_rfl) (fun _ _ => by kernel_rfl) fun hT => ?_
      refine takeD (N := 11) (k := 10) (v := .bool true) hS.1 hT rfl (by kernel_rfl) (fun _ _ => by kernel_rfl) fun hT => ?_
      refine doneK hS.2.2.2.2.2 ?_
      have E7 : Ext w W7 := Mv.ext_of ((e2.tr (g3.tr g5)).tr g6) m7 (fun k h => h)
      have HF := Lib.hid (show k + (xs.drop (k + 1)).length = (xs.eraseIdx k).length ∧ flC (xs.take k) ++ flC (xs.drop (k + 1)) = flC (xs.eraseIdx k) by
        refine ⟨by rw [List.length_drop, List.length_eraseIdx_of_lt hat]; omega, ?_⟩
        rw [List.eraseIdx_eq_take_drop_succ]; unfold flC; rw [List.flatMap_append])
      have HO7 := Lib.hid o7
      clear hS hT o7 m7 gr
      go_simp
      go_wp2
      exact bodyPost_ret (v := .tuple #[v7, .bool true]) (by simp [results, Try.results20, go_sem]) rfl ⟨v7, by rw [HO.out], by rw [HX.out, ← HF.out.1, ← HF.out.2]; exact HO7.out, E7⟩

end Go.Proofs.Ytookffaojlkfaaa

/- The document's Add. -/
namespace Go.Proofs.Ytookffaojlkfaaa
open Go.RowKit

def SchAd (ops : Array Oper) : Prop := Region.noSelect ops = true ∧ takesB ops 16 [0, 1, 2, 4, 5, 6, 7, 10, 11, 12] [] = true ∧ Region.ready .any ops (don 16 [12, 11, 10, 7, 6, 5, 4, 2, 1, 0]) = [3, 8] ∧ Region.ready .any ops (don 16 [3, 12, 11, 10, 7, 6, 5, 4, 2, 1, 0]) = [8] ∧ Region.ready .any ops (don 16 [8, 12, 11, 10, 7, 6, 5, 4, 2, 1, 0]) = [3] ∧ don 16 [3, 8, 12, 11, 10, 7, 6, 5, 4, 2, 1, 0] = don 16 [8, 3, 12, 11, 10, 7, 6, 5, 4, 2, 1, 0] ∧ Region.ready .any ops (don 16 [8, 3, 12, 11, 10, 7, 6, 5, 4, 2, 1, 0]) = [9] ∧ Region.ready .any ops (don 16 [9, 8, 3, 12, 11, 10, 7, 6, 5, 4, 2, 1, 0]) = [13] ∧ takesB ops 16 [14, 15] [13, 9, 8, 3, 12, 11, 10, 7, 6, 5, 4, 2, 1, 0] = true ∧ Region.ready .any ops (don 16 [15, 14, 13, 9, 8, 3, 12, 11, 10, 7, 6, 5, 4, 2, 1, 0]) = []
theorem schAd : SchAd ((Try.f16.body.bind (findR 8)).getD #[]) := ⟨by kernel_rfl, by kernel_rfl, by kernel_rfl, by kernel_rfl, by kernel_rfl, by kernel_rfl, by kernel_rfl, by kernel_rfl, by kernel_rfl, by kernel_rfl⟩
theorem SlC.one {w : World} {b : Nat} {x : Co} (h : w.heap[b]? = some (.cells #[.int .u32 x.t.a, .int .u32 x.t.b, .int .u16 x.t.c, .int .u16 x.t.d, .int .i64 x.s, .int .i64 x.l] 43)) : SlC w (some ⟨b, 0, none⟩) [x] := fun k hk => by
  obtain rfl : k = 0 := by simpa using hk
  have hb := (Array.getElem?_eq_some_iff.1 h).1
  have e : rowD w b = #[.int .u32 x.t.a, .int .u32 x.t.b, .int .u16 x.t.c, .int .u16 x.t.d, .int .i64 x.s, .int .i64 x.l] := by unfold rowD; rw [h]
  refine ⟨b, 0, rfl, hb, ?_, ?_, ?_, ?_, ?_, ?_⟩ <;> rw [cell_rowD, e] <;> rfl
/-- A call, and a row that is made: in either order. -/
theorem forkM {P : Program} {ops : Array Oper} {C : Nat → Prop} {R : Value → World → Prop} {Q : Act → World → Prop} {N i j : Nat} {d : List Nat} {oi oj : Oper} {f : FuncId} {xa : Array Value} {fuel : Nat} {a : Act} {w : World} {V : Nat → Value} {o : Obj}
    (r0 : Region.ready .any ops (don N d) = [i, j]) (r1 : Region.ready .any ops (don N (i :: d)) = [j]) (r2 : Region.ready .any ops (don N (j :: d)) = [i]) (hdd : don N (i :: j :: d) = don N (j :: i :: d)) (hi : ops[i]? = some oi) (hj : ops[j]? = some oj) (wi : ∀ T, Region.wanted oi T = true) (wj : ∀ T, Region.wanted oj T = true)
    (ei : ∀ w', (execOp a.eval oi).run P w' = .ok (.enter f xa) w') (ei' : ∀ v w', (execOp (a.put oj.dst v).eval oi).run P w' = .ok (.enter f xa) w')
    (ej : ∀ w' : World, (execOp a.eval oj).run P w' = .ok (.value (V w'.heap.size)) (w'.alloc o)) (ej' : ∀ v (w' : World), (execOp (a.put oi.dst v).eval oj).run P w' = .ok (.value (V w'.heap.size)) (w'.alloc o))
    (ci : ∀ w', Ext w w' → Calls P f xa w' fun e w'' => ∃ v, e = .returned v ∧ R v w'' ∧ Ext w' w'') (s1 : ∀ v w1 w2, R v w1 → Ext w1 w2 → R v w2)
    (hpc : ∀ v1 v2, (a.put oi.dst v1).put oj.dst v2 = (a.put oj.dst v2).put oi.dst v1)
    (H : ∀ v1 b w', Ext w w' → R v1 w' → w'.heap[b]? = some o → wpAnyK C P .any ops Q fuel (don N (j :: i :: d)) ((a.put oi.dst v1).put oj.dst (V b)) w') : wpAnyK C P .any ops Q (fuel + 2) (don N d) a w := by
  refine forkD r0 ?_ ?_
  · refine callD (R := R) hi (wi _) (ei w) (ci w (Ext.rf _)) fun v1 w1 h3 h2 => ?_
    have hE := Ext.al (Ext.rf w1) o
    refine soleD r1 (makeD hj (wj _) (ej' v1 w1) (Mv.of_ext hE) ?_)
    exact H v1 w1.heap.size _ (h3.tr hE) (s1 _ _ _ h2 hE) (World.alloc_heap_new _ _)
  · have hE := Ext.al (Ext.rf w) o
    refine makeD hj (wj _) (ej w) (Mv.of_ext hE) ?_
    refine soleD r2 (callD (R := R) hi (wi _) (ei' _ _) (ci _ hE) fun v1 w2 g3 g2 => ?_)
    rw [hdd, ← hpc]
    exact H v1 w.heap.size w2 (hE.tr g3) g2 ((g3.block _ (by simp)).trans (World.alloc_heap_new _ _))
theorem bldC_run {t : Tu} {now : Int} (ρ : Operand → Value) (dst : Option Tmp) (x : Operand) (ty : TypeId) (pos : String) (after : Array Edge) (g : Option (Nat × Bool)) (hx : ρ x = .agg #[.int .u32 t.a, .int .u32 t.b, .int .u16 t.c, .int .u16 t.d, .int .i64 now, .int .i64 now]) (w : World) :
    (execOp ρ ⟨dst, .buildSlice 22 1 #[(0, x)], ty, pos, after, g⟩).run Try.prog w = .ok (.value (.slice (some ⟨w.heap.size, 0, none⟩) 1 1)) (w.alloc (.cells #[.int .u32 t.a, .int .u32 t.b, .int .u16 t.c, .int .u16 t.d, .int .i64 now, .int .i64 now] 43)) := by
  simp only [execOp]
  go_simp
set_option maxRecDepth 100000 in
set_option maxHeartbeats 8000000 in
theorem radd_any (t : Tu) (now : Int) (p : Option Addr) (xs : List Co) (c : Nat) (w : World) (hs : SlC w p xs) (hl : xs.length ≤ 1000) (hc : xs.length ≤ c) (hr : ∀ x ∈ xs, TuR x.t) (hrt : TuR t) :
    Calls Try.prog 16 #[.slice p xs.length c, tu t.a t.b t.c t.d, .int .i64 now] w fun e w' => ∃ v, e = .returned (.tuple #[v, .int .i64 (addE xs t now)]) ∧ w'.ownsRow w.heap.size 43 6 v (addX xs t now).length (flC (addX xs t now)) ∧ Ext w w' := by
  have HRR := Lib.hid hr
  have HRT := Lib.hid hrt
  clear hr hrt
  go_enter Try.func16, Try.ntmps16
  go_upto_region 1 with (fail)
  obtain ⟨W0, hW⟩ : ∃ W0, w.alloc (.cells #[.int .u32 t.a, .int .u32 t.b, .int .u16 t.c, .int .u16 t.d] 26) = W0 := ⟨_, rfl⟩
  have g0 : Ext w W0 := by rw [← hW]; exact Ext.al (Ext.rf _) _
  have ht : TuAt W0 w.heap.size t := by rw [← hW]; unfold TuAt; simp [go_sem, Lt]
  have s0 := hs.ext g0
  have hsz : w.heap.size ≤ W0.heap.size := g0.size
  have HS0 := Lib.hid hs
  rw [hW]
  clear hW hs
  obtain ⟨d0, d1, d2, d3⟩ := ht.cells
  have lB : Lt w.heap.size W0 := ht.2
  go_upto_region 2 with (go_at_call 25; go_must (with_reducible refine (rfind_any t p xs c _ s0 hl HRR.out HRT.out).mono ?_); rintro e W2 ⟨rfl, g2⟩)
  have s2 := s0.ext g2
  have e2 := g0.tr g2
  have ht2 := ht.ext g2
  have hb2 := e2.size
  clear d0 d1 d2 d3 lB ht s0 g0 g2 hsz
  have hE : addE xs t now = if addB xs now = true then 2 else if okC xs t = true then 201 else if (xs.length : Int) < 32 then 0 else 150 := rfl
  have hB : addB xs now = (!rightC xs || decide (now < 0) || decide (1099511627776 < now)) := rfl
  have hX : addX xs t now = if addE xs t now = 0 then insAt xs (atC xs t) (newC t now) else xs := rfl
  have dn0 : ∀ (k : Int) v W3 W4, k ≠ 0 → Ext W2 W3 → W4.ownsRow W3.heap.size 43 6 v xs.length (flC xs) → Ext W3 W4 → addE xs t now = k → ∃ v', (Ending.returned (.tuple #[v, .int .i64 k])) = .returned (.tuple #[v', .int .i64 (addE xs t now)]) ∧ W4.ownsRow w.heap.size 43 6 v' (addX xs t now).length (flC (addX xs t now)) ∧ Ext w W4 := by
    intro k v W3 W4 hk g3 ho g4 h
    rw [h, if_neg hk] at hX
    exact ⟨v, by rw [h], by rw [hX]; exact ownsRow_le ho (Nat.le_trans hb2 g3.size), (e2.tr g3).tr g4⟩
  have DN := Lib.hid dn0
  clear dn0
  cases hr : rightC xs
  · have HE := Lib.hid (show addE xs t now = 2 by rw [hE, hB, hr]; rfl)
    clear hE hB hX
    go_wp2_with (first | (go_at_call 27; (with_reducible refine (rright_any p xs c _ s2 hl HRR.out).mono ?_); rw [hr]; rintro e W3 ⟨rfl, g3⟩; have s9 := Lib.hid (s2.ext g3)) | (go_at_call 54; (with_reducible refine (own_C p xs c _ s9.out hl).mono ?_); rintro e W4 ⟨v, rfl, ho, g4⟩; have HW := Lib.hid ho; clear ho))
    exact bodyPost_ret (v := .tuple #[v, .int .i64 2]) (by simp [results, Try.results16, go_sem]) rfl (DN.out 2 v W3 W4 (by omega) g3 HW.out g4 HE.out)
  by_cases h1 : now < 0
  · have HE := Lib.hid (show addE xs t now = 2 by rw [hE, hB, hr, decide_eq_true h1]; rfl)
    clear hE hB hX
    go_wp2_with (first | (go_at_call 27; (with_reducible refine (rright_any p xs c _ s2 hl HRR.out).mono ?_); rw [hr]; rintro e W3 ⟨rfl, g3⟩; have s9 := Lib.hid (s2.ext g3)) | (go_at_call 54; (with_reducible refine (own_C p xs c _ s9.out hl).mono ?_); rintro e W4 ⟨v, rfl, ho, g4⟩; have HW := Lib.hid ho; clear ho))
    exact bodyPost_ret (v := .tuple #[v, .int .i64 2]) (by simp [results, Try.results16, go_sem]) rfl (DN.out 2 v W3 W4 (by omega) g3 HW.out g4 HE.out)
  by_cases h2 : 1099511627776 < now
  · have HE := Lib.hid (show addE xs t now = 2 by rw [hE, hB, hr, decide_eq_true h2]; simp)
    clear hE hB hX
    go_wp2_with (first | (go_at_call 27; (with_reducible refine (rright_any p xs c _ s2 hl HRR.out).mono ?_); rw [hr]; rintro e W3 ⟨rfl, g3⟩; have s9 := Lib.hid (s2.ext g3)) | (go_at_call 54; (with_reducible refine (own_C p xs c _ s9.out hl).mono ?_); rintro e W4 ⟨v, rfl, ho, g4⟩; have HW := Lib.hid ho; clear ho))
    exact bodyPost_ret (v := .tuple #[v, .int .i64 2]) (by simp [results, Try.results16, go_sem]) rfl (DN.out 2 v W3 W4 (by omega) g3 HW.out g4 HE.out)
  rw [hr, decide_eq_false h1, decide_eq_false h2] at hB
  rw [hB] at hE
  simp only [Bool.not_true, Bool.or_false, Bool.false_eq_true, if_false] at hE
  cases hok : okC xs t
  rotate_left
  · have HE := Lib.hid (show addE xs t now = 201 by rw [hE, hok]; rfl)
    clear hE hB hX
    go_wp2_with (first | (go_at_call 27; (with_reducible refine (rright_any p xs c _ s2 hl HRR.out).mono ?_); rw [hr]; rintro e W3 ⟨rfl, g3⟩; have s9 := Lib.hid (s2.ext g3)) | (go_at_call 54; (with_reducible refine (own_C p xs c _ s9.out hl).mono ?_); rintro e W4 ⟨v, rfl, ho, g4⟩; have HW := Lib.hid ho; clear ho))
    exact bodyPost_ret (v := .tuple #[v, .int .i64 201]) (by simp [results, Try.results16, go_sem]) rfl (DN.out 201 v W3 W4 (by omega) g3 HW.out g4 HE.out)
  rw [hok] at hE
  simp only [Bool.false_eq_true, if_false] at hE
  by_cases h3 : (xs.length : Int) < 32
  rotate_left
  · have HE := Lib.hid (show addE xs t now = 150 by rw [hE, if_neg h3])
    have hd3 : decide ((xs.length : Int) < 32) = false := decide_eq_false h3
    clear h3
    clear hE hB hX
    go_wp2_with (first | (go_at_call 27; (with_reducible refine (rright_any p xs c _ s2 hl HRR.out).mono ?_); rw [hr]; rintro e W3 ⟨rfl, g3⟩; have s9 := Lib.hid (s2.ext g3)) | (go_at_call 54; (with_reducible refine (own_C p xs c _ s9.out hl).mono ?_); rintro e W4 ⟨v, rfl, ho, g4⟩; have HW := Lib.hid ho; clear ho) | (go_at_call 29; (with_reducible refine (rroom_any p xs.length c _).mono ?_); rintro e W7 ⟨rfl, rfl⟩))
    exact bodyPost_ret (v := .tuple #[v, .int .i64 150]) (by simp [results, Try.results16, go_sem]) rfl (DN.out 150 v W3 W4 (by omega) g3 HW.out g4 HE.out)
  have hd3 : decide ((xs.length : Int) < 32) = true := decide_eq_true h3
  rw [if_pos h3] at hE
  clear h3
  rw [hE, if_pos rfl] at hX
  have HE := Lib.hid hE
  have HX := Lib.hid hX
  have hat := at_le xs t
  clear hE hB hX DN
  obtain ⟨k, hk⟩ : ∃ k, atC xs t = k := ⟨_, rfl⟩
  rw [hk] at HX hat ⊢
  clear hk
  go_upto_region 8 with (first | (go_at_call 27; (with_reducible refine (rright_any p xs c _ s2 hl HRR.out).mono ?_); rw [hr]; rintro e W3 ⟨rfl, g3⟩) | (go_at_call 29; (with_reducible refine (rroom_any p xs.length c _).mono ?_); rintro e W7 ⟨rfl, rfl⟩))
  refine wp_region_K (fun k => w.heap.size + 1 ≤ k) (by kernel_rfl) ?_
  obtain ⟨W5, hW5⟩ : ∃ W5, W3.drew = W5 := ⟨_, rfl⟩
  have g5 : Ext W3 W5 := by rw [← hW5]; exact Ext.dr (Ext.rf _)
  rw [hW5]
  clear hW5
  have s5 := (s2.ext g3).ext g5
  have t5 := (ht2.ext g3).ext g5
  have e5 := e2.tr (g3.tr g5)
  have hb5 : w.heap.size + 1 ≤ W5.heap.size := t5.2
  refine withK (N := 16) (R := SchAd) (E := ((Try.f16.body.bind (findR 8)).getD #[])) (by kernel_rfl) schAd (by kernel_rfl) fun hS => ?_
  have hT := hS.2.1
  obtain ⟨q, c2, sq0, hq⟩ := hi_run HS0.out (k := k) hat hc
  refine takeD (N := 16) (k := 0) (v := .slice p xs.length c) hS.1 hT rfl (by kernel_rfl) (fun _ _ => by kernel_rfl) fun hT => ?_
  refine takeD (N := 16) (k := 1) (v := .int .i64 (k : Nat)) hS.1 hT rfl (by kernel_rfl) (fun _ _ => by kernel_rfl) fun hT => ?_
  refine takeD (N := 16) (k := 2) (v := .slice p k c) hS.1 hT rfl (by kernel_rfl) (fun w' _ => lo_run hat hc (fun e => by subst e; have := s5.nil_of; subst this; exact .inr (by simpa using hat)) _ _ _ _ _ _ _ _ (by kernel_rfl) (by kernel_rfl) w') fun hT => ?_
  refine takeD (N := 16) (k := 4) (v := (tu t.a t.b t.c t.d)) hS.1 hT rfl (by kernel_rfl) (ldT_run t5 (by omega) _ _ _ _ _ _ _ (by kernel_rfl)) fun hT => ?_
  refine takeD (N := 16) (k := 5) (v := .int .i64 now) hS.1 hT rfl (by kernel_rfl) (fun _ _ => by kernel_rfl) fun hT => ?_
  refine takeD (N := 16) (k := 6) (v := .int .i64 now) hS.1 hT rfl (by kernel_rfl) (fun _ _ => by kernel_rfl) fun hT => ?_
  refine takeD (N := 16) (k := 7) (v := .agg #[.int .u32 t.a, .int .u32 t.b, .int .u16 t.c, .int .u16 t.d, .int .i64 now, .int .i64 now]) hS.1 hT rfl (by kernel_rfl) (fun _ _ => by kernel_rfl) fun hT => ?_
  refine takeD (N := 16) (k := 10) (v := .slice p xs.length c) hS.1 hT rfl (by kernel_rfl) (fun _ _ => by kernel_rfl) fun hT => ?_
  refine takeD (N := 16) (k := 11) (v := .int .i64 (k : Nat)) hS.1 hT rfl (by kernel_rfl) (fun _ _ => by kernel_rfl) fun hT => ?_
  refine takeD (N := 16) (k := 12) (v := .slice q (xs.drop k).length c2) hS.1 hT rfl (by kernel_rfl) (fun w' _ => hq _ _ _ _ _ _ _ _ (by kernel_rfl) (by kernel_rfl) w') fun hT => ?_
  refine forkM (R := fun v w' => w'.ownsRow (w.heap.size + 1) 43 6 v k (flC (xs.take k))) (V := fun b => .slice (some ⟨b, 0, none⟩) 1 1) (o := .cells #[.int .u32 t.a, .int .u32 t.b, .int .u16 t.c, .int .u16 t.d, .int .i64 now, .int .i64 now] 43) hS.2.2.1 hS.2.2.2.1 hS.2.2.2.2.1 hS.2.2.2.2.2.1 rfl rfl (fun _ => rfl) (fun _ => rfl) (fun _ => by kernel_rfl) (fun _ _ => by kernel_rfl)
    (fun w' => bldC_run (t := t) (now := now) _ _ _ _ _ _ _ (by kernel_rfl) w') (fun _ w' => bldC_run (t := t) (now := now) _ _ _ _ _ _ _ (by kernel_rfl) w')
    (fun w' e => (own_take p xs k c w' (s5.ext e) hat hl).mono fun e2 w'' ⟨v, h1, h2, h3⟩ => ⟨v, h1, ownsRow_le h2 (Nat.le_trans hb5 e.size), h3⟩) (fun v w1 w2 h e => own_ext h e) (fun _ _ => by kernel_rfl) ?_
  intro v1 bx W6 g6 o6 hbx
  have sx : SlC W6 (some ⟨bx, 0, none⟩) [newC t now] := SlC.one hbx
  have hb6 := Nat.le_trans hb5 g6.size
  refine soleD hS.2.2.2.2.2.2.1 (appDC (v1 := v1) (q := some ⟨bx, 0, none⟩) (ys := [newC t now]) (c2 := 1) rfl (by kernel_rfl) (by kernel_rfl) o6 sx (by simp; omega) hb6 fun v7 W7 gr7 m7 o7 => ?_)
  have sq7 : SlC W7 q (xs.drop k) := sq0.ext (Mv.ext_of (e5.tr g6) m7 (fun k h => by omega))
  refine soleD hS.2.2.2.2.2.2.2.1 (appDC (v1 := v7) (q := q) (ys := xs.drop k) (c2 := c2) rfl (by kernel_rfl) (by kernel_rfl) o7 sq7 (by simp; omega) (Nat.le_trans hb6 m7.size) fun v8 W8 gr8 m8 o8 => ?_)
  have hT := hS.2.2.2.2.2.2.2.2.1
  refine takeD (N := 16) (k := 14) (v := v8) hS.1 hT rfl (by kernel_rfl) (fun _ _ => by kernel_rfl) fun hT => ?_
  refine takeD (N := 16) (k := 15) (v := .int .i64 0) hS.1 hT rfl (by kernel_rfl) (fun _ _ => by kernel_rfl) fun hT => ?_
  refine doneK hS.2.2.2.2.2.2.2.2.2 ?_
  have E8 : Ext w W8 := Mv.ext_of (e5.tr g6) (m7.trans m8) (fun k h => by omega)
  have HF := Lib.hid (show k + [newC t now].length + (xs.drop k).length = (insAt xs k (newC t now)).length ∧ flC (xs.take k) ++ flC [newC t now] ++ flC (xs.drop k) = flC (insAt xs k (newC t now)) by
    refine ⟨by rw [insAt_len, List.length_drop]; simp; omega, ?_⟩
    unfold insAt flC; simp)
  have HO8 := Lib.hid (ownsRow_le o8 (Nat.le_succ w.heap.size))
  clear hS hT o6 o7 o8 m7 m8 gr7 gr8
  go_simp
  go_wp2
  exact bodyPost_ret (v := .tuple #[v8, .int .i64 0]) (by simp [results, Try.results16, go_sem]) rfl ⟨v8, by rw [HE.out], by rw [HX.out, ← HF.out.1, ← HF.out.2]; exact HO8.out, E8⟩

end Go.Proofs.Ytookffaojlkfaaa

/- Holders: slices.DeleteFunc. -/
namespace Go.Proofs.Ytookffaojlkfaaa
open Go.RowKit

theorem zc_one (cs : Array Value) (n : Nat) (h : ∀ u ∈ cs.toList, u.oneCell' = true) (hp : 0 < cs.size) : ∀ u ∈ (Builtin.zeroCells cs n).toList, u.oneCell' = true := by
  intro u hu
  unfold Builtin.zeroCells at hu
  simp only [Array.toList_map, List.mem_map] at hu
  obtain ⟨i, -, rfl⟩ := hu
  have hm : i % cs.size < cs.size := Nat.mod_lt _ hp
  rw [getElem!_pos cs _ hm]
  exact h _ (by simp)
theorem run_clear_many {P : Program} (w : World) (t e ty : TypeId) (z : Value) (ht : P.underlying t = some (.slice e)) (hv : ∀ w, (zeroValue e).run P w = .ok z w) (b o m c : Nat) (hm : 0 < m) (hp : 0 < z.cells.size)
    (hc : ∀ j, j < m * z.cells.size → (w.cell? ⟨b, o + j, none⟩).isSome = true) (hf : ∀ j, j < m * z.cells.size → w.frozen? ⟨b, o + j, none⟩ = false) (h1 : ∀ u ∈ z.cells.toList, u.oneCell' = true) :
    (Builtin.clear_ #[t] ty #[.slice (some ⟨b, o, none⟩) m c]).run P w = .ok (.tuple #[]) (w.setCells b o (Builtin.zeroCells z.cells m).toList) := by
  have hl : (Builtin.zeroCells z.cells m).toList.length = m * z.cells.size := by simp [Builtin.zeroCells]
  have hst := run_storeCells_cells (P := P) b o (Builtin.zeroCells z.cells m).toList 0 w (by simpa [hl] using hc) (by simpa [hl] using hf) (zc_one _ _ h1 hp)
  simp only [Nat.add_zero] at hst
  obtain ⟨k, rfl⟩ : ∃ k, m = k + 1 := ⟨m - 1, by omega⟩
  simp [Builtin.clear_, run_underlying ht, hv, hst]
theorem setL_take : ∀ (vs xs : List Value) (o : Nat), (setL xs o vs).take o = xs.take o := by
  intro vs xs o
  refine List.ext_getElem? fun j => ?_
  rw [List.getElem?_take, List.getElem?_take]
  by_cases hj : j < o
  · rw [if_pos hj, if_pos hj]
    by_cases hx : j < xs.length
    · rw [setL_get _ _ _ _ hx, if_neg (by omega)]
    · rw [List.getElem?_eq_none (by rw [setL_len]; omega), List.getElem?_eq_none (by omega)]
  · rw [if_neg hj, if_neg hj]
theorem flH_set (ys : List Ho) (i : Nat) (x : Ho) (hi : i < ys.length) : setL (flH ys) (i * 5) x.cl = flH (ys.set i x) := by
  have hc : ∀ z : Ho, z.cl.length = 5 := fun _ => rfl
  refine List.ext_getElem? fun j => ?_
  by_cases hj : j < ys.length * 5
  · rw [setL_get _ _ _ _ (by rw [flH_len]; exact hj), hc]
    have hq : j / 5 < ys.length := by omega
    have h2 := flH_get (ys.set i x) (j / 5) (j % 5) (by rw [List.length_set]; exact hq) (Nat.mod_lt _ (by omega))
    have h3 := flH_get ys (j / 5) (j % 5) hq (Nat.mod_lt _ (by omega))
    rw [show j / 5 * 5 + j % 5 = j by omega] at h2 h3
    rw [h2]
    by_cases he : i = j / 5
    · rw [if_pos (by omega)]
      have e : (ys.set i x)[j / 5]'(by rw [List.length_set]; exact hq) = x := by rw [List.getElem_set, if_pos he]
      rw [e, show j - i * 5 = j % 5 by omega]
    · rw [if_neg (by omega), h3]
      have e : (ys.set i x)[j / 5]'(by rw [List.length_set]; exact hq) = ys[j / 5] := by rw [List.getElem_set, if_neg he]
      rw [e]
  · rw [List.getElem?_eq_none (by rw [setL_len, flH_len]; omega), List.getElem?_eq_none (by rw [flH_len, List.length_set]; omega)]
theorem filter_none {α : Type} (f : α → Bool) (xs : List α) (h : xs.any f = false) : xs.filter (fun x => !f x) = xs := by
  rw [List.filter_eq_self]
  intro x hx
  have := List.any_eq_false.1 h x hx
  simpa using this
/-- What is kept stands ahead, what is not read yet behind. -/
def KeptH (f : Ho → Bool) (xs ys : List Ho) (i j : Nat) : Prop := ys.length = xs.length ∧ i < j ∧ j ≤ xs.length ∧ ys.take i = (xs.take j).filter (fun x => !f x) ∧ ys.drop j = xs.drop j
theorem KeptH.at {f : Ho → Bool} {xs ys : List Ho} {i j : Nat} (h : KeptH f xs ys i j) (hj : j < xs.length) : ys[j]? = xs[j]? := by
  have := congrArg (fun l => l[0]?) h.2.2.2.2
  simpa using this
theorem KeptH.no {f : Ho → Bool} {xs ys : List Ho} {i j : Nat} {x : Ho} (h : KeptH f xs ys i j) (hj : j < xs.length) (hx : xs[j] = x) (hf : f x = true) : KeptH f xs ys i (j + 1) := by
  refine ⟨h.1, by have := h.2.1; omega, hj, ?_, ?_⟩
  · rw [h.2.2.2.1, List.take_succ_eq_append_getElem hj, hx, List.filter_append]; simp [hf]
  · have := congrArg (List.drop 1) h.2.2.2.2
    simpa [List.drop_drop, Nat.add_comm] using this
theorem KeptH.yes {f : Ho → Bool} {xs ys : List Ho} {i j : Nat} {x : Ho} (h : KeptH f xs ys i j) (hj : j < xs.length) (hx : xs[j] = x) (hf : f x = false) : KeptH f xs (ys.set i x) (i + 1) (j + 1) := by
  obtain ⟨h1, h2, h3, h4, h5⟩ := h
  refine ⟨by rw [List.length_set, h1], by omega, hj, ?_, ?_⟩
  · rw [List.take_succ_eq_append_getElem (by rw [List.length_set]; omega), List.getElem_set_self, List.take_set_of_le (Nat.le_refl _), h4, List.take_succ_eq_append_getElem hj, hx, List.filter_append]
    simp [hf]
  · rw [List.drop_set, if_pos (by omega)]
    have := congrArg (List.drop 1) h5
    simpa [List.drop_drop, Nat.add_comm] using this

end Go.Proofs.Ytookffaojlkfaaa

/- Holders: slices.DeleteFunc, the walk. -/
namespace Go.Proofs.Ytookffaojlkfaaa
open Go.RowKit

theorem kept_start (f : Ho → Bool) (xs : List Ho) (h : xs.any f = true) : ∃ k, idx f xs = (k : Nat) ∧ k < xs.length ∧ KeptH f xs xs k (k + 1) := by
  have hl : xs.findIdx f < xs.length := by
    obtain ⟨x, hx, hp⟩ := List.any_eq_true.1 h
    exact List.findIdx_lt_length_of_exists ⟨x, hx, hp⟩
  have hat : f xs[xs.findIdx f] = true := List.findIdx_getElem (w := hl)
  refine ⟨xs.findIdx f, by unfold idx; rw [if_pos h], hl, rfl, by omega, hl, ?_, rfl⟩
  rw [List.take_succ_eq_append_getElem hl, List.filter_append]
  have e1 : (xs.take (xs.findIdx f)).filter (fun x => !f x) = xs.take (xs.findIdx f) := by
    rw [List.filter_eq_self]
    intro y hy
    obtain ⟨j, hj, e⟩ := List.getElem_of_mem hy
    rw [List.length_take] at hj
    have hn := List.not_of_lt_findIdx (p := f) (xs := xs) (show j < xs.findIdx f by omega)
    have e2 : xs[j]'(by omega) = y := by rw [← e]; simp
    rw [e2] at hn
    simpa using hn
  rw [e1]
  simp [hat]
theorem own_frz {w : World} {base g n cap : Nat} {l : List Value} (h : w.ownsRow base 70 5 (.slice (some ⟨g, 0, none⟩) n cap) n l) : frzD w g = (0, 0) ∧ g < w.heap.size := by
  rcases h.2 with ⟨e, _⟩ | ⟨g', cap', cur, e, h1, h2, _⟩
  · cases e
  · cases e
    exact ⟨by unfold frzD; rw [h2], (Array.getElem?_eq_some_iff.1 h2).1⟩
theorem own_cells {w : World} {base g n cap : Nat} {ys : List Ho} (h : w.ownsRow base 70 5 (.slice (some ⟨g, 0, none⟩) n cap) n (flH ys)) (hn : ys.length = n) (i : Nat) (hi : i < ys.length) :
    w.cell? ⟨g, i * 5, none⟩ = some (.int .u32 ys[i].t.a) ∧ w.cell? ⟨g, i * 5 + 1, none⟩ = some (.int .u32 ys[i].t.b) ∧ w.cell? ⟨g, i * 5 + 2, none⟩ = some (.int .u16 ys[i].t.c) ∧ w.cell? ⟨g, i * 5 + 3, none⟩ = some (.int .u16 ys[i].t.d) ∧ w.cell? ⟨g, i * 5 + 4, none⟩ = some (.int .i64 ys[i].n) := by
  subst hn
  obtain ⟨p, c, e, -, hs⟩ := SlH.own h
  cases e
  obtain ⟨b, off, e2, hb, c0, c1, c2, c3, c4⟩ := hs i hi
  cases e2
  rw [Nat.zero_add] at c0 c1 c2 c3 c4
  exact ⟨c0, c1, c2, c3, c4⟩
set_option maxRecDepth 100000 in
set_option maxHeartbeats 8000000 in
theorem deleteFunc_HC (base : Nat) (C : Nat → Prop) (g0 : Nat) (lb : Array Value) (eg : ∀ args w, (callFunc g0 args).run Try.prog w = .ok (.enter g0 args) w) (pr : Ho → Bool) (w : World) (v : Value) (xs : List Ho) (hl : xs.length ≤ 1000) (hbs : base ≤ w.heap.size) (ho : w.ownsRow base 70 5 v xs.length (flH xs)) (hC : ∀ g, v.ownBlock = some g → C g)
    (hf : ∀ x W, Mv C w W → Calls Try.prog g0 (#[.agg #[.int .u32 x.t.a, .int .u32 x.t.b, .int .u16 x.t.c, .int .u16 x.t.d, .int .i64 x.n]] ++ lb) W fun e w' => e = .returned (.bool (pr x)) ∧ Ext W w') :
    Calls Try.prog 104 #[v, .func (.func g0) #[] lb] w fun e w' => ∃ v', e = .returned v' ∧ w'.ownsRow base 70 5 v' (xs.filter fun x => !pr x).length (flH (xs.filter fun x => !pr x)) ∧ Mv C w w' := by
  cases ha : xs.any pr
  · have hI : idx pr xs = -1 := by unfold idx; rw [if_neg (by rw [ha]; decide)]
    have HF := Lib.hid (filter_none pr xs ha)
    obtain ⟨p, c, rfl, -, hs⟩ := SlH.own ho
    have HO := Lib.hid ho
    have HFF := Lib.hid hf
    clear ho hf ha
    go_enter Try.func104, Try.ntmps104
    go_wp2_with (go_at_call 106; go_must (with_reducible refine (indexFunc_H g0 lb eg pr p xs c _ hs hl (fun x W _ e => HFF.out x W (Mv.of_ext e))).mono ?_); rw [hI]; rintro e w1 ⟨rfl, g1⟩)
    go_ret
    exact ⟨_, rfl, by rw [HF.out]; exact own_ext HO.out g1, Mv.of_ext g1⟩
  · obtain ⟨k, hI, hk, hK⟩ := kept_start pr xs ha
    obtain ⟨g, cap, rfl, hg, hc1⟩ : ∃ g cap, v = .slice (some ⟨g, 0, none⟩) xs.length cap ∧ base ≤ g ∧ xs.length ≤ cap := by
      rcases ho.2 with ⟨_, h0⟩ | ⟨g, cap, cur, h1, h2, h3, h4, _⟩
      · omega
      · exact ⟨g, cap, h1, h2, h4⟩
    obtain ⟨p, c, he, -, hs⟩ := SlH.own ho
    cases he
    have hCg : C g := hC g rfl
    clear hC
    have HO := Lib.hid ho
    have HFF := Lib.hid hf
    have HK := Lib.hid hK
    have hk1 : ((k : Int) == -1) = false := by rw [beq_eq_false_iff_ne]; omega
    clear ho hf ha hK
    go_enter Try.func104, Try.ntmps104
    go_upto_region 4 with (go_at_call 106; go_must (with_reducible refine (indexFunc_H g0 lb eg pr (some ⟨g, 0, none⟩) xs cap _ hs hl (fun x W _ e => HFF.out x W (Mv.of_ext e))).mono ?_); rw [hI]; rintro e w1 ⟨rfl, g1⟩)
    have HO1 := Lib.hid (own_ext HO.out g1)
    have HM1 := Lib.hid (Mv.of_ext (C := C) g1)
    clear hs HO hk1
    go_wp2
    go_loopw [5, 6, 7] (fun a b _ wr => ∃ (i j : Nat) (ys : List Ho), a = .int .i64 i ∧ b = .int .i64 j ∧ KeptH pr xs ys i j ∧ wr.ownsRow base 70 5 (.slice (some ⟨g, 0, none⟩) xs.length cap) xs.length (flH ys) ∧ Mv C w wr) (fun _ b _ _ => xs.length - (intOf b).toNat)
    case atStart => exact ⟨k, k + 1, xs, rfl, by go_num, HK.out, HO1.out, HM1.out⟩
    case round =>
      clear HK HO1 HM1
      obtain ⟨i, j, ys, rfl, rfl, hK, ho, hM⟩ := hrel
      obtain ⟨hyl, hij, hjl, hK4, hK5⟩ := id hK
      by_cases hlt : j < xs.length
      · have hil : (j : Int) < xs.length := by omega
        have hii : (i : Int) < xs.length := by omega
        obtain ⟨c0, c1, c2, c3, c4⟩ := own_cells ho hyl j (by omega)
        obtain ⟨y0, y1, y2, y3, y4⟩ := own_cells ho hyl i (by omega)
        obtain ⟨hfz, hgl⟩ := own_frz ho
        obtain ⟨x, hx⟩ : ∃ x, ys[j]'(by omega) = x := ⟨_, rfl⟩
        have hxx : xs[j] = x := by have := hK.at hlt; rw [List.getElem?_eq_getElem (by omega), List.getElem?_eq_getElem hlt, hx] at this; exact (Option.some.inj this).symm
        rw [hx] at c0 c1 c2 c3 c4
        have lg : Lt g wr := hgl
        have HKK := Lib.hid hK
        have HO := Lib.hid ho
        have HM := Lib.hid hM
        have HXX := Lib.hid hxx
        have hbw := Nat.le_trans hbs hM.size
        clear hK ho hM hK4 hK5 hxx hx
        go_upto_region 8 with (fail)
        obtain ⟨W1, hW⟩ : ∃ W1, wr.alloc (.cells #[.int .u32 x.t.a, .int .u32 x.t.b, .int .u16 x.t.c, .int .u16 x.t.d, .int .i64 x.n] 70) = W1 := ⟨_, rfl⟩
        have gX : Ext wr W1 := by rw [← hW]; exact Ext.al (Ext.rf _) _
        have rx : rowD W1 wr.heap.size = #[.int .u32 x.t.a, .int .u32 x.t.b, .int .u16 x.t.c, .int .u16 x.t.d, .int .i64 x.n] := by rw [← hW]; simp [go_sem]
        have lx : Lt wr.heap.size W1 := by rw [← hW]; simp [Lt]
        rw [hW]
        have hgx : ¬ g = wr.heap.size := by omega
        clear hW c0 c1 c2 c3 c4
        have y0 := (gX.cell (p := ⟨g, _, none⟩) lg).trans y0
        have y1 := (gX.cell (p := ⟨g, _, none⟩) lg).trans y1
        have y2 := (gX.cell (p := ⟨g, _, none⟩) lg).trans y2
        have y3 := (gX.cell (p := ⟨g, _, none⟩) lg).trans y3
        have y4 := (gX.cell (p := ⟨g, _, none⟩) lg).trans y4
        have lg : Lt g W1 := Nat.lt_of_lt_of_le lg gX.size
        have hfz : frzD W1 g = (0, 0) := by unfold frzD; rw [gX.block _ hgl]; exact hfz
        generalize wr.heap.size = BX at *
        have x0 : W1.cell? ⟨BX, 0, none⟩ = some (.int .u32 x.t.a) := by rw [cell_rowD, rx]; rfl
        have x1 : W1.cell? ⟨BX, 1, none⟩ = some (.int .u32 x.t.b) := by rw [cell_rowD, rx]; rfl
        have x2 : W1.cell? ⟨BX, 2, none⟩ = some (.int .u16 x.t.c) := by rw [cell_rowD, rx]; rfl
        have x3 : W1.cell? ⟨BX, 3, none⟩ = some (.int .u16 x.t.d) := by rw [cell_rowD, rx]; rfl
        have x4 : W1.cell? ⟨BX, 4, none⟩ = some (.int .i64 x.n) := by rw [cell_rowD, rx]; rfl
        have HC := HFF.out x W1 (HM.out.tr gX)
        clear rx
        cases hp : pr x
        · rw [hp] at HC
          have HCC := Lib.hid HC
          clear HC
          go_upto_region 9 with ((with_reducible refine (HCC.out).mono ?_); rintro e W2 ⟨rfl, g2⟩)
          have x0 := (g2.cell (p := ⟨BX, _, none⟩) lx).trans x0
          have y0 := (g2.cell (p := ⟨g, _, none⟩) lg).trans y0
          have x1 := (g2.cell (p := ⟨BX, _, none⟩) lx).trans x1
          have y1 := (g2.cell (p := ⟨g, _, none⟩) lg).trans y1
          have x2 := (g2.cell (p := ⟨BX, _, none⟩) lx).trans x2
          have y2 := (g2.cell (p := ⟨g, _, none⟩) lg).trans y2
          have x3 := (g2.cell (p := ⟨BX, _, none⟩) lx).trans x3
          have y3 := (g2.cell (p := ⟨g, _, none⟩) lg).trans y3
          have x4 := (g2.cell (p := ⟨BX, _, none⟩) lx).trans x4
          have y4 := (g2.cell (p := ⟨g, _, none⟩) lg).trans y4
          have hfz2 : frzD W2 g = (0, 0) := by unfold frzD; rw [g2.block _ lg]; exact hfz
          have lg : Lt g W2 := Nat.lt_of_lt_of_le lg g2.size
          have lx : Lt BX W2 := Nat.lt_of_lt_of_le lx g2.size
          have f0 := frozen_of_frz hfz2 (i * 5)
          have f1 := frozen_of_frz hfz2 (i * 5 + 1)
          have f2 := frozen_of_frz hfz2 (i * 5 + 2)
          have f3 := frozen_of_frz hfz2 (i * 5 + 3)
          have f4 := frozen_of_frz hfz2 (i * 5 + 4)
          go_wp2
          go_roundw
          case rel =>
            refine ⟨i + 1, j + 1, ys.set i x, by go_num, by go_num, HKK.out.yes hlt HXX.out hp, ?_, ?_⟩
            · have h := own_setCells x.cl (i * 5) W2 _ (own_ext HO.out (gX.tr g2))
              rw [flH_set ys i x (by omega)] at h
              exact h
            · exact Mv.sc (C := C) hCg x.cl (i * 5) _ _ ((HM.out.tr gX).tr g2)
          case measure => simp [intOf]; omega
        · rw [hp] at HC
          have HCC := Lib.hid HC
          clear HC
          go_wp2_with ((with_reducible refine (HCC.out).mono ?_); rintro e W2 ⟨rfl, g2⟩)
          go_roundw
          case rel => exact ⟨i, j + 1, ys, rfl, by go_num, HKK.out.no hlt HXX.out hp, own_ext HO.out (gX.tr g2), (HM.out.tr gX).tr g2⟩
          case measure => simp [intOf]; omega
      · have hil : ¬ ((j : Int) < xs.length) := by omega
        obtain rfl : j = xs.length := by omega
        obtain ⟨hfz, hgl⟩ := own_frz ho
        have hsome : ∀ q, q < (xs.length - i) * 5 → (wr.cell? ⟨g, i * 5 + q, none⟩).isSome = true := fun q hq => by
          rcases ho.2 with ⟨e, _⟩ | ⟨g', cap', cur, e, h1, h2, h3, h4, h5, h6⟩
          · cases e
          · cases e
            rw [cell_rowD]
            unfold rowD
            have h7 : cur.size = cap * 5 := h5
            have h8 : i * 5 + q < cap * 5 := by omega
            rw [h2]
            show (cur[i * 5 + q]?).isSome = true
            rw [Array.getElem?_eq_getElem (by rw [h7]; exact h8)]
            rfl
        have hcl : ∀ ty, (Builtin.clear_ #[50] ty #[.slice (some ⟨g, i * 5, none⟩) (xs.length - i) (cap - i)]).run Try.prog wr = .ok (.tuple #[]) (wr.setCells g (i * 5) (Builtin.zeroCells (Value.agg #[.int .u32 0, .int .u32 0, .int .u16 0, .int .u16 0, .int .i64 0]).cells (xs.length - i)).toList) := fun ty =>
          run_clear_many wr 50 70 ty (.agg #[.int .u32 0, .int .u32 0, .int .u16 0, .int .u16 0, .int .i64 0]) Try.underlying50 (fun w => by kernel_rfl) g (i * 5) (xs.length - i) (cap - i) (by omega) (by simp [Value.cells]) (fun q hq => hsome q (by simpa [Value.cells] using hq)) (fun q _ => frozen_of_frz hfz _) (by intro u hu; simp [Value.cells] at hu; rcases hu with rfl | rfl | rfl | rfl | rfl <;> rfl)
        obtain ⟨zs, hzs⟩ : ∃ zs, (Builtin.zeroCells (Value.agg #[.int .u32 0, .int .u32 0, .int .u16 0, .int .u16 0, .int .i64 0]).cells (xs.length - i)).toList = zs := ⟨_, rfl⟩
        rw [hzs] at hcl
        have hic : ¬ cap = i := by omega
        have hin : (i : Int) ≤ xs.length := by omega
        have hicap : i ≤ cap := by omega
        have hile : i ≤ xs.length := by omega
        have hfi : (xs.filter fun x => !pr x) = ys.take i := by rw [hK4, List.take_length]
        have HRES := Lib.hid (show (wr.setCells g (i * 5) zs).ownsRow base 70 5 (.slice (some ⟨g, 0, none⟩) i cap) (xs.filter fun x => !pr x).length (flH (xs.filter fun x => !pr x)) by
          have h := own_shrink (own_setCells zs (i * 5) wr _ ho) (m := i) hile
          rw [setL_take, (flH_cut ys i (by omega)).1, ← hfi] at h
          have hl' : (xs.filter fun x => !pr x).length = i := by rw [hfi, List.length_take]; omega
          rw [hl']
          exact h)
        have HMM := Lib.hid (Mv.sc (C := C) hCg zs (i * 5) _ _ hM)
        have lg : Lt g wr := hgl
        clear ho hM hK hK4 hK5 hsome hzs hfi
        go_wp2
        go_ret
        exact ⟨_, rfl, HRES.out, HMM.out⟩

end Go.Proofs.Ytookffaojlkfaaa
