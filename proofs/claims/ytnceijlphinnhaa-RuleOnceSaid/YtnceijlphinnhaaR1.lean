/- A map literal: one statement that makes a map, reckons keys and values, and stores each, in whatever order. Any program. -/
import Derived.Test.YtnceijlphinnhaaR0
namespace Go.Proofs.Ytnceijlphinnhaa
open Go.RowKit

/-- Whatever cell was there is there with what it held. -/
def Mono (w w' : World) : Prop := (∀ b o v, w.cell? ⟨b, o, none⟩ = some v → w'.cell? ⟨b, o, none⟩ = some v) ∧ w.heap.size ≤ w'.heap.size
theorem Mono.rf (w : World) : Mono w w := ⟨fun _ _ _ h => h, Nat.le_refl _⟩
theorem Mono.tr {a b c : World} (h : Mono a b) (k : Mono b c) : Mono a c := ⟨fun _ _ _ e => k.1 _ _ _ (h.1 _ _ _ e), Nat.le_trans h.2 k.2⟩
theorem Mono.of {w w' : World} (h : Below w.heap.size w w') : Mono w w' :=
  ⟨fun b o _ e => (h.cell (p := ⟨b, o, none⟩) (World.block_lt_of_cell? w _ e)).trans e, h.size⟩

abbrev Pred := World → Value → Prop
def Stable (p : Pred) : Prop := ∀ w w' v, Mono w w' → p w v → p w' v

structure MLit (P : Program) where
  t : TypeId
  kt : TypeId
  et : TypeId
  K : Value → Prop
  im : Nat
  dm : Nat
  D : List (Nat × Nat × Pred)
  C : List (Nat × Nat × Nat)
  I : List (Nat × Value × Pred)

namespace MLit
variable {P : Program}

/-- The slot is none that the statement writes. -/
def Free (L : MLit P) (s : Nat) : Prop := (∀ x ∈ L.D, x.2.1 ≠ s) ∧ (∀ x ∈ L.C, x.2.1 ≠ s) ∧ s ≠ L.dm

def Map (L : MLit P) (w0 : World) (listed : Array Bool) (a : Act) (w : World) : Prop :=
  ∃ B f, a.tmps.getD L.dm undef = .map (some B) ∧ w0.heap.size ≤ B ∧ MapIs L.K w B f ∧
    (∀ x ∈ L.I, listed.getD x.1 false = true → ∃ v, f x.2.1 = some v ∧ x.2.2 w v) ∧
    (∀ k v, f k = some v → ∃ x ∈ L.I, listed.getD x.1 false = true ∧ x.2.1 = k)

structure Inv (L : MLit P) (a0 : Act) (w0 : World) (listed : Array Bool) (a : Act) (w : World) : Prop where
  defers : a.defers = a0.defers
  size : a.tmps.size = a0.tmps.size
  ext : Below w0.heap.size w0 w
  free : ∀ s, L.Free s → a.tmps.getD s undef = a0.tmps.getD s undef
  vals : ∀ x ∈ L.D, listed.getD x.1 false = true → x.2.2 w (a.tmps.getD x.2.1 undef)
  cops : ∀ x ∈ L.C, listed.getD x.1 false = true → a.tmps.getD x.2.1 undef = a.tmps.getD L.dm undef
  map : listed.getD L.im false = true → L.Map w0 listed a w
  later : (∀ x ∈ L.C, listed.getD x.1 false = true → listed.getD L.im false = true) ∧ ∀ x ∈ L.I, listed.getD x.1 false = true → listed.getD L.im false = true

/-- What the literal owes: each of its operations is one of four kinds. -/
structure Fits (L : MLit P) (ops : Array Oper) (Q : Exit → Act → World → Prop) (a0 : Act) (w0 : World) : Prop where
  law : Keys P L.kt L.K
  ty : P.underlying L.t = some (.map L.kt L.et)
  cover : ∀ i, i < ops.size → i = L.im ∨ (∃ x ∈ L.D, x.1 = i) ∨ (∃ x ∈ L.C, x.1 = i) ∨ (∃ x ∈ L.I, x.1 = i)
  acyclic : ∀ (i : Nat) (o : Oper), ops[i]? = some o → ∀ e ∈ o.after, e.on < i
  slots : (∀ x ∈ L.D, x.2.1 < a0.tmps.size ∧ x.2.1 ≠ L.dm ∧ ∀ y ∈ L.C, y.2.1 ≠ x.2.1) ∧ (∀ x ∈ L.C, x.2.1 < a0.tmps.size ∧ x.2.1 ≠ L.dm) ∧ L.dm < a0.tmps.size
  dd : ∀ x ∈ L.D, ∀ y ∈ L.D, x.2.1 = y.2.1 → x.1 = y.1 ∧ x.2.2 = y.2.2
  cc : ∀ x ∈ L.C, ∀ y ∈ L.C, x.2.1 = y.2.1 → x.1 = y.1
  ii : ∀ x ∈ L.I, ∀ y ∈ L.I, x.2.1 = y.2.1 → x.1 = y.1
  i2 : ∀ x ∈ L.I, ∀ y ∈ L.I, x.1 = y.1 → x = y
  apart : (∀ x ∈ L.D, x.1 ≠ L.im ∧ (∀ y ∈ L.C, y.1 ≠ x.1) ∧ (∀ y ∈ L.I, y.1 ≠ x.1)) ∧ (∀ x ∈ L.C, x.1 ≠ L.im ∧ (∀ y ∈ L.I, y.1 ≠ x.1)) ∧ (∀ x ∈ L.I, x.1 ≠ L.im)
  d1 : ∀ x ∈ L.D, ∀ y ∈ L.D, x.1 = y.1 → x = y
  c1 : ∀ x ∈ L.C, ∀ y ∈ L.C, x.1 = y.1 → x = y
  stable : (∀ x ∈ L.D, Stable x.2.2) ∧ (∀ x ∈ L.I, Stable x.2.2)
  hmk : ∃ o, ops[L.im]? = some o ∧ o.dst = some L.dm ∧ o.guard = none ∧ o.op = .makeMap L.t none
  hD : ∀ x ∈ L.D, ∃ o, ops[x.1]? = some o ∧ o.guard = none ∧ ∀ (a : Act) (w : World) (Kk : Act → World → Prop), (∀ s, L.Free s → a.tmps.getD s undef = a0.tmps.getD s undef) → Below w0.heap.size w0 w →
    (∀ v w', Below w.heap.size w w' → x.2.2 w' v → Kk (a.put (some x.2.1) v) w') → o.wp P a w Kk Q
  hC : ∀ x ∈ L.C, ∃ o, ops[x.1]? = some o ∧ o.dst = some x.2.1 ∧ o.guard = none ∧ (o.op = .move (.tmp x.2.2) ∨ o.op = .assign (.tmp x.2.2)) ∧
    ((x.2.2 = L.dm ∧ ∃ e ∈ o.after, e.on = L.im ∧ Region.binds .any e = true) ∨ ∃ y ∈ L.C, y.2.1 = x.2.2 ∧ ∃ e ∈ o.after, e.on = y.1 ∧ Region.binds .any e = true)
  hI : ∀ x ∈ L.I, ∃ o k v, ops[x.1]? = some o ∧ o.dst = none ∧ o.guard = none ∧ o.op = .insert L.t (.tmp L.dm) k v ∧ L.K x.2.1 ∧ (∃ e ∈ o.after, e.on = L.im ∧ Region.binds .any e = true) ∧
    (∀ (a : Act) (w : World), (∀ y ∈ L.D, (∃ e ∈ o.after, e.on = y.1 ∧ Region.binds .any e = true) → y.2.2 w (a.tmps.getD y.2.1 undef)) → (∀ s, L.Free s → a.tmps.getD s undef = a0.tmps.getD s undef) → Below w0.heap.size w0 w → a.eval k = x.2.1 ∧ x.2.2 w (a.eval v))

theorem getD_put {a : Act} {d s : Nat} {v : Value} : (a.put (some d) v).tmps.getD s undef = if d = s ∧ s < a.tmps.size then v else a.tmps.getD s undef := by
  simp only [Act.put, Array.getD_eq_getD_getElem?, Array.getElem?_setIfInBounds]
  by_cases h : d = s
  · subst h
    by_cases h2 : d < a.tmps.size <;> simp [h2]
  · simp [h]

theorem getD_set {l : Array Bool} {i j : Nat} : (l.setIfInBounds i true).getD j false = if i = j ∧ j < l.size then true else l.getD j false := by
  simp only [Array.getD_eq_getD_getElem?, Array.getElem?_setIfInBounds]
  by_cases h : i = j
  · subst h
    by_cases h2 : i < l.size <;> simp [h2]
  · simp [h]

theorem wpOp_some {ops : Array Oper} {Q : Exit → Act → World → Prop} {i : Nat} {o : Oper} {K : Act → World → Prop} {a : Act} {w : World} (ho : ops[i]? = some o) (hg : o.guard = none) (h : o.wp P a w K Q) : wpOp P ops Q i K a w := by
  unfold wpOp
  rw [ho]
  simp only [Region.wanted, hg, if_true]
  exact Or.inl h

section
variable {L : MLit P} {ops : Array Oper} {Q : Exit → Act → World → Prop} {a0 : Act} {w0 : World}

theorem Map.mono {listed : Array Bool} {a a' : Act} {w w' : World} (F : L.Fits ops Q a0 w0) (h : L.Map w0 listed a w) (hw : Below w.heap.size w w') (ha : a'.tmps.getD L.dm undef = a.tmps.getD L.dm undef) : L.Map w0 listed a' w' := by
  obtain ⟨B, f, h1, h2, h3, h4, h5⟩ := h
  have hB : B < w.heap.size := by
    obtain ⟨es, clk, h, _⟩ := h3
    rcases Nat.lt_or_ge B w.heap.size with h' | h'
    · exact h'
    · rw [Array.getElem?_eq_none h'] at h; cases h
  refine ⟨B, f, ha.trans h1, h2, h3.keep (hw.block B hB), fun x hx hl => ?_, h5⟩
  obtain ⟨v, e1, e2⟩ := h4 x hx hl
  exact ⟨v, e1, F.stable.2 x hx _ _ _ (Mono.of hw) e2⟩

theorem ready_spec {listed : Array Bool} {i : Nat} {o : Oper} (h : i ∈ Region.ready .any ops listed) (ho : ops[i]? = some o) :
    i < ops.size ∧ listed.getD i true = false ∧ ∀ e ∈ o.after, Region.binds .any e = true → listed.getD e.on false = true := by
  unfold Region.ready at h
  simp only [List.mem_filter, List.mem_range, Bool.and_eq_true, Bool.not_eq_true'] at h
  refine ⟨h.1, h.2.1, fun e he hb => ?_⟩
  have := h.2.2
  rw [ho] at this
  simp only [Option.map_some, Option.getD_some, Array.all_eq_true_iff_forall_mem] at this
  have := this e he
  simpa [hb] using this

theorem exec_make {a : Act} {w : World} {o : Oper} {t : TypeId} (hop : o.op = .makeMap t none) : (execOp a.eval o).run P w = .ok (.value (.map (some w.heap.size))) (w.alloc (.map #[] 0)) := by
  obtain ⟨dst, op, ty, pos, after, guard⟩ := o
  subst hop
  have := run_makeMap (P := P) t w
  simp [execOp, this, Result.andThen]

theorem exec_copy {a : Act} {w : World} {o : Oper} {s : Nat} (hop : o.op = .move (.tmp s) ∨ o.op = .assign (.tmp s)) : (execOp a.eval o).run P w = .ok (.value (a.tmps.getD s undef)) w := by
  obtain ⟨dst, op, ty, pos, after, guard⟩ := o
  rcases hop with hop | hop <;> (subst hop; rfl)

theorem exec_insert {a : Act} {w w' : World} {o : Oper} {t : TypeId} {m k v : Operand} (hop : o.op = .insert t m k v) (h : (Instr.mapUpdate t (a.eval m) (a.eval k) (a.eval v)).run P w = .ok () w') :
    (execOp a.eval o).run P w = .ok .skip w' := by
  obtain ⟨dst, op, ty, pos, after, guard⟩ := o
  subst hop
  simp [execOp, h, Result.andThen]

theorem lists {listed : Array Bool} {i : Nat} : ∀ j, (listed.setIfInBounds i true).getD j false = true → j = i ∨ listed.getD j false = true := by
  intro j hj
  rw [getD_set] at hj
  split at hj
  · rename_i h; exact .inl h.1.symm
  · exact .inr hj
theorem listed_old {listed : Array Bool} {i : Nat} : ∀ j, listed.getD j false = true → (listed.setIfInBounds i true).getD j false = true := by
  intro j hj
  rw [getD_set]
  split
  · rfl
  · exact hj

theorem step_make (F : L.Fits ops Q a0 w0) {listed : Array Bool} {a : Act} {w : World} (hs : listed.size = ops.size) (h : L.Inv a0 w0 listed a w) (hlt : L.im < ops.size) (hfr : listed.getD L.im false = false) :
    wpOp P ops Q L.im (L.Inv a0 w0 (listed.setIfInBounds L.im true)) a w := by
  obtain ⟨o, ho, hd, hg, hop⟩ := F.hmk
  refine wpOp_some ho hg ?_
  unfold Oper.wp
  rw [exec_make hop, Oper.upon_value, hd]
  have hb : Below w.heap.size w (w.alloc (.map #[] 0)) := (Below.refl _ _).alloc (Nat.le_refl _) _
  have hset : (listed.setIfInBounds L.im true).getD L.im false = true := by rw [getD_set, if_pos ⟨rfl, by omega⟩]
  refine ⟨h.defers, by simpa [Act.put] using h.size, h.ext.trans (hb.mono h.ext.size), fun s hf => ?_, fun x hx hl => ?_, fun x hx hl => ?_, fun _ => ?_, fun _ _ _ => hset, fun _ _ _ => hset⟩
  · rw [getD_put, if_neg (fun e => hf.2.2 e.1.symm)]; exact h.free s hf
  · rw [getD_put, if_neg (fun e => (F.slots.1 x hx).2.1 e.1.symm)]
    rcases lists _ hl with he | hl
    · exact absurd he (F.apart.1 x hx).1
    · exact F.stable.1 x hx _ _ _ (Mono.of hb) (h.vals x hx hl)
  · exfalso
    rcases lists _ hl with he | hl
    · exact (F.apart.2.1 x hx).1 he
    · rw [h.later.1 x hx hl] at hfr; cases hfr
  · refine ⟨w.heap.size, fun _ => none, ?_, h.ext.size, MapIs.new w, fun x hx hl => ?_, fun k v hk => by cases hk⟩
    · rw [getD_put, if_pos ⟨rfl, by rw [h.size]; exact F.slots.2.2⟩]
    · exfalso
      rcases lists _ hl with he | hl
      · exact F.apart.2.2 x hx he
      · rw [h.later.2 x hx hl] at hfr; cases hfr

theorem step_value (F : L.Fits ops Q a0 w0) {listed : Array Bool} {a : Act} {w : World} (h : L.Inv a0 w0 listed a w) {x : Nat × Nat × Pred} (hx : x ∈ L.D) :
    wpOp P ops Q x.1 (L.Inv a0 w0 (listed.setIfInBounds x.1 true)) a w := by
  obtain ⟨o, ho, hg, hrun⟩ := F.hD x hx
  refine wpOp_some ho hg (hrun a w _ h.free h.ext ?_)
  intro v w' hb hp
  have hdm : (a.put (some x.2.1) v).tmps.getD L.dm undef = a.tmps.getD L.dm undef := by
    rw [getD_put, if_neg (fun e => (F.slots.1 x hx).2.1 e.1)]
  have hne : L.im ≠ x.1 := fun e => (F.apart.1 x hx).1 e.symm
  have hmk : (listed.setIfInBounds x.1 true).getD L.im false = listed.getD L.im false := by
    rw [getD_set, if_neg (fun e => hne e.1.symm)]
  refine ⟨h.defers, by simpa [Act.put] using h.size, h.ext.trans (hb.mono h.ext.size), fun s hf => ?_, fun y hy hl => ?_, fun y hy hl => ?_, fun hl => ?_, fun y hy hl => ?_, fun y hy hl => ?_⟩
  · rw [getD_put, if_neg (fun e => hf.1 x hx e.1)]; exact h.free s hf
  · rw [getD_put]
    split
    · rename_i e
      have := F.dd x hx y hy e.1
      rw [← this.2]; exact hp
    · rename_i e
      rcases lists _ hl with he | hl
      · have := F.d1 y hy x hx he
        subst this
        exact absurd ⟨rfl, by rw [h.size]; exact (F.slots.1 y hy).1⟩ e
      · exact F.stable.1 y hy _ _ _ (Mono.of hb) (h.vals y hy hl)
  · rw [hdm, getD_put, if_neg (fun e => (F.slots.1 x hx).2.2 y hy e.1.symm)]
    rcases lists _ hl with he | hl
    · exact absurd he ((F.apart.1 x hx).2.1 y hy)
    · exact h.cops y hy hl
  · rw [hmk] at hl
    obtain ⟨B, f, h1, h2, h3, h4, h5⟩ := Map.mono F (h.map hl) hb hdm
    refine ⟨B, f, h1, h2, h3, fun y hy hl => ?_, fun k v hk => ?_⟩
    · rcases lists _ hl with he | hl
      · exact absurd he ((F.apart.1 x hx).2.2 y hy)
      · exact h4 y hy hl
    · obtain ⟨y, hy, hl, e⟩ := h5 k v hk
      exact ⟨y, hy, listed_old _ hl, e⟩
  · rw [hmk]
    rcases lists _ hl with he | hl
    · exact absurd he ((F.apart.1 x hx).2.1 y hy)
    · exact h.later.1 y hy hl
  · rw [hmk]
    rcases lists _ hl with he | hl
    · exact absurd he ((F.apart.1 x hx).2.2 y hy)
    · exact h.later.2 y hy hl

theorem step_copy (F : L.Fits ops Q a0 w0) {listed : Array Bool} {a : Act} {w : World} (h : L.Inv a0 w0 listed a w) {x : Nat × Nat × Nat} (hx : x ∈ L.C) (hr : x.1 ∈ Region.ready .any ops listed) :
    wpOp P ops Q x.1 (L.Inv a0 w0 (listed.setIfInBounds x.1 true)) a w := by
  obtain ⟨o, ho, hd, hg, hop, hsrc⟩ := F.hC x hx
  have hedge := (ready_spec hr ho).2.2
  have hv : a.tmps.getD x.2.2 undef = a.tmps.getD L.dm undef ∧ listed.getD L.im false = true := by
    rcases hsrc with ⟨e, ed, h1, h2, h3⟩ | ⟨y, hy, e, ed, h1, h2, h3⟩
    · rw [e]; exact ⟨rfl, by rw [← h2]; exact hedge ed h1 h3⟩
    · have hl : listed.getD y.1 false = true := by rw [← h2]; exact hedge ed h1 h3
      rw [← e]; exact ⟨h.cops y hy hl, h.later.1 y hy hl⟩
  refine wpOp_some ho hg ?_
  unfold Oper.wp
  rw [exec_copy hop, Oper.upon_value, hd, hv.1]
  have hdm : (a.put (some x.2.1) (a.tmps.getD L.dm undef)).tmps.getD L.dm undef = a.tmps.getD L.dm undef := by
    rw [getD_put, if_neg (fun e => (F.slots.2.1 x hx).2 e.1)]
  have hne : L.im ≠ x.1 := fun e => (F.apart.2.1 x hx).1 e.symm
  have hmk : (listed.setIfInBounds x.1 true).getD L.im false = listed.getD L.im false := by
    rw [getD_set, if_neg (fun e => hne e.1.symm)]
  refine ⟨h.defers, by simpa [Act.put] using h.size, h.ext, fun s hf => ?_, fun y hy hl => ?_, fun y hy hl => ?_, fun hl => ?_, fun y hy hl => ?_, fun y hy hl => ?_⟩
  · rw [getD_put, if_neg (fun e => hf.2.1 x hx e.1)]; exact h.free s hf
  · rw [getD_put, if_neg (fun e => (F.slots.1 y hy).2.2 x hx e.1)]
    rcases lists _ hl with he | hl
    · exact absurd he.symm ((F.apart.1 y hy).2.1 x hx)
    · exact h.vals y hy hl
  · rw [hdm, getD_put]
    split
    · rfl
    · rename_i e
      rcases lists _ hl with he | hl
      · have := F.c1 y hy x hx he
        subst this
        exact absurd ⟨rfl, by rw [h.size]; exact (F.slots.2.1 y hy).1⟩ e
      · exact h.cops y hy hl
  · obtain ⟨B, f, h1, h2, h3, h4, h5⟩ := h.map hv.2
    refine ⟨B, f, hdm.trans h1, h2, h3, fun y hy hl => ?_, fun k v hk => ?_⟩
    · rcases lists _ hl with he | hl
      · exact absurd he ((F.apart.2.1 x hx).2 y hy)
      · exact h4 y hy hl
    · obtain ⟨y, hy, hl, e⟩ := h5 k v hk
      exact ⟨y, hy, listed_old _ hl, e⟩
  · rw [hmk]; exact hv.2
  · rw [hmk]; exact hv.2

theorem step_insert (F : L.Fits ops Q a0 w0) {listed : Array Bool} {a : Act} {w : World} (h : L.Inv a0 w0 listed a w) {x : Nat × Value × Pred} (hx : x ∈ L.I) (hr : x.1 ∈ Region.ready .any ops listed) :
    wpOp P ops Q x.1 (L.Inv a0 w0 (listed.setIfInBounds x.1 true)) a w := by
  obtain ⟨o, k, v, ho, hd, hg, hop, hK, ⟨ed, e1, e2, e3⟩, hval⟩ := F.hI x hx
  have hrs := ready_spec hr ho
  have hedge := hrs.2.2
  have him : listed.getD L.im false = true := by rw [← e2]; exact hedge ed e1 e3
  obtain ⟨hk, hp⟩ := hval a w (fun y hy ⟨e, h1, h2, h3⟩ => h.vals y hy (by rw [← h2]; exact hedge e h1 h3)) h.free h.ext
  obtain ⟨B, f, h1, h2, h3, h4, h5⟩ := h.map him
  have hfr : listed.getD x.1 false = false := by
    have := hrs.2.1
    simp only [Array.getD_eq_getD_getElem?] at this ⊢
    cases hq : listed[x.1]? with
    | none => rw [hq] at this; cases this
    | some b => rw [hq] at this; simpa using this
  have hxl : x.1 < listed.size := by
    have := hrs.2.1
    simp only [Array.getD_eq_getD_getElem?] at this
    rcases Nat.lt_or_ge x.1 listed.size with h | h
    · exact h
    · rw [Array.getElem?_eq_none h] at this; cases this
  have hn : f x.2.1 = none := by
    cases hf : f x.2.1 with
    | none => rfl
    | some u =>
      obtain ⟨y, hy, hl, e⟩ := h5 _ _ hf
      rw [F.ii y hy x hx e, hfr] at hl
      cases hl
  obtain ⟨w', hrun, hm, ho1, ho2, ho3, ho4, ho5⟩ := MapIs.store F.law F.ty h3 hK hn (a.eval v)
  have hB : ∃ es clk, w.heap[B]? = some (.map es clk) := by
    obtain ⟨es, clk, h, _⟩ := h3
    exact ⟨es, clk, h⟩
  have hmono : Mono w w' := by
    refine ⟨fun b o u hc => ?_, by rw [ho4]; exact Nat.le_refl _⟩
    by_cases hb : b = B
    · subst hb
      obtain ⟨es, clk, h⟩ := hB
      unfold World.cell? at hc
      simp only [h] at hc
      cases hc
    · exact (World.cell?_of_block (w := w) (a := ⟨b, o, none⟩) (ho5 b hb)).trans hc
  have hext : Below w0.heap.size w0 w' := by
    refine ⟨ho1.trans h.ext.os, ho2.trans h.ext.tape, ho3.trans h.ext.output, by rw [ho4]; exact h.ext.size, fun i hi => ?_⟩
    rw [ho5 i (by omega)]
    exact h.ext.block i hi
  refine wpOp_some ho hg ?_
  unfold Oper.wp
  rw [exec_insert (P := P) hop (w' := w') (by rw [hk]; show (Instr.mapUpdate L.t (a.tmps.getD L.dm undef) x.2.1 (a.eval v)).run P w = _; rw [h1]; exact hrun), Oper.upon_skip, hd]
  show L.Inv a0 w0 _ a w'
  have hne : L.im ≠ x.1 := fun e => F.apart.2.2 x hx e.symm
  have hmk : (listed.setIfInBounds x.1 true).getD L.im false = listed.getD L.im false := by
    rw [getD_set, if_neg (fun e => hne e.1.symm)]
  refine ⟨h.defers, h.size, hext, h.free, fun y hy hl => ?_, fun y hy hl => ?_, fun _ => ?_, fun y hy hl => ?_, fun y hy hl => ?_⟩
  · rcases lists _ hl with he | hl
    · exact absurd he.symm ((F.apart.1 y hy).2.2 x hx)
    · exact F.stable.1 y hy _ _ _ hmono (h.vals y hy hl)
  · rcases lists _ hl with he | hl
    · exact absurd he.symm ((F.apart.2.1 y hy).2 x hx)
    · exact h.cops y hy hl
  · refine ⟨B, _, h1, h2, hm, fun y hy hl => ?_, fun c u hc => ?_⟩
    · rcases lists _ hl with he | hl
      · have := F.i2 y hy x hx he
        subst this
        exact ⟨a.eval v, by simp, F.stable.2 y hy _ _ _ hmono hp⟩
      · have hyx : y.2.1 ≠ x.2.1 := by
          intro e
          rw [F.ii y hy x hx e, hfr] at hl
          cases hl
        obtain ⟨u, g1, g2⟩ := h4 y hy hl
        exact ⟨u, by simp only [if_neg hyx]; exact g1, F.stable.2 y hy _ _ _ hmono g2⟩
    · by_cases hcx : c = x.2.1
      · exact ⟨x, hx, by rw [getD_set, if_pos ⟨rfl, hxl⟩], hcx.symm⟩
      · simp only [if_neg hcx] at hc
        obtain ⟨y, hy, hl, e⟩ := h5 c u hc
        exact ⟨y, hy, listed_old _ hl, e⟩
  · rw [hmk]; exact him
  · rw [hmk]; exact him

theorem all_listed (F : L.Fits ops Q a0 w0) {listed : Array Bool} (hs : listed.size = ops.size) (hr : Region.ready .any ops listed = []) : ∀ i, i < ops.size → listed.getD i false = true := by
  intro i
  induction i using Nat.strongRecOn with
  | _ i ih =>
    intro hi
    cases hl : listed.getD i false with
    | true => rfl
    | false =>
      exfalso
      have hm : i ∈ Region.ready .any ops listed := by
        unfold Region.ready
        simp only [List.mem_filter, List.mem_range, Bool.and_eq_true, Bool.not_eq_true']
        refine ⟨hi, ?_, ?_⟩
        · simpa [Array.getD, hs, hi] using hl
        · have ho : ops[i]? = some ops[i] := Array.getElem?_eq_getElem hi
          rw [ho]
          simp only [Option.map_some, Option.getD_some, Array.all_eq_true_iff_forall_mem]
          intro e he
          have hlt := F.acyclic i _ ho e he
          rw [ih e.on hlt (by omega)]
          simp
      rw [hr] at hm
      cases hm

/-- THE LAW: behind a map literal there is a map that has just its entries. -/
theorem wp (F : L.Fits ops Q a0 w0.drew) {id : Nat} (hm : P.follows .mixedOrders = true)
    (done : ∀ (listed : Array Bool) (a : Act) (w : World), (∀ i, i < ops.size → listed.getD i false = true) → L.Inv a0 w0.drew listed a w → Q .normal a w) :
    (Code.region id ops true).wp P Q a0 w0 := by
  refine wp_region_inv hm (L.Inv a0 w0.drew) ?_ ?_ ?_
  · have h0 : ∀ j, (Array.replicate ops.size false).getD j false = false := by
      intro j
      simp only [Array.getD_eq_getD_getElem?, Array.getElem?_replicate]
      split <;> rfl
    refine ⟨rfl, rfl, Below.refl _ _, fun _ _ => rfl, fun x _ hl => ?_, fun x _ hl => ?_, fun hl => ?_, fun x _ hl => ?_, fun x _ hl => ?_⟩ <;> (rw [h0] at hl; cases hl)
  · intro listed a w i hs h hi
    have hi' := hi
    unfold Region.ready at hi'
    simp only [List.mem_filter, List.mem_range, Bool.and_eq_true, Bool.not_eq_true'] at hi'
    rcases F.cover i hi'.1 with rfl | ⟨x, hx, rfl⟩ | ⟨x, hx, rfl⟩ | ⟨x, hx, rfl⟩
    · exact step_make F hs h hi'.1 (by have := hi'.2.1; simpa [Array.getD, hs, hi'.1] using this)
    · exact step_value F h hx
    · exact step_copy F h hx hi
    · exact step_insert F h hx hi
  · intro listed a w hs h hr
    exact done listed a w (all_listed F hs hr) h
end
end MLit
end Go.Proofs.Ytnceijlphinnhaa
