/- Maps that a function makes and fills in one statement, in whatever order: what they hold behind it. Any program. -/
import Derived.WalkKit
import Derived.WalkSpells
import Derived.MapKept
import Derived.Orders
namespace Go.Proofs.Ytnceijlphinnhaa
open Go.RowKit

/-- Values of which K holds serve as keys of type kt, and are found by what they are. -/
structure Keys (P : Program) (kt : TypeId) (K : Value → Prop) : Prop where
  check : ∀ (w : World) (em : Bool) {x : Value}, K x → (Instr.checkKey em 10000 kt x).run P w = .ok () w
  find : ∀ (w : World) {x : Value}, K x → ∀ es : List MapEntry, (∀ e ∈ es, K e.key) →
    ((Instr.findKey kt x es).run P w = .ok none w ∧ ∀ e ∈ es, e.key ≠ x) ∨ ∃ j e, (Instr.findKey kt x es).run P w = .ok (some (j, e.val)) w ∧ es[j]? = some e ∧ e.key = x

/-- A byte is found by its number. -/
theorem keys_int {P : Program} {kt : TypeId} (k : IntKind) (hu : P.underlying kt = some (.int k)) : Keys P kt (fun x => ∃ n : Int, x = .int k n) where
  check := by
    rintro w em x ⟨n, rfl⟩
    exact MapKept.run_checkKey hu (by simp [MapKept.IsKey]) em 9999
  find := by
    rintro w x ⟨n, rfl⟩ es hes
    have key : ∀ (es : List MapEntry) (i : Nat), (∀ e ∈ es, ∃ n : Int, e.key = .int k n) →
        (Instr.findNow (.int k) (.int k n) es i = some none ∧ ∀ e ∈ es, e.key ≠ .int k n) ∨ ∃ j e, Instr.findNow (.int k) (.int k n) es i = some (some (i + j, e.val)) ∧ es[j]? = some e ∧ e.key = .int k n := by
      intro es
      induction es with
      | nil => intro i _; exact .inl ⟨rfl, by simp⟩
      | cons e es ih =>
        intro i h
        obtain ⟨n', he⟩ := h e (by simp)
        by_cases hn : n = n'
        · subst hn
          exact .inr ⟨0, e, by simp [Instr.findNow, he, Instr.sameNow], rfl, he⟩
        · rcases ih (i + 1) (fun e' h' => h e' (by simp [h'])) with ⟨h1, h2⟩ | ⟨j, e', h1, h2, h3⟩
          · have hb : (n == n') = false := by simpa using hn
            refine .inl ⟨by simp [Instr.findNow, he, Instr.sameNow, hb, h1], ?_⟩
            intro e' h'
            rcases List.mem_cons.1 h' with rfl | h'
            · rw [he]; simp; exact fun h => hn h.symm
            · exact h2 e' h'
          · refine .inr ⟨j + 1, e', ?_, by simpa using h2, h3⟩
            have hb : (n == n') = false := by simpa using hn
            simp only [Instr.findNow, he, Instr.sameNow, if_true, hb, h1]
            congr 3
            omega
    rcases key es 0 hes with ⟨h1, h2⟩ | ⟨j, e, h1, h2, h3⟩
    · exact .inl ⟨MapKept.run_findKey hu h1, h2⟩
    · exact .inr ⟨j, e, by have := MapKept.run_findKey (P := P) (w := w) hu h1; simpa using this, h2, h3⟩

/-- Block B is a map that has for each key what f tells. -/
def MapIs (K : Value → Prop) (w : World) (B : Nat) (f : Value → Option Value) : Prop :=
  ∃ (es : Array MapEntry) (clk : Nat), w.heap[B]? = some (.map es clk) ∧ (∀ e ∈ es.toList, K e.key ∧ f e.key = some e.val) ∧ ∀ x v, f x = some v → ∃ e ∈ es.toList, e.key = x

theorem MapIs.new {K : Value → Prop} (w : World) : MapIs K (w.alloc (.map #[] 0)) w.heap.size (fun _ => none) :=
  ⟨#[], 0, by show (w.heap.push _)[w.heap.size]? = _; simp, by simp, by simp⟩

theorem MapIs.keep {K : Value → Prop} {w w' : World} {B : Nat} {f : Value → Option Value} (h : MapIs K w B f) (hb : w'.heap[B]? = w.heap[B]?) : MapIs K w' B f := by
  obtain ⟨es, clk, h1, h2, h3⟩ := h
  exact ⟨es, clk, hb.trans h1, h2, h3⟩

section
variable {P : Program} {t kt et : TypeId} {K : Value → Prop}
theorem MapIs.look (L : Keys P kt K) (ht : P.underlying t = some (.map kt et)) {w : World} {B : Nat} {f : Value → Option Value} (h : MapIs K w B f) {x : Value} (hx : K x) (z : Value) (hz : (zeroValue et).run P w = .ok z w) :
    (Instr.lookup t (.map (some B)) x false).run P w = .ok ((f x).getD z) w := by
  obtain ⟨es, clk, h1, h2, h3⟩ := h
  rcases L.find w hx es.toList (fun e he => (h2 e he).1) with ⟨g1, g2⟩ | ⟨j, e, g1, g2, g3⟩
  · have hn : f x = none := by
      cases hf : f x with
      | none => rfl
      | some v => obtain ⟨e, he, hk⟩ := h3 x v hf; exact absurd hk (g2 e he)
    simp [Instr.lookup, run_underlying ht, MapKept.run_getObj_map h1, L.check w _ hx, g1, hz, hn, Result.andThen]
  · have he : e ∈ es.toList := List.mem_of_getElem? g2
    have hv : f x = some e.val := by rw [← g3]; exact (h2 e he).2
    simp [Instr.lookup, run_underlying ht, MapKept.run_getObj_map h1, L.check w _ hx, g1, hv, Result.andThen]

theorem MapIs.store (L : Keys P kt K) (ht : P.underlying t = some (.map kt et)) {w : World} {B : Nat} {f : Value → Option Value} (h : MapIs K w B f) {x : Value} (hx : K x) (hn : f x = none) (v : Value) :
    ∃ w' : World, (Instr.mapUpdate t (.map (some B)) x v).run P w = .ok () w' ∧ MapIs K w' B (fun y => open Classical in if y = x then some v else f y) ∧
      w'.os = w.os ∧ w'.tape = w.tape ∧ w'.output = w.output ∧ w'.heap.size = w.heap.size ∧ ∀ k, k ≠ B → w'.heap[k]? = w.heap[k]? := by
  obtain ⟨es, clk, h1, h2, h3⟩ := h
  have hlt : B < w.heap.size := by
    rcases Nat.lt_or_ge B w.heap.size with h | h
    · exact h
    · rw [Array.getElem?_eq_none h] at h1; cases h1
  rcases L.find w hx es.toList (fun e he => (h2 e he).1) with ⟨g1, g2⟩ | ⟨j, e, g1, g2, g3⟩
  · refine ⟨{ w with heap := w.heap.setIfInBounds B (.map (es.push { key := x, val := v, born := clk }) (clk + 1)) }, ?_, ⟨es.push { key := x, val := v, born := clk }, clk + 1, ?_, ?_, ?_⟩, rfl, rfl, rfl, ?_, ?_⟩
    · simp [Instr.mapUpdate, run_underlying ht, MapKept.run_getObj_map h1, L.check w _ hx, g1, MapKept.run_setObj_map _ h1, Result.andThen]
    · simp [hlt]
    · intro e he
      simp only [Array.toList_push, List.mem_append, List.mem_singleton] at he
      rcases he with he | rfl
      · refine ⟨(h2 e he).1, ?_⟩
        simp only [if_neg (g2 e he)]
        exact (h2 e he).2
      · exact ⟨hx, by simp⟩
    · intro y u hy
      by_cases hyx : y = x
      · exact ⟨{ key := x, val := v, born := clk }, by simp, hyx.symm⟩
      · simp only [if_neg hyx] at hy
        obtain ⟨e, he, hk⟩ := h3 y u hy
        exact ⟨e, by simp [he], hk⟩
    · simp
    · intro k hk
      simp [Ne.symm hk]
  · have he : e ∈ es.toList := List.mem_of_getElem? g2
    have := (h2 e he).2
    rw [g3, hn] at this
    cases this
end

/-! ### A region in whatever order, by what holds of what has come up -/
section
variable {P : Program} {ops : Array Oper} {Q : Exit → Act → World → Prop} {md : Region.Mode}

theorem count_set {l : Array Bool} {i : Nat} (h : i < l.size) (hf : l.getD i true = false) : (l.setIfInBounds i true).toList.count false + 1 = l.toList.count false := by
  have e : l[i] = false := by simpa [Array.getD, h] using hf
  have h' : i < l.toList.length := by simpa using h
  rw [Array.toList_setIfInBounds, List.count_set h']
  have e' : l.toList[i] = false := by simpa using e
  have hpos : 0 < l.toList.count false := List.count_pos_iff.2 (by rw [← e']; exact List.getElem_mem h')
  have k1 : (if (false == false) = true then 1 else 0) = 1 := rfl
  have k2 : (if (true == false) = true then 1 else 0) = 0 := rfl
  rw [e', k1, k2]
  omega

theorem wpAny_inv (Inv : Array Bool → Act → World → Prop)
    (step : ∀ (listed : Array Bool) (a : Act) (w : World) (i : Nat), listed.size = ops.size → Inv listed a w → i ∈ Region.ready md ops listed → wpOp P ops Q i (Inv (listed.setIfInBounds i true)) a w)
    (done : ∀ (listed : Array Bool) (a : Act) (w : World), listed.size = ops.size → Inv listed a w → Region.ready md ops listed = [] → Q .normal a w) :
    ∀ (fuel : Nat) (listed : Array Bool) (a : Act) (w : World), listed.size = ops.size → listed.toList.count false ≤ fuel → Inv listed a w → wpAny P md ops Q fuel listed a w := by
  intro fuel
  induction fuel with
  | zero =>
    intro listed a w hs hc hi
    have hr : Region.ready md ops listed = [] := by
      unfold Region.ready
      rw [List.filter_eq_nil_iff]
      intro i hi'
      have hlt : i < listed.size := by rw [hs]; simpa using hi'
      have hne : listed.getD i true ≠ false := by
        intro h
        have e : listed[i] = false := by simpa [Array.getD, hlt] using h
        have : 0 < listed.toList.count false := List.count_pos_iff.2 (by rw [← e]; simp)
        omega
      simp at hne
      simp [hne]
    exact ⟨hr, done listed a w hs hi hr⟩
  | succ fuel ih =>
    intro listed a w hs hc hi
    refine ⟨fun hr => done listed a w hs hi hr, fun i hm => ?_⟩
    refine wpOp_mono (fun a' w' h' => ?_) (step listed a w i hs hi hm)
    have hm' := hm
    unfold Region.ready at hm'
    simp only [List.mem_filter, List.mem_range, Bool.and_eq_true, Bool.not_eq_true'] at hm'
    have := count_set (l := listed) (i := i) (by rw [hs]; exact hm'.1) hm'.2.1
    exact ih _ a' w' (by simpa using hs) (by omega) h'

/-- A region that draws its order, by an invariant. -/
theorem wp_region_inv {id : Nat} {a : Act} {w : World} (hm : P.follows .mixedOrders = true) (Inv : Array Bool → Act → World → Prop)
    (start : Inv (Array.replicate ops.size false) a w.drew)
    (step : ∀ (listed : Array Bool) (a : Act) (w : World) (i : Nat), listed.size = ops.size → Inv listed a w → i ∈ Region.ready .any ops listed → wpOp P ops Q i (Inv (listed.setIfInBounds i true)) a w)
    (done : ∀ (listed : Array Bool) (a : Act) (w : World), listed.size = ops.size → Inv listed a w → Region.ready .any ops listed = [] → Q .normal a w) :
    (Code.region id ops true).wp P Q a w :=
  wp_region_any hm (wpAny_inv Inv step done _ _ _ _ (by simp) (by simp) start)
end
end Go.Proofs.Ytnceijlphinnhaa
