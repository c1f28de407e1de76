/- A range over a function whose iterator keeps state of its own in cells: THE LAW, of any program. -/
import Derived.Test.YtookffaojlkfaaaA
import Derived.RangeFuncNested
set_option linter.unusedSimpArgs false
set_option linter.unusedVariables false
namespace Go.Proofs.Ytookffaojlkfaaa
open Go.RowKit

/-- From A to B only blocks of C, and new ones, have changed. -/
structure Mv (C : Nat → Prop) (A B : World) : Prop where
  os : B.os = A.os
  tape : B.tape = A.tape
  output : B.output = A.output
  size : A.heap.size ≤ B.heap.size
  same : ∀ k, k < A.heap.size → ¬ C k → B.heap[k]? = A.heap[k]?
theorem Mv.refl (C : Nat → Prop) (A : World) : Mv C A A := ⟨rfl, rfl, rfl, Nat.le_refl _, fun _ _ _ => rfl⟩
theorem Mv.trans {C : Nat → Prop} {X Y Z : World} (h : Mv C X Y) (k : Mv C Y Z) : Mv C X Z :=
  ⟨k.os.trans h.os, k.tape.trans h.tape, k.output.trans h.output, Nat.le_trans h.size k.size, fun i hi hc => (k.same i (Nat.lt_of_lt_of_le hi h.size) hc).trans (h.same i hi hc)⟩
theorem Mv.mono {C D : Nat → Prop} {A B : World} (h : Mv C A B) (hd : ∀ k, k < A.heap.size → C k → D k) : Mv D A B :=
  ⟨h.os, h.tape, h.output, h.size, fun k hk hn => h.same k hk (fun hc => hn (hd k hk hc))⟩
theorem Mv.of_ext {C : Nat → Prop} {A B : World} (h : Ext A B) : Mv C A B := ⟨h.os, h.tape, h.output, h.size, fun k hk _ => h.block k hk⟩
theorem Mv.ext {C : Nat → Prop} {w A : World} (h : Mv C w A) (hc : ∀ k, k < w.heap.size → ¬ C k) : Ext w A :=
  ⟨h.os, h.tape, h.output, h.size, fun k hk => h.same k hk (hc k hk)⟩
/-- What comes behind the blocks of w is free, if C's are. -/
theorem Mv.ext_of {C : Nat → Prop} {w A B : World} (h : Ext w A) (m : Mv C A B) (hc : ∀ k, C k → w.heap.size ≤ k) : Ext w B :=
  h.trans ⟨m.os, m.tape, m.output, m.size, fun k hk => m.same k (Nat.lt_of_lt_of_le hk h.size) (fun c => by have := hc k c; omega)⟩
theorem Mv.st {C : Nat → Prop} {A B : World} {b i : Nat} (v : Value) (hb : C b ∨ A.heap.size ≤ b) (h : Mv C A B) : Mv C A (B.setCell ⟨b, i, none⟩ v) :=
  ⟨h.os, h.tape, h.output, by simpa using h.size, fun k hk hc => by
    have hne : k ≠ b := fun e => by subst e; rcases hb with h1 | h1; exact hc h1; omega
    rw [← h.same k hk hc]
    simp only [World.setCell, Array.getElem?_modify]
    rw [if_neg (fun e => hne e.symm)]⟩
theorem Mv.al {C : Nat → Prop} {A B : World} (o : Obj) (h : Mv C A B) : Mv C A (B.alloc o) :=
  h.trans (Mv.of_ext (Ext.al (Ext.rf _) o))
theorem Mv.dr {C : Nat → Prop} {A B : World} (h : Mv C A B) : Mv C A B.drew := h.trans (Mv.of_ext (Ext.dr (Ext.rf _)))
theorem Mv.tr {C : Nat → Prop} {A B B' : World} (h : Mv C A B) (e : Ext B B') : Mv C A B' := h.trans (Mv.of_ext e)
theorem Mv.put {C : Nat → Prop} (A : World) (l : Nat) (o : Obj) (hl : C l) : Mv C A (A.putObj l o) :=
  ⟨rfl, rfl, rfl, by simp, fun k _ hc => World.putObj_heap_other (fun e => hc (e ▸ hl))⟩

/-- THE CONTRACT OF AN ITERATOR: it hands over xs, one by one, until it is told to stop; it turns its own blocks T and new ones; it leans on what lies ahead of w's end but for U, which the rounds may turn. -/
def Iter {α : Type} (F : Fence) (n : Nat) (P : Program) (g : Nat) (lb : Array Value) (encs : α → Array Value) (T U : Nat → Prop) (xs : List α) (w : World) : Prop :=
  ∀ (l : Nat) (J : Nat → World → Prop) (Jx : World → Prop) (W : World), Ext w W →
    (∀ i A B, J i A → Mv T A B → J i B) → (∀ A B, Jx A → Mv T A B → Jx B) →
    (∃ (fn : FuncId) (tm : Array Value → Array Value) (assign body : Code), ∀ i x W1, J i W1 → xs[i]? = some x →
      (Instr.yield l (encs x)).run P W1 = .ok (.round l fn (tm (encs x)) assign body) W1 ∧
      RoundIn F (n - 1) P l fn (tm (encs x)) assign body W1 fun e W' => ∃ b : Bool, e = .returned (.bool b) ∧ ((b = true ∧ J (i + 1) W' ∧ Mv (fun k => U k ∨ w.heap.size ≤ k) W1 W') ∨ (b = false ∧ Jx W'))) →
    J 0 W →
    CallsIn F n P g (#[.func (.yield l) #[] #[]] ++ lb) W fun e W' => (∃ v, e = .returned v) ∧ (J xs.length W' ∨ Jx W')

/-- HOW THE BODY OF A ROUND MAY BE LEFT. -/
def bodyP (U : Nat → Prop) (B : Nat) (I : Nat → World → Prop) (Ix : Code → World → Prop) (i : Nat) (W : World) : Exit → Act → World → Prop
  | .normal, _, W' => Mv (fun k => U k ∨ B ≤ k) W W' ∧ I (i + 1) W'
  | .ret, _, W' => Mv (fun k => U k ∨ B ≤ k) W W' ∧ Ix .ret W'
  | .exit id, _, W' => Mv (fun k => U k ∨ B ≤ k) W W' ∧ Ix (.exit id) W'
  | .goto t, _, W' => Mv (fun k => U k ∨ B ≤ k) W W' ∧ Ix (.goto t) W'
  | .panic _, _, _ => False
  | .outgrown, _, _ => False

theorem wpIn_range {α : Type} {F : Fence} {n : Nat} {P : Program} {g : Operand} {ps : Array Tmp} {assign body : Code} {Q : Exit → Act → World → Prop} {a : Act} {w : World}
    (hro : F.round = none) (h1 : 1 ≤ n) {gf : Nat} {lb : Array Value} (hg : a.eval g = .func (.func gf) #[] lb) (hFg : F.fn gf) (eg : ∀ args w, (callFunc gf args).run P w = .ok (.enter gf args) w)
    {encs : α → Array Value} {T U : Nat → Prop} {xs : List α} (hseq : Iter F (n - 1) P gf lb encs T U xs w)
    (hT : ∀ k, T k → k < w.heap.size) (hU : ∀ k, U k → k < w.heap.size) (hps : ∀ x, (encs x).size = ps.size)
    (I : Nat → World → Prop) (Ix : Code → World → Prop) (hI : ∀ i A B, I i A → Mv (fun k => T k ∨ k = w.heap.size ∨ k = w.heap.size + 1) A B → I i B)
    (hIx : ∀ c A B, Ix c A → Mv (fun k => T k ∨ k = w.heap.size ∨ k = w.heap.size + 1) A B → Ix c B) (h0 : I 0 w)
    (Ax : α → Act → World → Prop) (hAx : ∀ x a' A B, Ax x a' A → Mv (fun k => k = w.heap.size + 1) A B → Ax x a' B)
    (hassign : ∀ (l i : Nat) (x : α) (W : World) (K : Act → World → Prop), w.heap.size + 2 ≤ W.heap.size → Mv (fun k => T k ∨ U k) w W → I i W → xs[i]? = some x →
      (∀ a' W', Mv (fun k => U k ∨ w.heap.size + 2 ≤ k) W W' → I i W' → Ax x a' W' → K a' W') →
      assign.wpIn (F.inRound l) (n - 1 - 1) P (Exit.then K (fun _ _ _ => False)) { tmps := (ps.zip (encs x)).foldl (fun t (p, v) => t.setIfInBounds p v) a.tmps, defers := [] } W)
    (hbody : ∀ (l i : Nat) (x : α) (a' : Act) (W : World), w.heap.size ≤ l → (∃ r, W.heap[l]? = some (.loop r)) → w.heap.size + 2 ≤ W.heap.size → Mv (fun k => T k ∨ U k) w W → I i W → xs[i]? = some x → Ax x a' W →
      body.wpIn (F.inRound l) (n - 1 - 1) P (bodyP U (w.heap.size + 2) I Ix i W) a' W)
    (hdone : ∀ (W : World), I xs.length W → Mv (fun k => T k ∨ U k) w W → W.heap[w.heap.size]? = some (.deferred (some [])) → Q .normal { a with defers := { target := .collected w.heap.size, args := #[] } :: a.defers } W)
    (hstop : ∀ (c : Code) (W : World), Ix c W → Mv (fun k => T k ∨ U k) w W → W.heap[w.heap.size]? = some (.deferred (some [])) → c.wpIn F n P Q { a with defers := { target := .collected w.heap.size, args := #[] } :: a.defers } W) :
    (Code.rangeFunc g ps assign body).wpIn F n P Q a w := by
  refine wpIn_rangeFunc ?_
  intro fn hfn
  rw [hro]
  obtain ⟨rec, hrec⟩ : ∃ rec : LoopState → Option Code → Loop, rec = fun st pe => { state := st, pending := pe, fn, tmps := a.tmps, params := ps, assign, body, defers := w.heap.size } := ⟨_, rfl⟩
  obtain ⟨W1, hW1⟩ : ∃ W1, (w.alloc (.deferred (some []))).alloc (.loop (rec .ready none)) = W1 := ⟨_, rfl⟩
  have hL1 : W1.heap[w.heap.size + 1]? = some (.loop (rec .ready none)) := by
    rw [← hW1]; have := World.alloc_heap_new (w.alloc (.deferred (some []))) (.loop (rec .ready none)); rwa [World.size_alloc] at this
  have hK1 : W1.heap[w.heap.size]? = some (.deferred (some [])) := by
    rw [← hW1]; exact (Below.heap_alloc _ _ _ (by simp)).trans (World.alloc_heap_new w _)
  have hb1 : Ext w W1 := by rw [← hW1]; exact Ext.al (Ext.al (Ext.rf _) _) _
  have hI1 : I 0 W1 := hI 0 _ _ h0 (Mv.of_ext hb1)
  refine ⟨w.heap.size + 1, [{ target := .collected w.heap.size, args := #[] }], W1, { target := .fn (.func gf) lb, args := #[.func (.yield (w.heap.size + 1)) #[] #[]] }, W1, gf,
    #[.func (.yield (w.heap.size + 1)) #[] #[]] ++ lb, W1, ?_, ?_, ?_, ?_, fun _ => h1, ?_⟩
  · rw [← hW1, hrec]; exact run_enterLoop_outer _ _ _ _ _
  · simp only [resolve, hg]
    simp [go_sem]
  · intro f' hf'; simp [Target.leads] at hf'; subst hf'; exact hFg
  · simp [invoke, go_sem, eg]
  · have hsame : ∀ {k : Nat} {A B : World} {o : Obj}, w.heap.size ≤ k → A.heap[k]? = some o → Mv T A B → B.heap[k]? = some o := fun hk ha hm =>
      (hm.same _ (Array.getElem?_eq_some_iff.1 ha).1 (fun ht => by have := hT _ ht; omega)).trans ha
    refine (hseq (w.heap.size + 1)
      (fun i W => I i W ∧ Mv (fun k => T k ∨ U k) w W ∧ W.heap[w.heap.size + 1]? = some (.loop (rec .ready none)) ∧ W.heap[w.heap.size]? = some (.deferred (some [])))
      (fun W => ∃ c, Ix c W ∧ Mv (fun k => T k ∨ U k) w W ∧ W.heap[w.heap.size + 1]? = some (.loop (rec .done (some c))) ∧ W.heap[w.heap.size]? = some (.deferred (some [])))
      W1 hb1
      (fun i A B hs hm => ⟨hI i A B hs.1 (hm.mono fun _ _ h => .inl h), hs.2.1.trans (hm.mono fun _ _ h => .inl h), hsame (by omega) hs.2.2.1 hm, hsame (Nat.le_refl _) hs.2.2.2 hm⟩)
      (fun A B hs hm => by
        obtain ⟨c, hc, hv, hl, hk⟩ := hs
        exact ⟨c, hIx c A B hc (hm.mono fun _ _ h => .inl h), hv.trans (hm.mono fun _ _ h => .inl h), hsame (by omega) hl hm, hsame (Nat.le_refl _) hk hm⟩)
      ?_ ⟨hI1, Mv.of_ext hb1, hL1, hK1⟩).mono ?_
    · refine ⟨fn, fun args => (ps.zip args).foldl (fun t (p, v) => t.setIfInBounds p v) a.tmps, assign, body, ?_⟩
      rintro i x W ⟨hi, hv, hl, hk⟩ hx
      have hlt : w.heap.size + 1 < W.heap.size := (Array.getElem?_eq_some_iff.1 hl).1
      have hy := run_yield (P := P) (args := encs x) hl (by rw [hrec]; exact hps x)
      rw [hrec] at hy
      refine ⟨hy, roundIn_of_wpIn hfn (hassign _ i x W _ (by omega) hv hi hx ?_)⟩
      clear hy
      intro a' Wa hma hia hax
      have keepU : ∀ {k : Nat} {A B : World} {o : Obj}, w.heap.size ≤ k → k < w.heap.size + 2 → A.heap[k]? = some o → Mv (fun k => U k ∨ w.heap.size + 2 ≤ k) A B → B.heap[k]? = some o := fun hk1 hk2 ha hm =>
        (hm.same _ (Array.getElem?_eq_some_iff.1 ha).1 (fun ht => by rcases ht with ht | ht; (have := hU _ ht; omega); omega)).trans ha
      have hla := keepU (by omega) (by omega) hl hma
      have hka := keepU (Nat.le_refl _) (by omega) hk hma
      have hva : Mv (fun k => T k ∨ U k) w Wa :=
        ⟨hma.os.trans hv.os, hma.tape.trans hv.tape, hma.output.trans hv.output, Nat.le_trans hv.size hma.size, fun k hk hc => (hma.same k (Nat.lt_of_lt_of_le hk hv.size) (fun hh => by rcases hh with hh | hh; exact hc (.inr hh); omega)).trans (hv.same k hk hc)⟩
      have hlta : w.heap.size + 1 < Wa.heap.size := (Array.getElem?_eq_some_iff.1 hla).1
      refine ⟨_, run_beginRound hla (by rw [hrec]), ?_⟩
      have hput : ∀ (A : World) (o : Obj), Mv (fun k => k = w.heap.size + 1) A (A.putObj (w.heap.size + 1) o) := fun A o => Mv.put A _ o rfl
      have hputT : ∀ (A : World) (o : Obj), Mv (fun k => T k ∨ k = w.heap.size ∨ k = w.heap.size + 1) A (A.putObj (w.heap.size + 1) o) := fun A o => Mv.put A _ o (.inr (.inr rfl))
      have hputV : ∀ (A : World) (o : Obj), Mv (fun k => T k ∨ U k) w A → Mv (fun k => T k ∨ U k) w (A.putObj (w.heap.size + 1) o) := fun A o h =>
        ⟨h.os, h.tape, h.output, by simpa using h.size, fun k hk hc => (World.putObj_heap_other (by omega)).trans (h.same k hk hc)⟩
      obtain ⟨Wb, hWb⟩ : ∃ Wb, Wb = Wa.putObj (w.heap.size + 1) (.loop { rec .ready none with state := .busy }) := ⟨_, rfl⟩
      rw [← hWb]
      have hl2 : Wb.heap[w.heap.size + 1]? = some (.loop { rec .ready none with state := .busy }) := by rw [hWb]; exact World.putObj_heap_same hlta
      have hk2 : Wb.heap[w.heap.size]? = some (.deferred (some [])) := by rw [hWb]; exact (World.putObj_heap_other (by omega)).trans hka
      have hvb : Mv (fun k => T k ∨ U k) w Wb := by rw [hWb]; exact hputV _ _ hva
      have hib : I i Wb := by rw [hWb]; exact hI _ _ _ hia (hputT _ _)
      have haxb : Ax x a' Wb := by rw [hWb]; exact hAx _ _ _ _ hax (hput _ _)
      have hsb : w.heap.size + 2 ≤ Wb.heap.size := by rw [hWb]; simp; omega
      refine wpIn_mono (hbody (w.heap.size + 1) i x a' Wb (by omega) ⟨_, hl2⟩ hsb hvb hib hx haxb) ?_
      have fin : ∀ (jump : Option Code) (W3 : World), Mv (fun k => U k ∨ w.heap.size + 2 ≤ k) Wb W3 →
          (Instr.endRound (w.heap.size + 1) jump).run P W3 = .ok (.bool jump.isNone) (W3.putObj (w.heap.size + 1) (.loop (rec (if jump.isNone then .ready else .done) jump))) ∧
          Mv (fun k => T k ∨ U k) w (W3.putObj (w.heap.size + 1) (.loop (rec (if jump.isNone then .ready else .done) jump))) ∧
          (W3.putObj (w.heap.size + 1) (.loop (rec (if jump.isNone then .ready else .done) jump))).heap[w.heap.size + 1]? = some (.loop (rec (if jump.isNone then .ready else .done) jump)) ∧
          (W3.putObj (w.heap.size + 1) (.loop (rec (if jump.isNone then .ready else .done) jump))).heap[w.heap.size]? = some (.deferred (some [])) := fun jump W3 hm3 => by
        have hl3 := keepU (by omega) (by omega) hl2 hm3
        have := run_endRound (P := P) jump hl3
        rw [hrec] at this ⊢
        refine ⟨this, ?_, World.putObj_heap_same (Array.getElem?_eq_some_iff.1 hl3).1, (World.putObj_heap_other (by omega)).trans (keepU (Nat.le_refl _) (by omega) hk2 hm3)⟩
        exact hputV _ _ ⟨hm3.os.trans hvb.os, hm3.tape.trans hvb.tape, hm3.output.trans hvb.output, Nat.le_trans hvb.size hm3.size, fun k hk hc => (hm3.same k (Nat.lt_of_lt_of_le hk hvb.size) (fun hh => by rcases hh with hh | hh; exact hc (.inr hh); omega)).trans (hvb.same k hk hc)⟩
      rintro e a3 W3 hp
      cases e with
      | normal =>
        obtain ⟨hm3, hi3⟩ := hp
        obtain ⟨hr, hv4, hl4, hk4⟩ := fin none W3 hm3
        refine ⟨_, _, hr, true, rfl, .inl ⟨rfl, ⟨hI _ _ _ hi3 (hputT _ _), hv4, hl4, hk4⟩, ?_⟩⟩
        have e1 : Mv (fun k => U k ∨ w.heap.size ≤ k) W Wa := hma.mono fun k _ h => h.imp id (fun h => by omega)
        have e2 : Mv (fun k => U k ∨ w.heap.size ≤ k) Wa Wb := by rw [hWb]; exact (hput _ _).mono fun k _ h => .inr (by omega)
        have e3 : Mv (fun k => U k ∨ w.heap.size ≤ k) Wb W3 := hm3.mono fun k _ h => h.imp id (fun h => by omega)
        exact ((e1.trans e2).trans e3).trans ((hput _ _).mono fun k _ h => .inr (by omega))
      | ret =>
        obtain ⟨hm3, hi3⟩ := hp
        obtain ⟨hr, hv4, hl4, hk4⟩ := fin (some .ret) W3 hm3
        exact ⟨_, _, hr, false, rfl, .inr ⟨rfl, .ret, hIx _ _ _ hi3 (hputT _ _), hv4, hl4, hk4⟩⟩
      | exit id =>
        obtain ⟨hm3, hi3⟩ := hp
        obtain ⟨hr, hv4, hl4, hk4⟩ := fin (some (.exit id)) W3 hm3
        exact ⟨_, _, hr, false, rfl, .inr ⟨rfl, .exit id, hIx _ _ _ hi3 (hputT _ _), hv4, hl4, hk4⟩⟩
      | goto t =>
        obtain ⟨hm3, hi3⟩ := hp
        obtain ⟨hr, hv4, hl4, hk4⟩ := fin (some (.goto t)) W3 hm3
        exact ⟨_, _, hr, false, rfl, .inr ⟨rfl, .goto t, hIx _ _ _ hi3 (hputT _ _), hv4, hl4, hk4⟩⟩
      | panic ch => exact hp.elim
      | outgrown => exact hp.elim
    · have hputT : ∀ (A : World) (o : Obj), Mv (fun k => T k ∨ k = w.heap.size ∨ k = w.heap.size + 1) A (A.putObj (w.heap.size + 1) o) := fun A o => Mv.put A _ o (.inr (.inr rfl))
      have hputV : ∀ (A : World) (o : Obj), Mv (fun k => T k ∨ U k) w A → Mv (fun k => T k ∨ U k) w (A.putObj (w.heap.size + 1) o) := fun A o h =>
        ⟨h.os, h.tape, h.output, by simpa using h.size, fun k hk hc => (World.putObj_heap_other (by omega)).trans (h.same k hk hc)⟩
      rintro e W2 ⟨⟨v, rfl⟩, (⟨hi, hv, hl, hk⟩ | ⟨c, hi, hv, hl, hk⟩)⟩
      · exact ⟨none, _, by have := run_endLoop (P := P) hl (by rw [hrec]; simp); rw [hrec] at this; exact this, hdone _ (hI _ _ _ hi (hputT _ _)) (hputV _ _ hv) ((World.putObj_heap_other (by omega)).trans hk)⟩
      · exact ⟨some c, _, by have := run_endLoop (P := P) hl (by rw [hrec]; simp); rw [hrec] at this; exact this, hstop c _ (hIx _ _ _ hi (hputT _ _)) (hputV _ _ hv) ((World.putObj_heap_other (by omega)).trans hk)⟩

end Go.Proofs.Ytookffaojlkfaaa
