/- A region that draws, whose operations turn blocks of C alone: what reads is taken first, calls and appends come in whatever order. (My own law; any program.) -/
import Derived.Test.YtookffaojlkfaaaX
import Derived.Test.YtookffaojlkfaaaZ2
set_option linter.unusedSimpArgs false
set_option linter.unusedVariables false
namespace Go.Proofs.Ytookffaojlkfaaa
open Go.RowKit
section
variable {P : Program} {ops : Array Oper} {md : Region.Mode} {C : Nat → Prop}
def xUponK (P : Program) (N : Value → World → Prop) : Result Next → Prop
  | .ok (.value u) w' => N u w'
  | .ok .skip w' => N undef w'
  | .ok (.enter f args) w' => Calls P f args w' (fun e w'' => ∃ v, e = .returned v ∧ N v w'')
  | _ => False
theorem xUponK_mono {N N' : Value → World → Prop} (h : ∀ v w, N v w → N' v w) : ∀ r : Result Next, xUponK P N r → xUponK P N' r
  | .ok (.value u) w', hh => h _ _ hh
  | .ok .skip w', hh => h _ _ hh
  | .ok (.enter f args) w', hh => Calls.mono hh fun e w'' ⟨v, h1, h2⟩ => ⟨v, h1, h _ _ h2⟩
def xOpK (P : Program) (ops : Array Oper) (i : Nat) (K : Act → World → Prop) (a : Act) (w : World) : Prop :=
  match ops[i]? with
  | none => K a w
  | some o => if Region.wanted o (yielded ops a.tmps) = true then xUponK P (fun v w' => K (a.put o.dst v) w') ((execOp a.eval o).run P w) else K (a.put o.dst undef) w
theorem xOpK_mono {i : Nat} {a : Act} {w : World} {K K' : Act → World → Prop} (h : ∀ a w, K a w → K' a w) (hh : xOpK P ops i K a w) : xOpK P ops i K' a w := by
  unfold xOpK at *
  split
  · exact h _ _ (by simpa [*] using hh)
  · rename_i o ho
    simp only [ho] at hh
    split
    · rename_i hw; simp only [hw, if_true] at hh; exact xUponK_mono (fun v w' h1 => h _ _ h1) _ hh
    · rename_i hw; simp only [hw] at hh; exact h _ _ hh
theorem wpOp_of_xOpK {i : Nat} {a : Act} {w : World} {K : Act → World → Prop} {Q : Exit → Act → World → Prop} (hh : xOpK P ops i K a w) : wpOp P ops Q i K a w := by
  unfold xOpK at hh
  unfold wpOp
  split
  · rename_i ho; simp only [ho] at hh; exact hh
  · rename_i o ho
    simp only [ho] at hh
    split
    · rename_i hw
      simp only [hw, if_true] at hh
      left
      unfold Oper.wp
      generalize (execOp a.eval o).run P w = r at *
      cases r with
      | ok n w' =>
        cases n <;> simp only [xUponK] at hh <;> simp only [Oper.upon]
        case value u => exact hh
        case skip => exact hh
        case enter f args => exact hh.mono fun e w'' ⟨v, he, hw''⟩ => by subst he; exact hw''
      | halt x w' => simp only [xUponK] at hh
    · rename_i hw; simp only [hw] at hh; exact hh
/-- Whatever order is picked from here on; each operation makes new blocks alone. -/
def wpAnyK (C : Nat → Prop) (P : Program) (md : Region.Mode) (ops : Array Oper) (Q : Act → World → Prop) : Nat → Array Bool → Act → World → Prop
  | 0, listed, a, w => Region.ready md ops listed = [] ∧ Q a w
  | fuel + 1, listed, a, w => (Region.ready md ops listed = [] → Q a w) ∧
    ∀ i ∈ Region.ready md ops listed, xOpK P ops i (fun a' w' => Mv C w w' ∧ wpAnyK C P md ops Q fuel (listed.setIfInBounds i true) a' w') a w
theorem wpAny_of_K {Q : Act → World → Prop} {Q' : Exit → Act → World → Prop} (hQ : ∀ a w, Q a w → Q' .normal a w) : ∀ (fuel : Nat) (listed : Array Bool) (a : Act) (w : World),
    wpAnyK C P md ops Q fuel listed a w → wpAny P md ops Q' fuel listed a w
  | 0, _, _, _, h => ⟨h.1, hQ _ _ h.2⟩
  | fuel + 1, _, _, _, h => ⟨fun h0 => hQ _ _ (h.1 h0), fun i hi => wpOp_of_xOpK (xOpK_mono (fun a' w' h1 => wpAny_of_K hQ fuel _ a' w' h1.2) (h.2 i hi))⟩
/-- In state 'a', in every world that w grows to, 'o' yields v and does nothing else. -/
def YieldsK (C : Nat → Prop) (P : Program) (ops : Array Oper) (w : World) (o : Oper) (v : Value) (a : Act) : Prop :=
  (Region.wanted o (yielded ops a.tmps) = true ∧ ∀ w', Mv C w w' → (execOp a.eval o).run P w' = .ok (.value v) w') ∨ (Region.wanted o (yielded ops a.tmps) = false ∧ v = undef) ∨
    (Region.wanted o (yielded ops a.tmps) = true ∧ ∃ f args, ∀ w', Mv C w w' → (execOp a.eval o).run P w' = .ok (.enter f args) w' ∧ Calls P f args w' fun e w'' => e = .returned v ∧ w'' = w')
theorem YieldsK.later {w w' : World} {o : Oper} {v : Value} {a : Act} (h : YieldsK C P ops w o v a) (e : Mv C w w') : YieldsK C P ops w' o v a := by
  rcases h with ⟨h1, h2⟩ | h | ⟨h1, f, args, h2⟩
  · exact .inl ⟨h1, fun w2 e2 => h2 w2 (e.trans e2)⟩
  · exact .inr (.inl h)
  · exact .inr (.inr ⟨h1, f, args, fun w2 e2 => h2 w2 (e.trans e2)⟩)
theorem YieldsK.xOpK {w : World} {i : Nat} {o : Oper} {v : Value} {a : Act} (hi : ops[i]? = some o) (hy : YieldsK C P ops w o v a) {K : Act → World → Prop} (h : K (a.put o.dst v) w) : xOpK P ops i K a w := by
  unfold Go.Proofs.Ytookffaojlkfaaa.xOpK
  simp only [hi]
  rcases hy with ⟨hw, hv⟩ | ⟨hw, rfl⟩ | ⟨hw, f, args, hv⟩
  · simp only [hw, if_true, hv w (Mv.refl _ _), xUponK]; exact h
  · simp only [hw, Bool.false_eq_true, if_false]; exact h
  · simp only [hw, if_true, (hv w (Mv.refl _ _)).1, xUponK]
    exact (hv w (Mv.refl _ _)).2.mono fun e w'' ⟨h1, h2⟩ => ⟨v, h1, by rw [h2]; exact h⟩
theorem xOpK_put {j : Nat} {oi oj : Oper} {v : Value} {w : World} (hj : ops[j]? = some oj) (hap : oi.apart ops oj = true)
    (hsi : ∀ cs b, oi.op ≠ .select cs b) (hsj : ∀ cs b, oj.op ≠ .select cs b) {K : Act → World → Prop} {a : Act}
    (hy : YieldsK C P ops w oi v a) (h : xOpK P ops j K (a.put oi.dst v) w) :
    xOpK P ops j (fun a' w' => YieldsK C P ops w oi v a' ∧ K (a'.put oi.dst v) w') a w := by
  obtain ⟨h1, h2, h3⟩ := Oper.apart_spec hap
  have keep : ∀ u, YieldsK C P ops w oi v (a.put oj.dst u) := fun u => by
    unfold YieldsK at *
    rw [execOp_put oi hsi a oj.dst u h3, wanted_put oi a oj.dst u h3]
    exact hy
  unfold xOpK at *
  simp only [hj] at *
  rw [wanted_put oj a oi.dst v h1] at h
  split
  · rename_i hw
    simp only [hw, if_true] at h
    rw [execOp_put oj hsj a oi.dst v h1] at h
    exact xUponK_mono (fun u w' h4 => ⟨keep u, by rw [← Act.put_comm a v u h2]; exact h4⟩) _ h
  · rename_i hw
    simp only [hw] at h
    exact ⟨keep _, by rw [← Act.put_comm a v undef h2]; exact h⟩
/-- What reads may be taken first. -/
theorem wpAnyK_first {Q : Act → World → Prop} {i : Nat} {oi : Oper} {v : Value} (hi : ops[i]? = some oi) (hsel : ∀ (j : Nat) (o : Oper) cs b, ops[j]? = some o → o.op ≠ .select cs b) :
    ∀ (fuel : Nat) (listed : Array Bool) (a : Act) (w : World),
      (∀ j oj, ops[j]? = some oj → j ≠ i → listed.getD j true = false → (∀ e ∈ oj.after, Region.binds md e = true → e.on ≠ i) → oi.apart ops oj = true) →
      i ∈ Region.ready md ops listed → YieldsK C P ops w oi v a →
      wpAnyK C P md ops Q fuel (listed.setIfInBounds i true) (a.put oi.dst v) w → wpAnyK C P md ops Q (fuel + 1) listed a w := by
  intro fuel
  induction fuel with
  | zero =>
    intro listed a w _ hr hy H
    refine ⟨fun h => (by rw [h] at hr; cases hr), fun j hj => ?_⟩
    by_cases hji : j = i
    · subst hji; exact hy.xOpK hi ⟨Mv.refl _ _, H⟩
    · have := ready_mono hj hji
      rw [H.1] at this
      cases this
  | succ fuel ih =>
    intro listed a w hfree hr hy H
    refine ⟨fun h => (by rw [h] at hr; cases hr), fun j hj => ?_⟩
    by_cases hji : j = i
    · subst hji; exact hy.xOpK hi ⟨Mv.refl _ _, H⟩
    · have h1 := H.2 j (ready_mono hj hji)
      obtain ⟨hjun, oj, hoj, hall⟩ := mem_ready.1 hj
      have hnot : ∀ e ∈ oj.after, Region.binds md e = true → e.on ≠ i := fun e he hb heq => by
        have h1 := hall e he hb
        have h0 := (mem_ready.1 hr).1
        rw [heq] at h1
        rcases Nat.lt_or_ge i listed.size with h' | h'
        · simp [h'] at h0 h1; rw [h0] at h1; cases h1
        · simp [Array.getElem?_eq_none h'] at h1
      have h2 := xOpK_put hoj (hfree j oj hoj hji hjun hnot) (fun cs b => hsel i oi cs b hi) (fun cs b => hsel j oj cs b hoj) hy h1
      have hfree' : ∀ k ok, ops[k]? = some ok → k ≠ i → (listed.setIfInBounds j true).getD k true = false →
          (∀ e ∈ ok.after, Region.binds md e = true → e.on ≠ i) → oi.apart ops ok = true := fun k ok hk hki hun hno => by
        refine hfree k ok hk hki ?_ hno
        by_cases hjk : j = k
        · subst hjk; exact hjun
        · rw [getD_set_ne true hjk] at hun; exact hun
      refine xOpK_mono (fun a' w' h3 => ⟨h3.2.1, ih (listed.setIfInBounds j true) a' w' hfree' (ready_mono hr (Ne.symm hji)) (h3.1.later h3.2.1) ?_⟩) h2
      have h4 := h3.2.2
      rw [Array.setIfInBounds_comm _ _ hji]
      exact h4
theorem takeK {Q : Act → World → Prop} {i : Nat} {oi : Oper} {v : Value} {fuel : Nat} {listed : Array Bool} {a : Act} {w : World} (hi : ops[i]? = some oi) (hs : Region.noSelect ops = true)
    (hf : Region.free md ops listed i = true) (hr : (Region.ready md ops listed).contains i = true) (hw : Region.wanted oi (yielded ops a.tmps) = true)
    (hy : ∀ w', Mv C w w' → (execOp a.eval oi).run P w' = .ok (.value v) w')
    (H : wpAnyK C P md ops Q fuel (listed.setIfInBounds i true) (a.put oi.dst v) w) : wpAnyK C P md ops Q (fuel + 1) listed a w :=
  wpAnyK_first hi (Region.noSelect_spec hs) fuel listed a w (Region.free_spec hi hf) (by simpa using hr) (.inl ⟨hw, hy⟩) H
theorem doneK {Q : Act → World → Prop} {fuel : Nat} {listed : Array Bool} {a : Act} {w : World} (hr : Region.ready md ops listed = []) (H : Q a w) : wpAnyK C P md ops Q fuel listed a w := by
  cases fuel with
  | zero => exact ⟨hr, H⟩
  | succ n => exact ⟨fun _ => H, fun i hi => by rw [hr] at hi; cases hi⟩
theorem wp_region_K {id : Nat} {Q : Exit → Act → World → Prop} {a : Act} {w : World} (C : Nat → Prop) (hm : P.follows .mixedOrders = true)
    (h : wpAnyK C P .any ops (fun a w => Q .normal a w) ops.size (Array.replicate ops.size false) a w.drew) : (Code.region id ops true).wp P Q a w :=
  wp_region_any hm (wpAny_of_K (fun _ _ h => h) _ _ _ _ h)
/-- Those of l are done. -/
def don (n : Nat) (l : List Nat) : Array Bool := ((List.range n).map fun j => l.contains j).toArray
theorem don_set (n k : Nat) (l : List Nat) : (don n l).setIfInBounds k true = don n (k :: l) := by
  unfold don
  refine Array.ext_getElem? fun i => ?_
  rw [Array.getElem?_setIfInBounds]
  by_cases hi : i < n
  · by_cases h : k = i
    · subst h; simp [hi]
    · have h' : ¬ i = k := fun e => h e.symm
      simp [h, h', hi]
  · by_cases h : k = i
    · subst h; simp [hi]
    · simp [h, hi]
theorem don_zero (n : Nat) : Array.replicate n false = don n [] := by
  unfold don
  refine Array.ext_getElem? fun i => ?_
  by_cases hi : i < n <;> simp [hi, Array.getElem?_replicate]
/-- These may be taken one behind the other. -/
def takesB (ops : Array Oper) (n : Nat) : List Nat → List Nat → Bool
  | [], _ => true
  | k :: rest, d => Region.free .any ops (don n d) k && upX ops (don n d) k && takesB ops n rest (k :: d)
theorem takeD {Q : Act → World → Prop} {N k : Nat} {d rest : List Nat} {oi : Oper} {v : Value} {fuel : Nat} {a : Act} {w : World} (hs : Region.noSelect ops = true) (ht : takesB ops N (k :: rest) d = true)
    (hi : ops[k]? = some oi) (hw : Region.wanted oi (yielded ops a.tmps) = true) (hy : ∀ w', Mv C w w' → (execOp a.eval oi).run P w' = .ok (.value v) w')
    (H : takesB ops N rest (k :: d) = true → wpAnyK C P .any ops Q fuel (don N (k :: d)) (a.put oi.dst v) w) : wpAnyK C P .any ops Q (fuel + 1) (don N d) a w := by
  unfold takesB at ht
  simp only [Bool.and_eq_true] at ht
  obtain ⟨⟨t1, t2⟩, t5⟩ := ht
  refine takeK hi hs t1 (upX_ready t2) hw hy ?_
  rw [don_set]
  exact H t5
/-- One operation, and then the others. -/
def stepK (C : Nat → Prop) (P : Program) (ops : Array Oper) (Q : Act → World → Prop) (fuel N k : Nat) (d : List Nat) (a : Act) (w : World) : Prop :=
  xOpK P ops k (fun a' w' => Mv C w w' ∧ wpAnyK C P .any ops Q fuel (don N (k :: d)) a' w') a w
theorem soleD {Q : Act → World → Prop} {N k : Nat} {d : List Nat} {fuel : Nat} {a : Act} {w : World} (hr : Region.ready .any ops (don N d) = [k]) (H : stepK C P ops Q fuel N k d a w) : wpAnyK C P .any ops Q (fuel + 1) (don N d) a w := by
  refine ⟨fun h0 => ?_, fun j hj => ?_⟩
  · rw [hr] at h0; cases h0
  · rw [hr] at hj
    obtain rfl : j = k := by simpa using hj
    rw [don_set]
    exact H
theorem forkD {Q : Act → World → Prop} {N i j : Nat} {d : List Nat} {fuel : Nat} {a : Act} {w : World} (hr : Region.ready .any ops (don N d) = [i, j]) (Hi : stepK C P ops Q fuel N i d a w) (Hj : stepK C P ops Q fuel N j d a w) : wpAnyK C P .any ops Q (fuel + 1) (don N d) a w := by
  refine ⟨fun h0 => ?_, fun k hk => ?_⟩
  · rw [hr] at h0; cases h0
  · rw [hr] at hk
    have hk' : k = i ∨ k = j := by simpa using hk
    rw [don_set]
    rcases hk' with rfl | rfl
    · exact Hi
    · exact Hj
theorem makeD {Q : Act → World → Prop} {N k : Nat} {d : List Nat} {oi : Oper} {v : Value} {fuel : Nat} {a : Act} {w w1 : World} (hi : ops[k]? = some oi) (hw : Region.wanted oi (yielded ops a.tmps) = true)
    (he : (execOp a.eval oi).run P w = .ok (.value v) w1) (hE : Mv C w w1) (H : wpAnyK C P .any ops Q fuel (don N (k :: d)) (a.put oi.dst v) w1) : stepK C P ops Q fuel N k d a w := by
  unfold stepK xOpK
  simp only [hi, hw, if_true, he]
  exact ⟨hE, H⟩
theorem callD {R : Value → World → Prop} {Q : Act → World → Prop} {N k : Nat} {d : List Nat} {oi : Oper} {f : FuncId} {args : Array Value} {fuel : Nat} {a : Act} {w : World} (hi : ops[k]? = some oi) (hw : Region.wanted oi (yielded ops a.tmps) = true)
    (he : (execOp a.eval oi).run P w = .ok (.enter f args) w) (hc : Calls P f args w fun e w' => ∃ v, e = .returned v ∧ R v w' ∧ Ext w w')
    (H : ∀ v w', Ext w w' → R v w' → wpAnyK C P .any ops Q fuel (don N (k :: d)) (a.put oi.dst v) w') : stepK C P ops Q fuel N k d a w := by
  unfold stepK xOpK
  simp only [hi, hw, if_true, he]
  exact hc.mono fun e w' ⟨v, h1, h2, h3⟩ => ⟨v, h1, Mv.of_ext h3, H v w' h3 h2⟩
theorem withK {P : Program} {ops E : Array Oper} {Q : Act → World → Prop} {N : Nat} {a : Act} {w : World} {R : Array Oper → Prop} (h : ops = E) (hR : R E) (hf : ops.size = N)
    (H : R ops → wpAnyK C P .any ops Q N (don N []) a w) : wpAnyK C P .any ops Q ops.size (Array.replicate ops.size false) a w := by
  rw [hf, don_zero]; exact H (h ▸ hR)
end

end Go.Proofs.Ytookffaojlkfaaa
