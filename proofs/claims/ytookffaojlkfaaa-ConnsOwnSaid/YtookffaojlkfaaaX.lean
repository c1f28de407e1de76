/- A region that draws: what reads, and calls that leave the world as it was, are taken first. (My own law; any program.) -/
import Derived.Test.YtookffaojlkfaaaV4
import Derived.Deep.Quiet
set_option linter.unusedSimpArgs false
set_option linter.unusedVariables false
namespace Go.Proofs.Ytookffaojlkfaaa
open Go.RowKit

section
variable {P : Program} {ops : Array Oper} {md : Region.Mode}
def xUpon (P : Program) (N : Value → World → Prop) : Result Next → Prop
  | .ok (.value u) w' => N u w'
  | .ok .skip w' => N undef w'
  | .ok (.enter f args) w' => Calls P f args w' (fun e w'' => ∃ v, e = .returned v ∧ N v w'')
  | _ => False
theorem xUpon_mono {N N' : Value → World → Prop} (h : ∀ v w, N v w → N' v w) : ∀ r : Result Next, xUpon P N r → xUpon P N' r
  | .ok (.value u) w', hh => h _ _ hh
  | .ok .skip w', hh => h _ _ hh
  | .ok (.enter f args) w', hh => Calls.mono hh fun e w'' ⟨v, h1, h2⟩ => ⟨v, h1, h _ _ h2⟩
def xOp (P : Program) (ops : Array Oper) (i : Nat) (K : Act → World → Prop) (a : Act) (w : World) : Prop :=
  match ops[i]? with
  | none => K a w
  | some o => if Region.wanted o (yielded ops a.tmps) = true then xUpon P (fun v w' => K (a.put o.dst v) w') ((execOp a.eval o).run P w) else K (a.put o.dst undef) w
theorem xOp_mono {i : Nat} {a : Act} {w : World} {K K' : Act → World → Prop} (h : ∀ a w, K a w → K' a w) (hh : xOp P ops i K a w) : xOp P ops i K' a w := by
  unfold xOp at *
  split
  · exact h _ _ (by simpa [*] using hh)
  · rename_i o ho
    simp only [ho] at hh
    split
    · rename_i hw; simp only [hw, if_true] at hh; exact xUpon_mono (fun v w' h1 => h _ _ h1) _ hh
    · rename_i hw; simp only [hw] at hh; exact h _ _ hh
theorem wpOp_of_xOp {i : Nat} {a : Act} {w : World} {K : Act → World → Prop} {Q : Exit → Act → World → Prop} (hh : xOp P ops i K a w) : wpOp P ops Q i K a w := by
  unfold xOp at hh
  unfold wpOp
  split
  · rename_i ho; simp only [ho] at hh; exact hh
  · rename_i o ho
    simp only [ho] at hh
    split
    · rename_i hw
      simp only [hw, if_true] at hh
      left
      unfold Oper.wp
      generalize (execOp a.eval o).run P w = r at *
      cases r with
      | ok n w' =>
        cases n <;> simp only [xUpon] at hh <;> simp only [Oper.upon]
        case value u => exact hh
        case skip => exact hh
        case enter f args => exact hh.mono fun e w'' ⟨v, he, hw''⟩ => by subst he; exact hw''
      | halt x w' => simp only [xUpon] at hh
    · rename_i hw; simp only [hw] at hh; exact hh
/-- Whatever order is picked from here on; each operation makes new blocks alone. -/
def wpAnyX (P : Program) (md : Region.Mode) (ops : Array Oper) (Q : Act → World → Prop) : Nat → Array Bool → Act → World → Prop
  | 0, listed, a, w => Region.ready md ops listed = [] ∧ Q a w
  | fuel + 1, listed, a, w => (Region.ready md ops listed = [] → Q a w) ∧
    ∀ i ∈ Region.ready md ops listed, xOp P ops i (fun a' w' => Ext w w' ∧ wpAnyX P md ops Q fuel (listed.setIfInBounds i true) a' w') a w
theorem wpAny_of_X {Q : Act → World → Prop} {Q' : Exit → Act → World → Prop} (hQ : ∀ a w, Q a w → Q' .normal a w) : ∀ (fuel : Nat) (listed : Array Bool) (a : Act) (w : World),
    wpAnyX P md ops Q fuel listed a w → wpAny P md ops Q' fuel listed a w
  | 0, _, _, _, h => ⟨h.1, hQ _ _ h.2⟩
  | fuel + 1, _, _, _, h => ⟨fun h0 => hQ _ _ (h.1 h0), fun i hi => wpOp_of_xOp (xOp_mono (fun a' w' h1 => wpAny_of_X hQ fuel _ a' w' h1.2) (h.2 i hi))⟩
/-- In state 'a', in every world that w grows to, 'o' yields v and does nothing else. -/
def YieldsX (P : Program) (ops : Array Oper) (w : World) (o : Oper) (v : Value) (a : Act) : Prop :=
  (Region.wanted o (yielded ops a.tmps) = true ∧ ∀ w', Ext w w' → (execOp a.eval o).run P w' = .ok (.value v) w') ∨ (Region.wanted o (yielded ops a.tmps) = false ∧ v = undef) ∨
    (Region.wanted o (yielded ops a.tmps) = true ∧ ∃ f args, ∀ w', Ext w w' → (execOp a.eval o).run P w' = .ok (.enter f args) w' ∧ Calls P f args w' fun e w'' => e = .returned v ∧ w'' = w')
theorem YieldsX.later {w w' : World} {o : Oper} {v : Value} {a : Act} (h : YieldsX P ops w o v a) (e : Ext w w') : YieldsX P ops w' o v a := by
  rcases h with ⟨h1, h2⟩ | h | ⟨h1, f, args, h2⟩
  · exact .inl ⟨h1, fun w2 e2 => h2 w2 (e.tr e2)⟩
  · exact .inr (.inl h)
  · exact .inr (.inr ⟨h1, f, args, fun w2 e2 => h2 w2 (e.tr e2)⟩)
theorem YieldsX.xOp {w : World} {i : Nat} {o : Oper} {v : Value} {a : Act} (hi : ops[i]? = some o) (hy : YieldsX P ops w o v a) {K : Act → World → Prop} (h : K (a.put o.dst v) w) : xOp P ops i K a w := by
  unfold Go.Proofs.Ytookffaojlkfaaa.xOp
  simp only [hi]
  rcases hy with ⟨hw, hv⟩ | ⟨hw, rfl⟩ | ⟨hw, f, args, hv⟩
  · simp only [hw, if_true, hv w (Ext.rf _), xUpon]; exact h
  · simp only [hw, Bool.false_eq_true, if_false]; exact h
  · simp only [hw, if_true, (hv w (Ext.rf _)).1, xUpon]
    exact (hv w (Ext.rf _)).2.mono fun e w'' ⟨h1, h2⟩ => ⟨v, h1, by rw [h2]; exact h⟩
theorem xOp_put {j : Nat} {oi oj : Oper} {v : Value} {w : World} (hj : ops[j]? = some oj) (hap : oi.apart ops oj = true)
    (hsi : ∀ cs b, oi.op ≠ .select cs b) (hsj : ∀ cs b, oj.op ≠ .select cs b) {K : Act → World → Prop} {a : Act}
    (hy : YieldsX P ops w oi v a) (h : xOp P ops j K (a.put oi.dst v) w) :
    xOp P ops j (fun a' w' => YieldsX P ops w oi v a' ∧ K (a'.put oi.dst v) w') a w := by
  obtain ⟨h1, h2, h3⟩ := Oper.apart_spec hap
  have keep : ∀ u, YieldsX P ops w oi v (a.put oj.dst u) := fun u => by
    unfold YieldsX at *
    rw [execOp_put oi hsi a oj.dst u h3, wanted_put oi a oj.dst u h3]
    exact hy
  unfold xOp at *
  simp only [hj] at *
  rw [wanted_put oj a oi.dst v h1] at h
  split
  · rename_i hw
    simp only [hw, if_true] at h
    rw [execOp_put oj hsj a oi.dst v h1] at h
    exact xUpon_mono (fun u w' h4 => ⟨keep u, by rw [← Act.put_comm a v u h2]; exact h4⟩) _ h
  · rename_i hw
    simp only [hw] at h
    exact ⟨keep _, by rw [← Act.put_comm a v undef h2]; exact h⟩
/-- What reads may be taken first. -/
theorem wpAnyX_first {Q : Act → World → Prop} {i : Nat} {oi : Oper} {v : Value} (hi : ops[i]? = some oi) (hsel : ∀ (j : Nat) (o : Oper) cs b, ops[j]? = some o → o.op ≠ .select cs b) :
    ∀ (fuel : Nat) (listed : Array Bool) (a : Act) (w : World),
      (∀ j oj, ops[j]? = some oj → j ≠ i → listed.getD j true = false → (∀ e ∈ oj.after, Region.binds md e = true → e.on ≠ i) → oi.apart ops oj = true) →
      i ∈ Region.ready md ops listed → YieldsX P ops w oi v a →
      wpAnyX P md ops Q fuel (listed.setIfInBounds i true) (a.put oi.dst v) w → wpAnyX P md ops Q (fuel + 1) listed a w := by
  intro fuel
  induction fuel with
  | zero =>
    intro listed a w _ hr hy H
    refine ⟨fun h => (by rw [h] at hr; cases hr), fun j hj => ?_⟩
    by_cases hji : j = i
    · subst hji; exact hy.xOp hi ⟨Ext.rf _, H⟩
    · have := ready_mono hj hji
      rw [H.1] at this
      cases this
  | succ fuel ih =>
    intro listed a w hfree hr hy H
    refine ⟨fun h => (by rw [h] at hr; cases hr), fun j hj => ?_⟩
    by_cases hji : j = i
    · subst hji; exact hy.xOp hi ⟨Ext.rf _, H⟩
    · have h1 := H.2 j (ready_mono hj hji)
      obtain ⟨hjun, oj, hoj, hall⟩ := mem_ready.1 hj
      have hnot : ∀ e ∈ oj.after, Region.binds md e = true → e.on ≠ i := fun e he hb heq => by
        have h1 := hall e he hb
        have h0 := (mem_ready.1 hr).1
        rw [heq] at h1
        rcases Nat.lt_or_ge i listed.size with h' | h'
        · simp [h'] at h0 h1; rw [h0] at h1; cases h1
        · simp [Array.getElem?_eq_none h'] at h1
      have h2 := xOp_put hoj (hfree j oj hoj hji hjun hnot) (fun cs b => hsel i oi cs b hi) (fun cs b => hsel j oj cs b hoj) hy h1
      have hfree' : ∀ k ok, ops[k]? = some ok → k ≠ i → (listed.setIfInBounds j true).getD k true = false →
          (∀ e ∈ ok.after, Region.binds md e = true → e.on ≠ i) → oi.apart ops ok = true := fun k ok hk hki hun hno => by
        refine hfree k ok hk hki ?_ hno
        by_cases hjk : j = k
        · subst hjk; exact hjun
        · rw [getD_set_ne true hjk] at hun; exact hun
      refine xOp_mono (fun a' w' h3 => ⟨h3.2.1, ih (listed.setIfInBounds j true) a' w' hfree' (ready_mono hr (Ne.symm hji)) (h3.1.later h3.2.1) ?_⟩) h2
      have h4 := h3.2.2
      rw [Array.setIfInBounds_comm _ _ hji]
      exact h4
theorem takeC {Q : Act → World → Prop} {n k : Nat} {oi : Oper} {v : Value} {fuel : Nat} {listed : Array Bool} {a : Act} {w : World} {f : FuncId} {args : Array Value} (hi : ops[k]? = some oi) (hs : Region.noSelect ops = true)
    (hf : Region.free md ops listed k = true) (hr : (Region.ready md ops listed).contains k = true) (hw : Region.wanted oi (yielded ops a.tmps) = true)
    (he : ∀ w', Ext w w' → (execOp a.eval oi).run P w' = .ok (.enter f args) w') (hc : ∀ w', Ext w w' → Calls P f args w' fun e w'' => e = .returned v ∧ w'' = w')
    (H : wpAnyX P md ops Q fuel (listed.setIfInBounds k true) (a.put oi.dst v) w) : wpAnyX P md ops Q (fuel + 1) listed a w :=
  wpAnyX_first hi (Region.noSelect_spec hs) fuel listed a w (Region.free_spec hi hf) (by simpa using hr) (.inr (.inr ⟨hw, f, args, fun w' h => ⟨he w' h, hc w' h⟩⟩)) H
/-- What comes up alone. -/
theorem wpAnyX_sole {Q : Act → World → Prop} {i : Nat} {fuel : Nat} {listed : Array Bool} {a : Act} {w : World} (hr : Region.ready md ops listed = [i])
    (h : xOp P ops i (fun a' w' => Ext w w' ∧ wpAnyX P md ops Q fuel (listed.setIfInBounds i true) a' w') a w) : wpAnyX P md ops Q (fuel + 1) listed a w :=
  by
    refine ⟨fun h0 => ?_, fun j hj => ?_⟩
    · rw [hr] at h0; cases h0
    · rw [hr] at hj
      obtain rfl : j = i := by simpa using hj
      exact h
theorem takeX {Q : Act → World → Prop} {i : Nat} {oi : Oper} {v : Value} {fuel : Nat} {listed : Array Bool} {a : Act} {w : World} (hi : ops[i]? = some oi) (hs : Region.noSelect ops = true)
    (hf : Region.free md ops listed i = true) (hr : (Region.ready md ops listed).contains i = true) (hw : Region.wanted oi (yielded ops a.tmps) = true)
    (hy : ∀ w', Ext w w' → (execOp a.eval oi).run P w' = .ok (.value v) w')
    (H : wpAnyX P md ops Q fuel (listed.setIfInBounds i true) (a.put oi.dst v) w) : wpAnyX P md ops Q (fuel + 1) listed a w :=
  wpAnyX_first hi (Region.noSelect_spec hs) fuel listed a w (Region.free_spec hi hf) (by simpa using hr) (.inl ⟨hw, hy⟩) H
theorem soleX {Q : Act → World → Prop} {i : Nat} {oi : Oper} {fuel : Nat} {listed : Array Bool} {a : Act} {w : World} (hi : ops[i]? = some oi) (hr : Region.ready md ops listed = [i]) (hw : Region.wanted oi (yielded ops a.tmps) = true)
    (H : xUpon P (fun v w' => Ext w w' ∧ wpAnyX P md ops Q fuel (listed.setIfInBounds i true) (a.put oi.dst v) w') ((execOp a.eval oi).run P w)) : wpAnyX P md ops Q (fuel + 1) listed a w :=
  wpAnyX_sole hr (by unfold xOp; simp only [hi, hw, if_true]; exact H)
theorem doneX {Q : Act → World → Prop} {fuel : Nat} {listed : Array Bool} {a : Act} {w : World} (hr : Region.ready md ops listed = []) (H : Q a w) : wpAnyX P md ops Q fuel listed a w := by
  cases fuel with
  | zero => exact ⟨hr, H⟩
  | succ n => exact ⟨fun _ => H, fun i hi => by rw [hr] at hi; cases hi⟩
theorem wp_region_X {id : Nat} {Q : Exit → Act → World → Prop} {a : Act} {w : World} (hm : P.follows .mixedOrders = true)
    (h : wpAnyX P .any ops (fun a w => Q .normal a w) ops.size (Array.replicate ops.size false) a w.drew) : (Code.region id ops true).wp P Q a w :=
  wp_region_any hm (wpAny_of_X (fun _ _ h => h) _ _ _ _ h)
/-- A call that comes up alone. -/
theorem callX {Q : Act → World → Prop} {i : Nat} {oi : Oper} {v : Value} {f : FuncId} {args : Array Value} {fuel : Nat} {listed : Array Bool} {a : Act} {w : World} (hi : ops[i]? = some oi) (hr : Region.ready md ops listed = [i]) (hw : Region.wanted oi (yielded ops a.tmps) = true)
    (he : (execOp a.eval oi).run P w = .ok (.enter f args) w) (hc : Calls P f args w fun e w' => e = .returned v ∧ Ext w w')
    (H : ∀ w', Ext w w' → wpAnyX P md ops Q fuel (listed.setIfInBounds i true) (a.put oi.dst v) w') : wpAnyX P md ops Q (fuel + 1) listed a w := by
  refine soleX hi hr hw ?_
  rw [he]
  exact hc.mono fun e w' h => ⟨v, h.1, h.2, H w' h.2⟩
/-- An operation that makes memory and comes up alone. -/
theorem makeX {Q : Act → World → Prop} {i : Nat} {oi : Oper} {v : Value} {fuel : Nat} {listed : Array Bool} {a : Act} {w w1 : World} (hi : ops[i]? = some oi) (hr : Region.ready md ops listed = [i]) (hw : Region.wanted oi (yielded ops a.tmps) = true)
    (he : (execOp a.eval oi).run P w = .ok (.value v) w1) (hE : Ext w w1)
    (H : wpAnyX P md ops Q fuel (listed.setIfInBounds i true) (a.put oi.dst v) w1) : wpAnyX P md ops Q (fuel + 1) listed a w := by
  refine soleX hi hr hw ?_
  rw [he]
  exact ⟨hE, H⟩
end
/-- A region of a code, by its number. -/
def findR (n : Nat) : Code → Option (Array Oper)
  | .region id ops _ => if id = n then some ops else none
  | .seq a b => match findR n a with | some o => some o | none => findR n b
  | .cond _ a b => match findR n a with | some o => some o | none => findR n b
  | .block _ b => findR n b
  | .loop b => findR n b
  | .rangeFunc _ _ a b => match findR n a with | some o => some o | none => findR n b
  | .scope b => findR n b
  | _ => none
/-- The first k of n operations are done. -/
def lst (n k : Nat) : Array Bool := ((List.range n).map fun j => decide (j < k)).toArray
theorem lst_set (n k : Nat) : (lst n k).setIfInBounds k true = lst n (k + 1) := by
  unfold lst
  refine Array.ext_getElem? fun i => ?_
  rw [Array.getElem?_setIfInBounds]
  by_cases hi : i < n
  · by_cases h : k = i
    · subst h; simp [hi]
    · simp [h, hi, show (i < k + 1) = (i < k) from propext ⟨fun h => by omega, fun h => by omega⟩]
  · by_cases h : k = i
    · subst h; simp [hi]
    · simp [h, hi]
theorem lst_two (n k : Nat) : ((lst n k).setIfInBounds (k + 1) true).setIfInBounds k true = lst n (k + 2) := by
  rw [Array.setIfInBounds_comm _ _ (by omega), lst_set, lst_set]
theorem lst_zero (n : Nat) : Array.replicate n false = lst n 0 := by
  unfold lst
  refine Array.ext_getElem? fun i => ?_
  by_cases hi : i < n <;> simp [hi, Array.getElem?_replicate]
/-- May come up, of the first k being done. -/
def upX (ops : Array Oper) (listed : Array Bool) (k : Nat) : Bool := decide (k < ops.size) && (!listed.getD k true && ((ops[k]?).map (·.after.all fun e => !Region.binds .any e || listed.getD e.on false)).getD false)
theorem upX_ready {ops : Array Oper} {listed : Array Bool} {k : Nat} (h : upX ops listed k = true) : (Region.ready .any ops listed).contains k = true := by
  unfold upX at h
  rw [Bool.and_eq_true, decide_eq_true_eq] at h
  rw [List.contains_iff_mem]
  unfold Region.ready
  rw [List.mem_filter, List.mem_range]
  exact h
def okX (ops : Array Oper) (n k : Nat) : Bool := Region.free .any ops (lst n k) k && upX ops (lst n k) k
/-- The operations are taken in the text's order, but those in l. -/
def schedX (ops : Array Oper) (n : Nat) (l : List Nat) (lo hi : Nat) : Bool := (List.range hi).all fun k => decide (k < lo) || l.contains k || okX ops n k
theorem schedX_at {ops : Array Oper} {n lo hi k : Nat} {l : List Nat} (h : schedX ops n l lo hi = true) (h1 : lo ≤ k) (h2 : k < hi) (h3 : l.contains k = false) : okX ops n k = true := by
  unfold schedX at h
  have := List.all_eq_true.1 h k (List.mem_range.2 h2)
  rw [h3, decide_eq_false (by omega)] at this
  simpa using this
theorem takeL {P : Program} {ops : Array Oper} {Q : Act → World → Prop} {n k : Nat} {oi : Oper} {v : Value} {fuel : Nat} {a : Act} {w : World} (hs : Region.noSelect ops = true) (hok : okX ops n k = true) (hi : ops[k]? = some oi) (hw : Region.wanted oi (yielded ops a.tmps) = true)
    (hy : ∀ w', Ext w w' → (execOp a.eval oi).run P w' = .ok (.value v) w')
    (H : wpAnyX P .any ops Q fuel (lst n (k + 1)) (a.put oi.dst v) w) : wpAnyX P .any ops Q (fuel + 1) (lst n k) a w := by
  unfold okX at hok
  rw [Bool.and_eq_true] at hok
  refine takeX hi hs hok.1 (upX_ready hok.2) hw hy ?_
  rw [lst_set]
  exact H
theorem callL {P : Program} {ops : Array Oper} {Q : Act → World → Prop} {n k : Nat} {oi : Oper} {v : Value} {f : FuncId} {args : Array Value} {fuel : Nat} {a : Act} {w : World} (hr : Region.ready .any ops (lst n k) = [k]) (hi : ops[k]? = some oi) (hw : Region.wanted oi (yielded ops a.tmps) = true)
    (he : (execOp a.eval oi).run P w = .ok (.enter f args) w) (hc : Calls P f args w fun e w' => e = .returned v ∧ Ext w w')
    (H : ∀ w', Ext w w' → wpAnyX P .any ops Q fuel (lst n (k + 1)) (a.put oi.dst v) w') : wpAnyX P .any ops Q (fuel + 1) (lst n k) a w :=
  callX hi hr hw he hc fun w' h => by rw [lst_set]; exact H w' h
theorem makeL {P : Program} {ops : Array Oper} {Q : Act → World → Prop} {n k : Nat} {oi : Oper} {v : Value} {fuel : Nat} {a : Act} {w w1 : World} (hr : Region.ready .any ops (lst n k) = [k]) (hi : ops[k]? = some oi) (hw : Region.wanted oi (yielded ops a.tmps) = true)
    (he : (execOp a.eval oi).run P w = .ok (.value v) w1) (hE : Ext w w1)
    (H : wpAnyX P .any ops Q fuel (lst n (k + 1)) (a.put oi.dst v) w1) : wpAnyX P .any ops Q (fuel + 1) (lst n k) a w :=
  makeX hi hr hw he hE (by rw [lst_set]; exact H)
theorem takeCL {P : Program} {ops : Array Oper} {Q : Act → World → Prop} {n k : Nat} {oi : Oper} {v : Value} {fuel : Nat} {a : Act} {w : World} {f : FuncId} {args : Array Value} (hs : Region.noSelect ops = true) (hok : okX ops n k = true) (hi : ops[k]? = some oi) (hw : Region.wanted oi (yielded ops a.tmps) = true)
    (he : ∀ w', Ext w w' → (execOp a.eval oi).run P w' = .ok (.enter f args) w') (hc : ∀ w', Ext w w' → Calls P f args w' fun e w'' => e = .returned v ∧ w'' = w')
    (H : wpAnyX P .any ops Q fuel (lst n (k + 1)) (a.put oi.dst v) w) : wpAnyX P .any ops Q (fuel + 1) (lst n k) a w := by
  unfold okX at hok
  rw [Bool.and_eq_true] at hok
  refine takeC (n := n) hi hs hok.1 (upX_ready hok.2) hw he hc ?_
  rw [lst_set]
  exact H
theorem withL {P : Program} {ops E : Array Oper} {Q : Act → World → Prop} {n : Nat} {a : Act} {w : World} {R : Array Oper → Prop} (h : ops = E) (hR : R E) (hf : ops.size = n)
    (H : R ops → wpAnyX P .any ops Q n (lst n 0) a w) : wpAnyX P .any ops Q ops.size (Array.replicate ops.size false) a w := by
  rw [hf, lst_zero]; exact H (h ▸ hR)

end Go.Proofs.Ytookffaojlkfaaa
