/- A region that draws, in a round, that turns blocks of C alone, but for one operation: what reads is taken first. (My own law; any program.) -/
import Derived.Test.YtookffaojlkfaaaXR
set_option linter.unusedSimpArgs false
set_option linter.unusedVariables false
namespace Go.Proofs.Ytookffaojlkfaaa
open Go.RowKit
section
variable {P : Program} {ops : Array Oper} {md : Region.Mode} {n : Nat} {r : Nat} {F : Fence} {C : Nat → Prop}
def xUponW (P : Program) (N : Value → World → Prop) : Result Next → Prop
  | .ok (.value u) w' => N u w'
  | .ok .skip w' => N undef w'
  | _ => False
theorem xUponW_mono {N N' : Value → World → Prop} (h : ∀ v w, N v w → N' v w) : ∀ r : Result Next, xUponW P N r → xUponW P N' r
  | .ok (.value u) w', hh => h _ _ hh
  | .ok .skip w', hh => h _ _ hh
def xOpW (P : Program) (ops : Array Oper) (i : Nat) (K : Act → World → Prop) (a : Act) (w : World) : Prop :=
  match ops[i]? with
  | none => K a w
  | some o => if Region.wanted o (yielded ops a.tmps) = true then xUponW P (fun v w' => K (a.put o.dst v) w') ((execOp a.eval o).run P w) else K (a.put o.dst undef) w
theorem xOpW_mono {i : Nat} {a : Act} {w : World} {K K' : Act → World → Prop} (h : ∀ a w, K a w → K' a w) (hh : xOpW P ops i K a w) : xOpW P ops i K' a w := by
  unfold xOpW at *
  split
  · exact h _ _ (by simpa [*] using hh)
  · rename_i o ho
    simp only [ho] at hh
    split
    · rename_i hw; simp only [hw, if_true] at hh; exact xUponW_mono (fun v w' h1 => h _ _ h1) _ hh
    · rename_i hw; simp only [hw] at hh; exact h _ _ hh
theorem wpOpIn_of_W {i : Nat} {a : Act} {w : World} {K : Act → World → Prop} {Q : Exit → Act → World → Prop} (hF : ∀ f, F.fn f) (hd : ∀ o, ops[i]? = some o → ∀ c, o.op ≠ .defer c) (hh : xOpW P ops i K a w) : wpOpIn F n P ops Q i K a w := by
  unfold xOpW at hh
  unfold wpOpIn
  split
  · rename_i ho; simp only [ho] at hh; exact hh
  · rename_i o ho
    simp only [ho] at hh
    split
    · rename_i hw
      simp only [hw, if_true] at hh
      refine ⟨fun f _ => hF f, ?_⟩
      have hs : Oper.semAt F.round a.eval o = execOp a.eval o := by
        cases F.round with
        | none => rfl
        | some l => exact Oper.semAt_some l _ _ (hd o ho)
      rw [hs]
      generalize (execOp a.eval o).run P w = q at *
      cases q with
      | ok x w' =>
        cases x <;> simp only [xUponW] at hh <;> simp only [Oper.uponIn]
        case value u => exact hh
        case skip => exact hh
      | halt x w' => simp only [xUponW] at hh
    · rename_i hw; simp only [hw] at hh; exact ⟨fun f _ => hF f, hh⟩
/-- Whatever order is picked from here on; each operation but r makes new blocks alone. -/
def wpAnyW (C : Nat → Prop) (P : Program) (md : Region.Mode) (ops : Array Oper) (r : Nat) (Q : Act → World → Prop) : Nat → Array Bool → Act → World → Prop
  | 0, listed, a, w => Region.ready md ops listed = [] ∧ Q a w
  | fuel + 1, listed, a, w => (Region.ready md ops listed = [] → Q a w) ∧
    ∀ i ∈ Region.ready md ops listed, xOpW P ops i (fun a' w' => (i = r ∨ Mv C w w') ∧ wpAnyW C P md ops r Q fuel (listed.setIfInBounds i true) a' w') a w
theorem wpAnyIn_of_W {Q : Act → World → Prop} {Q' : Exit → Act → World → Prop} (hF : ∀ f, F.fn f) (hd : ∀ (i : Nat) o, ops[i]? = some o → ∀ c, o.op ≠ .defer c) (hQ : ∀ a w, Q a w → Q' .normal a w) : ∀ (fuel : Nat) (listed : Array Bool) (a : Act) (w : World),
    wpAnyW C P md ops r Q fuel listed a w → wpAnyIn F n P md ops Q' fuel listed a w
  | 0, _, _, _, h => ⟨h.1, hQ _ _ h.2⟩
  | fuel + 1, _, _, _, h => ⟨fun h0 => hQ _ _ (h.1 h0), fun i hi => wpOpIn_of_W hF (hd i) (xOpW_mono (fun a' w' h1 => wpAnyIn_of_W hF hd hQ fuel _ a' w' h1.2) (h.2 i hi))⟩
/-- In state 'a', in every world that w grows to, 'o' yields v and does nothing else. -/
def YieldsW (C : Nat → Prop) (P : Program) (ops : Array Oper) (w : World) (o : Oper) (v : Value) (a : Act) : Prop :=
  (Region.wanted o (yielded ops a.tmps) = true ∧ ∀ w', Mv C w w' → (execOp a.eval o).run P w' = .ok (.value v) w') ∨ (Region.wanted o (yielded ops a.tmps) = false ∧ v = undef)
theorem YieldsW.later {w w' : World} {o : Oper} {v : Value} {a : Act} (h : YieldsW C P ops w o v a) (e : Mv C w w') : YieldsW C P ops w' o v a := by
  rcases h with ⟨h1, h2⟩ | h
  · exact .inl ⟨h1, fun w2 e2 => h2 w2 (e.trans e2)⟩
  · exact .inr h
theorem YieldsW.xOp {w : World} {i : Nat} {o : Oper} {v : Value} {a : Act} (hi : ops[i]? = some o) (hy : YieldsW C P ops w o v a) {K : Act → World → Prop} (h : K (a.put o.dst v) w) : xOpW P ops i K a w := by
  unfold xOpW
  simp only [hi]
  rcases hy with ⟨hw, hv⟩ | ⟨hw, rfl⟩
  · simp only [hw, if_true, hv w (Mv.refl _ _), xUponW]; exact h
  · simp only [hw, Bool.false_eq_true, if_false]; exact h
theorem xOpW_put {j : Nat} {oi oj : Oper} {v : Value} {w : World} (hj : ops[j]? = some oj) (hap : oi.apart ops oj = true)
    (hsi : ∀ cs b, oi.op ≠ .select cs b) (hsj : ∀ cs b, oj.op ≠ .select cs b) {K : Act → World → Prop} {a : Act}
    (hy : YieldsW C P ops w oi v a) (h : xOpW P ops j K (a.put oi.dst v) w) :
    xOpW P ops j (fun a' w' => YieldsW C P ops w oi v a' ∧ K (a'.put oi.dst v) w') a w := by
  obtain ⟨h1, h2, h3⟩ := Oper.apart_spec hap
  have keep : ∀ u, YieldsW C P ops w oi v (a.put oj.dst u) := fun u => by
    unfold YieldsW at *
    rw [execOp_put oi hsi a oj.dst u h3, wanted_put oi a oj.dst u h3]
    exact hy
  unfold xOpW at *
  simp only [hj] at *
  rw [wanted_put oj a oi.dst v h1] at h
  split
  · rename_i hw
    simp only [hw, if_true] at h
    rw [execOp_put oj hsj a oi.dst v h1] at h
    exact xUponW_mono (fun u w' h4 => ⟨keep u, by rw [← Act.put_comm a v u h2]; exact h4⟩) _ h
  · rename_i hw
    simp only [hw] at h
    exact ⟨keep _, by rw [← Act.put_comm a v undef h2]; exact h⟩
/-- What reads may be taken first, where the round waits for it. -/
theorem wpAnyW_first {Q : Act → World → Prop} {i : Nat} {oi : Oper} {v : Value} {l : List Nat} (hi : ops[i]? = some oi) (hsel : ∀ (j : Nat) (o : Oper) cs b, ops[j]? = some o → o.op ≠ .select cs b)
    (hwt : waitsB md ops (i :: l) = true) (hla : (i :: l).getLast? = some r) (hir : i ≠ r) :
    ∀ (fuel : Nat) (listed : Array Bool) (a : Act) (w : World), closedX md ops listed →
      (∀ j oj, ops[j]? = some oj → j ≠ i → listed.getD j true = false → (∀ e ∈ oj.after, Region.binds md e = true → e.on ≠ i) → oi.apart ops oj = true) →
      i ∈ Region.ready md ops listed → YieldsW C P ops w oi v a →
      wpAnyW C P md ops r Q fuel (listed.setIfInBounds i true) (a.put oi.dst v) w → wpAnyW C P md ops r Q (fuel + 1) listed a w := by
  intro fuel
  induction fuel with
  | zero =>
    intro listed a w _ _ hr hy H
    refine ⟨fun h => (by rw [h] at hr; cases hr), fun j hj => ?_⟩
    by_cases hji : j = i
    · subst hji; exact hy.xOp hi ⟨.inr (Mv.refl _ _), H⟩
    · have := ready_mono hj hji
      rw [H.1] at this
      cases this
  | succ fuel ih =>
    intro listed a w hcl hfree hr hy H
    refine ⟨fun h => (by rw [h] at hr; cases hr), fun j hj => ?_⟩
    by_cases hji : j = i
    · subst hji; exact hy.xOp hi ⟨.inr (Mv.refl _ _), H⟩
    · have hjr : j ≠ r := fun e => by
        subst e
        have h1 := waits_listed hcl hj l i hwt hla hir
        have h0 := (mem_ready.1 hr).1
        rcases Nat.lt_or_ge i listed.size with h' | h'
        · simp [h'] at h0 h1; rw [h0] at h1; cases h1
        · simp [Array.getElem?_eq_none h'] at h1
      have h1 := H.2 j (ready_mono hj hji)
      obtain ⟨hjun, oj, hoj, hall⟩ := mem_ready.1 hj
      have hnot : ∀ e ∈ oj.after, Region.binds md e = true → e.on ≠ i := fun e he hb heq => by
        have h1 := hall e he hb
        have h0 := (mem_ready.1 hr).1
        rw [heq] at h1
        rcases Nat.lt_or_ge i listed.size with h' | h'
        · simp [h'] at h0 h1; rw [h0] at h1; cases h1
        · simp [Array.getElem?_eq_none h'] at h1
      have h2 := xOpW_put hoj (hfree j oj hoj hji hjun hnot) (fun cs b => hsel i oi cs b hi) (fun cs b => hsel j oj cs b hoj) hy h1
      have hfree' : ∀ k ok, ops[k]? = some ok → k ≠ i → (listed.setIfInBounds j true).getD k true = false →
          (∀ e ∈ ok.after, Region.binds md e = true → e.on ≠ i) → oi.apart ops ok = true := fun k ok hk hki hun hno => by
        refine hfree k ok hk hki ?_ hno
        by_cases hjk : j = k
        · subst hjk; exact hjun
        · rw [getD_set_ne true hjk] at hun; exact hun
      refine xOpW_mono (fun a' w' h3 => ⟨h3.2.1, ih (listed.setIfInBounds j true) a' w' (hcl.set hj) hfree' (ready_mono hr (Ne.symm hji)) (h3.1.later (h3.2.1.resolve_left hjr)) ?_⟩) h2
      have h4 := h3.2.2
      rw [Array.setIfInBounds_comm _ _ hji]
      exact h4
theorem takeW {Q : Act → World → Prop} {N k : Nat} {l : List Nat} {oi : Oper} {v : Value} {fuel : Nat} {a : Act} {w : World} (hs : Region.noSelect ops = true) (hok : okX ops N k = true)
    (hcl : closedB .any ops (lst N k) = true) (hwt : waitsB .any ops (k :: l) = true) (hla : (k :: l).getLast? = some r) (hir : k ≠ r) (hi : ops[k]? = some oi) (hw : Region.wanted oi (yielded ops a.tmps) = true)
    (hy : ∀ w', Mv C w w' → (execOp a.eval oi).run P w' = .ok (.value v) w')
    (H : wpAnyW C P .any ops r Q fuel (lst N (k + 1)) (a.put oi.dst v) w) : wpAnyW C P .any ops r Q (fuel + 1) (lst N k) a w := by
  unfold okX at hok
  rw [Bool.and_eq_true] at hok
  refine wpAnyW_first hi (Region.noSelect_spec hs) hwt hla hir fuel _ a w (closed_of hcl) (Region.free_spec hi hok.1) (by simpa using upX_ready hok.2) (.inl ⟨hw, hy⟩) ?_
  rw [lst_set]
  exact H
theorem soleW {Q : Act → World → Prop} {N k : Nat} {oi : Oper} {fuel : Nat} {a : Act} {w : World} (hr : Region.ready .any ops (lst N k) = [k]) (hi : ops[k]? = some oi) (hw : Region.wanted oi (yielded ops a.tmps) = true)
    (H : xUponW P (fun v w' => (k = r ∨ Mv C w w') ∧ wpAnyW C P .any ops r Q fuel (lst N (k + 1)) (a.put oi.dst v) w') ((execOp a.eval oi).run P w)) : wpAnyW C P .any ops r Q (fuel + 1) (lst N k) a w := by
  refine ⟨fun h0 => ?_, fun j hj => ?_⟩
  · rw [hr] at h0; cases h0
  · rw [hr] at hj
    obtain rfl : j = k := by simpa using hj
    unfold xOpW
    simp only [hi, hw, if_true]
    rw [lst_set]
    exact H
theorem valueW {Q : Act → World → Prop} {N k : Nat} {oi : Oper} {v : Value} {fuel : Nat} {a : Act} {w : World} (hr : Region.ready .any ops (lst N k) = [k]) (hi : ops[k]? = some oi) (hw : Region.wanted oi (yielded ops a.tmps) = true)
    (he : (execOp a.eval oi).run P w = .ok (.value v) w) (H : wpAnyW C P .any ops r Q fuel (lst N (k + 1)) (a.put oi.dst v) w) : wpAnyW C P .any ops r Q (fuel + 1) (lst N k) a w := by
  refine soleW hr hi hw ?_
  rw [he]
  exact ⟨.inr (Mv.refl _ _), H⟩
theorem makeW {Q : Act → World → Prop} {N k : Nat} {oi : Oper} {v : Value} {fuel : Nat} {a : Act} {w w1 : World} (hr : Region.ready .any ops (lst N k) = [k]) (hi : ops[k]? = some oi) (hw : Region.wanted oi (yielded ops a.tmps) = true)
    (he : (execOp a.eval oi).run P w = .ok (.value v) w1) (hE : k = r ∨ Mv C w w1) (H : wpAnyW C P .any ops r Q fuel (lst N (k + 1)) (a.put oi.dst v) w1) : wpAnyW C P .any ops r Q (fuel + 1) (lst N k) a w := by
  refine soleW hr hi hw ?_
  rw [he]
  exact ⟨hE, H⟩
theorem skipW {Q : Act → World → Prop} {N k : Nat} {oi : Oper} {fuel : Nat} {a : Act} {w w1 : World} (hr : Region.ready .any ops (lst N k) = [k]) (hi : ops[k]? = some oi) (hw : Region.wanted oi (yielded ops a.tmps) = true)
    (he : (execOp a.eval oi).run P w = .ok .skip w1) (hE : k = r ∨ Mv C w w1) (H : wpAnyW C P .any ops r Q fuel (lst N (k + 1)) (a.put oi.dst undef) w1) : wpAnyW C P .any ops r Q (fuel + 1) (lst N k) a w := by
  refine soleW hr hi hw ?_
  rw [he]
  exact ⟨hE, H⟩
theorem doneW {Q : Act → World → Prop} {fuel : Nat} {listed : Array Bool} {a : Act} {w : World} (hr : Region.ready md ops listed = []) (H : Q a w) : wpAnyW C P md ops r Q fuel listed a w := by
  cases fuel with
  | zero => exact ⟨hr, H⟩
  | succ m => exact ⟨fun _ => H, fun i hi => by rw [hr] at hi; cases hi⟩
theorem wp_region_W (r : Nat) {id : Nat} {Q : Exit → Act → World → Prop} {a : Act} {w : World} (C : Nat → Prop) (hF : ∀ f, F.fn f) (hd : (ops.all fun o => match o.op with | .defer _ => false | _ => true) = true) (hm : P.follows .mixedOrders = true)
    (h : wpAnyW C P .any ops r (fun a w => Q .normal a w) ops.size (Array.replicate ops.size false) a w.drew) : (Code.region id ops true).wpIn F n P Q a w :=
  wpIn_region_any hm (wpAnyIn_of_W hF (fun i o ho c e => by
    rw [Array.all_eq_true'] at hd
    have := hd o (Array.mem_of_getElem? ho)
    rw [e] at this
    cases this) (fun _ _ h => h) _ _ _ _ h)
theorem withW {P : Program} {ops E : Array Oper} {Q : Act → World → Prop} {N : Nat} {a : Act} {w : World} {R : Array Oper → Prop} (h : ops = E) (hR : R E) (hf : ops.size = N)
    (H : R ops → wpAnyW C P .any ops r Q N (lst N 0) a w) : wpAnyW C P .any ops r Q ops.size (Array.replicate ops.size false) a w := by
  rw [hf, lst_zero]; exact H (h ▸ hR)
end

end Go.Proofs.Ytookffaojlkfaaa
