/- A region that draws and holds one yield: what reads is taken first, the round comes in turn. (My own law; any program.) -/
import Derived.Test.YtookffaojlkfaaaX
import Derived.Test.YtookffaojlkfaaaZ2
import Derived.RegionIn
set_option linter.unusedSimpArgs false
set_option linter.unusedVariables false
namespace Go.Proofs.Ytookffaojlkfaaa
open Go.RowKit

section
variable {P : Program} {ops : Array Oper} {md : Region.Mode} {n : Nat} {r : Nat}
def xUponR (n : Nat) (P : Program) (N : Value → World → Prop) : Result Next → Prop
  | .ok (.value u) w' => N u w'
  | .ok .skip w' => N undef w'
  | .ok (.round l f tmps assign body) w' => RoundIn Fence.wide (n - 1) P l f tmps assign body w' (fun e w'' => ∃ v, e = .returned v ∧ N v w'')
  | _ => False
theorem xUponR_mono {N N' : Value → World → Prop} (h : ∀ v w, N v w → N' v w) : ∀ r : Result Next, xUponR n P N r → xUponR n P N' r
  | .ok (.value u) w', hh => h _ _ hh
  | .ok .skip w', hh => h _ _ hh
  | .ok (.round l f tmps assign body) w', hh => RoundIn.mono hh fun e w'' ⟨v, h1, h2⟩ => ⟨v, h1, h _ _ h2⟩
def xOpR (n : Nat) (P : Program) (ops : Array Oper) (i : Nat) (K : Act → World → Prop) (a : Act) (w : World) : Prop :=
  match ops[i]? with
  | none => K a w
  | some o => if Region.wanted o (yielded ops a.tmps) = true then xUponR n P (fun v w' => K (a.put o.dst v) w') ((execOp a.eval o).run P w) else K (a.put o.dst undef) w
theorem xOpR_mono {i : Nat} {a : Act} {w : World} {K K' : Act → World → Prop} (h : ∀ a w, K a w → K' a w) (hh : xOpR n P ops i K a w) : xOpR n P ops i K' a w := by
  unfold xOpR at *
  split
  · exact h _ _ (by simpa [*] using hh)
  · rename_i o ho
    simp only [ho] at hh
    split
    · rename_i hw; simp only [hw, if_true] at hh; exact xUponR_mono (fun v w' h1 => h _ _ h1) _ hh
    · rename_i hw; simp only [hw] at hh; exact h _ _ hh
theorem wpOpIn_of_R {i : Nat} {a : Act} {w : World} {K : Act → World → Prop} {Q : Exit → Act → World → Prop} (hh : xOpR n P ops i K a w) : wpOpIn Fence.wide n P ops Q i K a w := by
  unfold xOpR at hh
  unfold wpOpIn
  split
  · rename_i ho; simp only [ho] at hh; exact hh
  · rename_i o ho
    simp only [ho] at hh
    split
    · rename_i hw
      simp only [hw, if_true] at hh
      refine ⟨fun _ _ => trivial, ?_⟩
      show o.uponIn Fence.wide n P a K Q ((execOp a.eval o).run P w)
      generalize (execOp a.eval o).run P w = q at *
      cases q with
      | ok x w' =>
        cases x <;> simp only [xUponR] at hh <;> simp only [Oper.uponIn]
        case value u => exact hh
        case skip => exact hh
        case round l f tmps assign body => exact ⟨fun h => by simp [Fence.wide] at h, hh.mono fun e w'' ⟨v, he, hw''⟩ => by subst he; exact hw''⟩
      | halt x w' => simp only [xUponR] at hh
    · rename_i hw; simp only [hw] at hh; exact ⟨fun _ _ => trivial, hh⟩
/-- Whatever order is picked from here on; each operation but r makes new blocks alone. -/
def wpAnyR (n : Nat) (P : Program) (md : Region.Mode) (ops : Array Oper) (r : Nat) (Q : Act → World → Prop) : Nat → Array Bool → Act → World → Prop
  | 0, listed, a, w => Region.ready md ops listed = [] ∧ Q a w
  | fuel + 1, listed, a, w => (Region.ready md ops listed = [] → Q a w) ∧
    ∀ i ∈ Region.ready md ops listed, xOpR n P ops i (fun a' w' => (i = r ∨ Ext w w') ∧ wpAnyR n P md ops r Q fuel (listed.setIfInBounds i true) a' w') a w
theorem wpAnyIn_of_R {Q : Act → World → Prop} {Q' : Exit → Act → World → Prop} (hQ : ∀ a w, Q a w → Q' .normal a w) : ∀ (fuel : Nat) (listed : Array Bool) (a : Act) (w : World),
    wpAnyR n P md ops r Q fuel listed a w → wpAnyIn Fence.wide n P md ops Q' fuel listed a w
  | 0, _, _, _, h => ⟨h.1, hQ _ _ h.2⟩
  | fuel + 1, _, _, _, h => ⟨fun h0 => hQ _ _ (h.1 h0), fun i hi => wpOpIn_of_R (xOpR_mono (fun a' w' h1 => wpAnyIn_of_R hQ fuel _ a' w' h1.2) (h.2 i hi))⟩
/-- In state 'a', in every world that w grows to, 'o' yields v and does nothing else. -/
def YieldsR (P : Program) (ops : Array Oper) (w : World) (o : Oper) (v : Value) (a : Act) : Prop :=
  (Region.wanted o (yielded ops a.tmps) = true ∧ ∀ w', Ext w w' → (execOp a.eval o).run P w' = .ok (.value v) w') ∨ (Region.wanted o (yielded ops a.tmps) = false ∧ v = undef)
theorem YieldsR.later {w w' : World} {o : Oper} {v : Value} {a : Act} (h : YieldsR P ops w o v a) (e : Ext w w') : YieldsR P ops w' o v a := by
  rcases h with ⟨h1, h2⟩ | h
  · exact .inl ⟨h1, fun w2 e2 => h2 w2 (e.tr e2)⟩
  · exact .inr h
theorem YieldsR.xOp {w : World} {i : Nat} {o : Oper} {v : Value} {a : Act} (hi : ops[i]? = some o) (hy : YieldsR P ops w o v a) {K : Act → World → Prop} (h : K (a.put o.dst v) w) : xOpR n P ops i K a w := by
  unfold xOpR
  simp only [hi]
  rcases hy with ⟨hw, hv⟩ | ⟨hw, rfl⟩
  · simp only [hw, if_true, hv w (Ext.rf _), xUponR]; exact h
  · simp only [hw, Bool.false_eq_true, if_false]; exact h
theorem xOpR_put {j : Nat} {oi oj : Oper} {v : Value} {w : World} (hj : ops[j]? = some oj) (hap : oi.apart ops oj = true)
    (hsi : ∀ cs b, oi.op ≠ .select cs b) (hsj : ∀ cs b, oj.op ≠ .select cs b) {K : Act → World → Prop} {a : Act}
    (hy : YieldsR P ops w oi v a) (h : xOpR n P ops j K (a.put oi.dst v) w) :
    xOpR n P ops j (fun a' w' => YieldsR P ops w oi v a' ∧ K (a'.put oi.dst v) w') a w := by
  obtain ⟨h1, h2, h3⟩ := Oper.apart_spec hap
  have keep : ∀ u, YieldsR P ops w oi v (a.put oj.dst u) := fun u => by
    unfold YieldsR at *
    rw [execOp_put oi hsi a oj.dst u h3, wanted_put oi a oj.dst u h3]
    exact hy
  unfold xOpR at *
  simp only [hj] at *
  rw [wanted_put oj a oi.dst v h1] at h
  split
  · rename_i hw
    simp only [hw, if_true] at h
    rw [execOp_put oj hsj a oi.dst v h1] at h
    exact xUponR_mono (fun u w' h4 => ⟨keep u, by rw [← Act.put_comm a v u h2]; exact h4⟩) _ h
  · rename_i hw
    simp only [hw] at h
    exact ⟨keep _, by rw [← Act.put_comm a v undef h2]; exact h⟩
/-- What is done has all done that it waits for. -/
def closedX (md : Region.Mode) (ops : Array Oper) (listed : Array Bool) : Prop := ∀ k o, ops[k]? = some o → listed.getD k true = true → ∀ e ∈ o.after, Region.binds md e = true → listed.getD e.on false = true
theorem closedX.set {listed : Array Bool} {j : Nat} (h : closedX md ops listed) (hj : j ∈ Region.ready md ops listed) : closedX md ops (listed.setIfInBounds j true) := by
  intro k o hk hl e he hb
  refine getD_set_true ?_
  by_cases hjk : k = j
  · subst hjk
    obtain ⟨-, oj, hoj, hall⟩ := mem_ready.1 hj
    rw [hk] at hoj
    cases hoj
    exact hall e he hb
  · rw [getD_set_ne true (Ne.symm hjk)] at hl
    exact h k o hk hl e he hb
/-- Each of the row waits for the one ahead of it. -/
def waitsB (md : Region.Mode) (ops : Array Oper) : List Nat → Bool
  | a :: b :: rest => ((ops[b]?).map (fun o => o.after.any fun e => Region.binds md e && e.on == a)).getD false && waitsB md ops (b :: rest)
  | _ => true
theorem waits_listed {listed : Array Bool} (hc : closedX md ops listed) (hr : r ∈ Region.ready md ops listed) : ∀ (l : List Nat) (a : Nat), waitsB md ops (a :: l) = true → (a :: l).getLast? = some r → a ≠ r → listed.getD a false = true
  | [], a, _, hl, hn => by simp at hl; exact absurd hl hn
  | b :: rest, a, hw, hl, _ => by
    unfold waitsB at hw
    rw [Bool.and_eq_true] at hw
    obtain ⟨h1, h2⟩ := hw
    cases ho : ops[b]? with
    | none => rw [ho] at h1; simp at h1
    | some o =>
      rw [ho] at h1
      simp only [Option.map_some, Option.getD_some, Array.any_eq_true', Bool.and_eq_true, beq_iff_eq] at h1
      obtain ⟨e, he, hb, hon⟩ := h1
      by_cases hbr : b = r
      · subst hbr
        obtain ⟨-, oj, hoj, hall⟩ := mem_ready.1 hr
        rw [ho] at hoj
        cases hoj
        rw [← hon]; exact hall e he hb
      · have hbl := waits_listed hc hr rest b h2 (by simpa using hl) hbr
        have hbt : listed.getD b true = true := by
          rcases Nat.lt_or_ge b listed.size with h' | h'
          · simp [h'] at hbl ⊢; exact hbl
          · simp [Array.getElem?_eq_none h']
        rw [← hon]; exact hc b o ho hbt e he hb
/-- What reads may be taken first, where the round waits for it. -/
theorem wpAnyR_first {Q : Act → World → Prop} {i : Nat} {oi : Oper} {v : Value} {l : List Nat} (hi : ops[i]? = some oi) (hsel : ∀ (j : Nat) (o : Oper) cs b, ops[j]? = some o → o.op ≠ .select cs b)
    (hwt : waitsB md ops (i :: l) = true) (hla : (i :: l).getLast? = some r) (hir : i ≠ r) :
    ∀ (fuel : Nat) (listed : Array Bool) (a : Act) (w : World), closedX md ops listed →
      (∀ j oj, ops[j]? = some oj → j ≠ i → listed.getD j true = false → (∀ e ∈ oj.after, Region.binds md e = true → e.on ≠ i) → oi.apart ops oj = true) →
      i ∈ Region.ready md ops listed → YieldsR P ops w oi v a →
      wpAnyR n P md ops r Q fuel (listed.setIfInBounds i true) (a.put oi.dst v) w → wpAnyR n P md ops r Q (fuel + 1) listed a w := by
  intro fuel
  induction fuel with
  | zero =>
    intro listed a w _ _ hr hy H
    refine ⟨fun h => (by rw [h] at hr; cases hr), fun j hj => ?_⟩
    by_cases hji : j = i
    · subst hji; exact hy.xOp hi ⟨.inr (Ext.rf _), H⟩
    · have := ready_mono hj hji
      rw [H.1] at this
      cases this
  | succ fuel ih =>
    intro listed a w hcl hfree hr hy H
    refine ⟨fun h => (by rw [h] at hr; cases hr), fun j hj => ?_⟩
    by_cases hji : j = i
    · subst hji; exact hy.xOp hi ⟨.inr (Ext.rf _), H⟩
    · have hjr : j ≠ r := fun e => by
        subst e
        have h1 := waits_listed hcl hj l i hwt hla hir
        have h0 := (mem_ready.1 hr).1
        rcases Nat.lt_or_ge i listed.size with h' | h'
        · simp [h'] at h0 h1; rw [h0] at h1; cases h1
        · simp [Array.getElem?_eq_none h'] at h1
      have h1 := H.2 j (ready_mono hj hji)
      obtain ⟨hjun, oj, hoj, hall⟩ := mem_ready.1 hj
      have hnot : ∀ e ∈ oj.after, Region.binds md e = true → e.on ≠ i := fun e he hb heq => by
        have h1 := hall e he hb
        have h0 := (mem_ready.1 hr).1
        rw [heq] at h1
        rcases Nat.lt_or_ge i listed.size with h' | h'
        · simp [h'] at h0 h1; rw [h0] at h1; cases h1
        · simp [Array.getElem?_eq_none h'] at h1
      have h2 := xOpR_put hoj (hfree j oj hoj hji hjun hnot) (fun cs b => hsel i oi cs b hi) (fun cs b => hsel j oj cs b hoj) hy h1
      have hfree' : ∀ k ok, ops[k]? = some ok → k ≠ i → (listed.setIfInBounds j true).getD k true = false →
          (∀ e ∈ ok.after, Region.binds md e = true → e.on ≠ i) → oi.apart ops ok = true := fun k ok hk hki hun hno => by
        refine hfree k ok hk hki ?_ hno
        by_cases hjk : j = k
        · subst hjk; exact hjun
        · rw [getD_set_ne true hjk] at hun; exact hun
      refine xOpR_mono (fun a' w' h3 => ⟨h3.2.1, ih (listed.setIfInBounds j true) a' w' (hcl.set hj) hfree' (ready_mono hr (Ne.symm hji)) (h3.1.later (h3.2.1.resolve_left hjr)) ?_⟩) h2
      have h4 := h3.2.2
      rw [Array.setIfInBounds_comm _ _ hji]
      exact h4
def closedB (md : Region.Mode) (ops : Array Oper) (listed : Array Bool) : Bool := (List.range ops.size).all fun k => !listed.getD k true || ((ops[k]?).map (·.after.all fun e => !Region.binds md e || listed.getD e.on false)).getD true
theorem closed_of {listed : Array Bool} (h : closedB md ops listed = true) : closedX md ops listed := by
  intro k o hk hl e he hb
  unfold closedB at h
  have hks : k < ops.size := (Array.getElem?_eq_some_iff.1 hk).1
  have := List.all_eq_true.1 h k (List.mem_range.2 hks)
  rw [hl, hk] at this
  simp only [Bool.not_true, Bool.false_or, Option.map_some, Option.getD_some, Array.all_eq_true', Bool.or_eq_true, Bool.not_eq_true'] at this
  rcases this e he with h1 | h1
  · rw [hb] at h1; cases h1
  · exact h1
theorem takeR {Q : Act → World → Prop} {N k : Nat} {l : List Nat} {oi : Oper} {v : Value} {fuel : Nat} {a : Act} {w : World} (hs : Region.noSelect ops = true) (hok : okX ops N k = true)
    (hcl : closedB .any ops (lst N k) = true) (hwt : waitsB .any ops (k :: l) = true) (hla : (k :: l).getLast? = some r) (hir : k ≠ r) (hi : ops[k]? = some oi) (hw : Region.wanted oi (yielded ops a.tmps) = true)
    (hy : ∀ w', Ext w w' → (execOp a.eval oi).run P w' = .ok (.value v) w')
    (H : wpAnyR n P .any ops r Q fuel (lst N (k + 1)) (a.put oi.dst v) w) : wpAnyR n P .any ops r Q (fuel + 1) (lst N k) a w := by
  unfold okX at hok
  rw [Bool.and_eq_true] at hok
  refine wpAnyR_first hi (Region.noSelect_spec hs) hwt hla hir fuel _ a w (closed_of hcl) (Region.free_spec hi hok.1) (by simpa using upX_ready hok.2) (.inl ⟨hw, hy⟩) ?_
  rw [lst_set]
  exact H
theorem soleR {Q : Act → World → Prop} {N k : Nat} {oi : Oper} {fuel : Nat} {a : Act} {w : World} (hr : Region.ready .any ops (lst N k) = [k]) (hi : ops[k]? = some oi) (hw : Region.wanted oi (yielded ops a.tmps) = true)
    (H : xUponR n P (fun v w' => (k = r ∨ Ext w w') ∧ wpAnyR n P .any ops r Q fuel (lst N (k + 1)) (a.put oi.dst v) w') ((execOp a.eval oi).run P w)) : wpAnyR n P .any ops r Q (fuel + 1) (lst N k) a w := by
  refine ⟨fun h0 => ?_, fun j hj => ?_⟩
  · rw [hr] at h0; cases h0
  · rw [hr] at hj
    obtain rfl : j = k := by simpa using hj
    unfold xOpR
    simp only [hi, hw, if_true]
    rw [lst_set]
    exact H
/-- The yield comes up alone. -/
theorem roundR {Q : Act → World → Prop} {N : Nat} {oi : Oper} {fuel : Nat} {a : Act} {w : World} {l : Nat} {f : FuncId} {tm : Array Value} {asg bo : Code} (hr : Region.ready .any ops (lst N r) = [r]) (hi : ops[r]? = some oi) (hw : Region.wanted oi (yielded ops a.tmps) = true)
    (he : (execOp a.eval oi).run P w = .ok (.round l f tm asg bo) w) {R : Ending → World → Prop} (hR : RoundIn Fence.wide (n - 1) P l f tm asg bo w R)
    (H : ∀ e w', R e w' → ∃ v, e = .returned v ∧ wpAnyR n P .any ops r Q fuel (lst N (r + 1)) (a.put oi.dst v) w') : wpAnyR n P .any ops r Q (fuel + 1) (lst N r) a w := by
  refine soleR hr hi hw ?_
  rw [he]
  exact hR.mono fun e w' h => by
    obtain ⟨v, h1, h2⟩ := H e w' h
    exact ⟨v, h1, .inl rfl, h2⟩
theorem valueR {Q : Act → World → Prop} {N k : Nat} {oi : Oper} {v : Value} {fuel : Nat} {a : Act} {w : World} (hr : Region.ready .any ops (lst N k) = [k]) (hi : ops[k]? = some oi) (hw : Region.wanted oi (yielded ops a.tmps) = true)
    (he : (execOp a.eval oi).run P w = .ok (.value v) w) (H : wpAnyR n P .any ops r Q fuel (lst N (k + 1)) (a.put oi.dst v) w) : wpAnyR n P .any ops r Q (fuel + 1) (lst N k) a w := by
  refine soleR hr hi hw ?_
  rw [he]
  exact ⟨.inr (Ext.rf _), H⟩
theorem doneR {Q : Act → World → Prop} {fuel : Nat} {listed : Array Bool} {a : Act} {w : World} (hr : Region.ready md ops listed = []) (H : Q a w) : wpAnyR n P md ops r Q fuel listed a w := by
  cases fuel with
  | zero => exact ⟨hr, H⟩
  | succ m => exact ⟨fun _ => H, fun i hi => by rw [hr] at hi; cases hi⟩
theorem wp_region_R (r : Nat) {id : Nat} {Q : Exit → Act → World → Prop} {a : Act} {w : World} (hm : P.follows .mixedOrders = true)
    (h : wpAnyR n P .any ops r (fun a w => Q .normal a w) ops.size (Array.replicate ops.size false) a w.drew) : (Code.region id ops true).wpIn Fence.wide n P Q a w :=
  wpIn_region_any hm (wpAnyIn_of_R (fun _ _ h => h) _ _ _ _ h)
theorem withR {P : Program} {ops E : Array Oper} {Q : Act → World → Prop} {N : Nat} {a : Act} {w : World} {R : Array Oper → Prop} (h : ops = E) (hR : R E) (hf : ops.size = N)
    (H : R ops → wpAnyR n P .any ops r Q N (lst N 0) a w) : wpAnyR n P .any ops r Q ops.size (Array.replicate ops.size false) a w := by
  rw [hf, lst_zero]; exact H (h ▸ hR)
end

end Go.Proofs.Ytookffaojlkfaaa
