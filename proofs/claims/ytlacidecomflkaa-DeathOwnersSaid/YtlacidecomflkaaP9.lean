/- Collect: the slice of what an iterator hands over. -/
import Derived.Test.YtlacidecomflkaaP7
import Derived.Test.YtlacidecomflkaaP8
import Derived.Test.YtlacidecomflkaaZ2
set_option linter.unusedSimpArgs false
set_option linter.unusedVariables false
namespace Go.Proofs.Ytlacidecomflkaa
open Go.RowKit
attribute [local go_sem] Oper.semAt_some
/-- The cells of shifts. -/
def shC (xs : List Sh) : List Value := xs.flatMap fun s => [.int .i64 s.b, .int .i64 s.t]
theorem shC_snoc (xs : List Sh) (s : Sh) : shC (xs ++ [s]) = shC xs ++ [.int .i64 s.b, .int .i64 s.t] := by simp [shC]
theorem shC_len (xs : List Sh) : (shC xs).length = xs.length * 2 := by
  induction xs with
  | nil => rfl
  | cons x r ih => simp only [shC, List.flatMap_cons, List.length_append, List.length_cons, List.length_nil] at ih ⊢; omega
theorem shC_get : ∀ (xs : List Sh) (k : Nat) (h : k < xs.length), (shC xs)[k * 2]? = some (.int .i64 xs[k].b) ∧ (shC xs)[k * 2 + 1]? = some (.int .i64 xs[k].t)
  | [], _, h => by simp at h
  | x :: r, 0, _ => ⟨rfl, rfl⟩
  | x :: r, k + 1, h => by
    have := shC_get r k (by simpa using h)
    have e : shC (x :: r) = .int .i64 x.b :: .int .i64 x.t :: shC r := rfl
    rw [e, show (k + 1) * 2 = k * 2 + 1 + 1 by omega]
    simpa using this
theorem info_sh : (Try.prog.info? 45).map (fun i => (i.zero, i.size, i.bytes)) = some (some (.agg #[.int .i64 0, .int .i64 0]), 2, 16) := by kernel_rfl
/-- What a slice of shifts that owns a row reads as. -/
theorem slS_own {w : World} {base : Nat} {v : Value} {xs : List Sh} (h : w.ownsRow base 45 2 v xs.length (shC xs)) : ∃ p c, v = .slice p xs.length c ∧ xs.length ≤ c ∧ SlS w p xs := by
  rcases Nat.eq_zero_or_pos xs.length with h0 | h0
  · rcases h.2 with ⟨rfl, _⟩ | ⟨g, cap, cur, rfl, _, _, h1, _⟩
    · exact ⟨none, 0, by rw [h0], by omega, fun k hk => by omega⟩
    · exact ⟨_, cap, rfl, h1, fun k hk => by omega⟩
  · obtain ⟨g, cap, rfl, hg, h1, _, hc⟩ := ownsRow_cell h h0
    refine ⟨_, cap, rfl, h1, fun k hk => ⟨g, 0, rfl, hg, ?_, ?_⟩⟩
    · rw [Nat.zero_add]; exact hc _ _ (shC_get xs k hk).1
    · rw [Nat.zero_add]; exact hc _ _ (shC_get xs k hk).2
/-- What AppendSeq's variable holds when i shifts have come. -/
def HoldI (B base : Nat) (xs : List Sh) (i : Nat) (W : World) : Prop := ∃ v, Boxed W B 24 v ∧ W.ownsRow base 45 2 v i (shC (xs.take i))
theorem HoldI.mv {B base : Nat} {xs : List Sh} {i : Nat} {A A' : World} {C : Nat → Prop} (h : HoldI B base xs i A) (hm : Mv C A A') (hb : ¬ C B) (hc : ∀ k, base ≤ k → ¬ C k) : HoldI B base xs i A' := by
  obtain ⟨v, h1, h2⟩ := h
  exact ⟨v, boxed_mv h1 hm hb, ownsRow_mv h2 hm hc⟩

set_option maxRecDepth 100000 in
set_option maxHeartbeats 4000000 in
theorem appendSeq_any (g : Nat) (lb : Array Value) (eg : ∀ args w, (callFunc g args).run Try.prog w = .ok (.enter g args) w) (T : Nat → Prop) (xs : List Sh) (w : World) (hlen : xs.length ≤ 1000) (hT : ∀ k, T k → k < w.heap.size)
    (hseq : ∀ (n : Nat) (U : Nat → Prop) w', Ext w w' → (∀ k, U k → w.heap.size ≤ k) → Iter Fence.wide n Try.prog g lb (fun s => #[shv s]) T U xs w') :
    Calls Try.prog 76 #[.slice none 0 0, .func (.func g) #[] lb] w fun e W' => ∃ v, e = .returned v ∧ W'.ownsRow w.heap.size 45 2 v xs.length (shC xs) ∧ Mv T w W' := by
  obtain ⟨i0, hi, hz0, hz1, hz2⟩ := info_parts info_sh
  have HSQ := Lib.hid hseq
  have HT := Lib.hid hT
  have HEG := Lib.hid eg
  clear hseq hT eg
  refine (callsIn_wide (n := 5)).1 ?_
  refine callsIn_of_wp_marks Try.func76 rfl trivial ?_ rfl
  simp only [Try.ntmps76, List.size_toArray, List.length_cons, List.length_nil, Nat.reduceAdd, Nat.reduceSub, Array.replicate_succ, Array.replicate_zero, List.push_toArray, List.append_toArray, List.nil_append, List.cons_append]
  gi_wp2
  have bO := Boxed.new w 24 (.slice none 0 0)
  obtain ⟨w1, hw1⟩ : ∃ w1, w.alloc (.cells #[.slice none 0 0] 24) = w1 := ⟨_, rfl⟩
  have hs1 : w1.heap.size = w.heap.size + 1 := by rw [← hw1]; simp
  have hE1 : Ext w w1 := by rw [← hw1]; exact Ext.al (Ext.rf _) _
  rw [hw1] at bO ⊢
  clear hw1
  refine wpIn_range rfl (by omega) (gf := g) (lb := lb) rfl trivial HEG.out (HSQ.out _ (fun k => k = w.heap.size) w1 hE1 (fun k e => by omega))
    (fun k h => by have := HT.out k h; omega) (fun k h => by omega) (fun _ => rfl)
    (fun i W => HoldI w.heap.size (w1.heap.size + 2) xs i W) (fun _ _ => False)
    (fun i A B h hm => h.mv hm (fun hh => by rcases hh with hh | hh | hh; (have := HT.out _ hh; omega); omega; omega) (fun k hk hh => by rcases hh with hh | hh | hh; (have := HT.out _ hh; omega); omega; omega))
    (fun _ _ _ h _ => h) ⟨_, bO, World.ownsRow_nil _ _ _ _⟩
    (fun s a' W => ∃ Bx, w1.heap.size + 2 ≤ Bx ∧ Bx < W.heap.size ∧ rowD W Bx = #[.int .i64 s.b, .int .i64 s.t] ∧
      a' = { tmps := #[.slice none 0 0, .func (.func g) #[] lb, .pointer (some ⟨w.heap.size, 0, none⟩), undef, .slice none 0 0, .pointer (some ⟨Bx, 0, none⟩), .func (.func g) #[] lb, shv s, undef, undef, undef, undef, undef], defers := [] })
    (fun s a' A B h hm => by
      obtain ⟨Bx, h1, h2, h3, h4⟩ := h
      exact ⟨Bx, h1, Nat.lt_of_lt_of_le h2 hm.size, by rw [rowD_same (hm.same Bx h2 (by omega))]; exact h3, h4⟩)
    ?assign ?body ?done ?stop
  case assign =>
    intro l i s W K hsz hv hI hx hK
    gi_wp2
    refine hK _ _ (Mv.al _ (Mv.refl _ _)) (hI.mv (Mv.al (C := fun _ => False) _ (Mv.refl _ _)) (fun h => h) (fun _ _ h => h)) ⟨W.heap.size, hsz, by simp, rowD_new _ _ _ _, rfl⟩
  case body =>
    rintro l i s a' W hl ⟨r, hr⟩ hsz hv ⟨v, hb, hrow⟩ hx ⟨Bx, h1, h2, h3, rfl⟩
    have hil : i < xs.length := (List.getElem?_eq_some_iff.1 hx).1
    have hxi : xs[i] = s := (List.getElem?_eq_some_iff.1 hx).2
    have hc := hb.cell
    have hcx0 : W.cell? ⟨Bx, 0, none⟩ = some (.int .i64 s.b) := by rw [cell_rowD, h3]; rfl
    have hcx1 : W.cell? ⟨Bx, 1, none⟩ = some (.int .i64 s.t) := by rw [cell_rowD, h3]; rfl
    have HX := Lib.hid hxi
    have HR := Lib.hid hrow
    have HV := Lib.hid hv
    clear hxi h3 hv hx hr
    have htk : xs.take (i + 1) = xs.take i ++ [s] := by rw [List.take_succ_eq_append_getElem hil, HX.out]
    have HT2 := Lib.hid htk
    clear htk
    have hnB : ∀ r, v.ownBlock = some r → w1.heap.size + 2 ≤ r := ownBlock_ge HR.out
    have HNB := Lib.hid hnB
    clear hnB
    gi_wp2_with (gi_at_builtin; refine wpListIn_append_own _ rfl _ _ 24 rfl (w1.heap.size + 2) 45 i0 (.agg #[.int .i64 0, .int .i64 0]) 2 16 Try.underlying24 hi hz0 hz1 hz2 rfl (by decide) _ _ _ rfl (HR.out.alloc _) ⟨W.heap.size, 0, none⟩ 1 1 [.int .i64 s.b, .int .i64 s.t] rfl rfl (cell_two_new _ _ _ _) (by simp [Value.oneCell']) (by unfold maxLen; omega) (by omega) (by simp; omega) ?_; intro v' w2 hown' hgrow _; have HOW := Lib.hid hown'; obtain ⟨g', cap', rfl⟩ := ownsRow_succ hown'; have hb2 : Boxed w2 w.heap.size 24 v := (hb.alloc _).kept hgrow (fun e => by have := HNB.out _ e.symm; omega); have hc2 := hb2.cell; have hf2 := hb2.frozen; clear hown')
    have hm2 : Mv (fun k => k = w.heap.size ∨ w1.heap.size + 2 ≤ k) W w2 := (Mv.al _ (Mv.refl _ _)).trans (Mv.of_grown hgrow fun r e => .inl (.inr (HNB.out r e)))
    refine ⟨Mv.st _ (.inl (.inl rfl)) hm2, _, hb2.set _, ?_⟩
    rw [HT2.out, shC_snoc]
    exact ownsRow_mv (C := fun k => k = w.heap.size) HOW.out (Mv.st _ (.inl rfl) (Mv.refl _ _)) (fun k hk e => by omega)
  case done =>
    rintro W ⟨v, hb, hrow⟩ hv hK
    have hc := hb.cell
    have HV := Lib.hid hv
    clear hv
    gi_wp2
    refine ⟨by simp, .inl ⟨_, _, rfl, run_takeDeferred hK, ?_⟩⟩
    refine ⟨_, results_tmp rfl _ _ _, v, rfl, ?_, ?_⟩
    · have := ownsRow_mv (C := fun k => k = w1.heap.size) hrow (Mv.put W w1.heap.size (.deferred none) rfl) (fun k hk e => by omega)
      rw [List.take_length] at this
      exact ownsRow_le this (by omega)
    · have hV := HV.out
      refine ⟨hV.os.trans hE1.os, hV.tape.trans hE1.tape, hV.output.trans hE1.output, by have := hV.size; simp; omega, fun k hk hc => ?_⟩
      rw [World.putObj_heap_other (by omega), hV.same k (by omega) (fun h => by rcases h with h | h; exact hc h; omega), hE1.block k hk]
  case stop => exact fun _ _ h => h.elim

set_option maxRecDepth 20000 in
set_option maxHeartbeats 1000000 in
theorem collect_any (g : Nat) (lb : Array Value) (eg : ∀ args w, (callFunc g args).run Try.prog w = .ok (.enter g args) w) (T : Nat → Prop) (xs : List Sh) (w : World) (hlen : xs.length ≤ 1000) (hT : ∀ k, T k → k < w.heap.size)
    (hseq : ∀ (n : Nat) (U : Nat → Prop) w', Ext w w' → (∀ k, U k → w.heap.size ≤ k) → Iter Fence.wide n Try.prog g lb (fun s => #[shv s]) T U xs w') :
    Calls Try.prog 53 #[.func (.func g) #[] lb] w fun e W' => ∃ v, e = .returned v ∧ W'.ownsRow w.heap.size 45 2 v xs.length (shC xs) ∧ Mv T w W' := by
  have HSQ := Lib.hid hseq
  have HT := Lib.hid hT
  have HEG := Lib.hid eg
  clear hseq hT eg
  go_enter Try.func53, Try.ntmps53
  go_wp2_with (go_at_call 76; (with_reducible refine (appendSeq_any g lb HEG.out T xs _ hlen HT.out HSQ.out).mono ?_); rintro e w' ⟨v, rfl, h1, h2⟩)
  go_ret
  exact ⟨v, rfl, h1, h2⟩

end Go.Proofs.Ytlacidecomflkaa
