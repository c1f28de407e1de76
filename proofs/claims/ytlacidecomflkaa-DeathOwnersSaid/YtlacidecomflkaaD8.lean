/- Owners of moves: the walk. -/
import Derived.Test.YtlacidecomflkaaD7
set_option linter.unusedSimpArgs false
set_option linter.unusedVariables false
namespace Go.Proofs.Ytlacidecomflkaa
open Go.RowKit

theorem enters_buckets1 : ∀ args w, (callFunc 97 args).run Try.prog w = .ok (.enter 97 args) w := enters_of Try.func97 (by kernel_rfl) rfl
theorem zeros16 : (#[.int .i64 0, .int .i64 0, .int .i64 0, .int .i64 0, .int .i64 0, .int .i64 0, .int .i64 0, .int .i64 0, .int .i64 0, .int .i64 0, .int .i64 0, .int .i64 0, .int .i64 0, .int .i64 0, .int .i64 0, .int .i64 0] : Array Value) = ov (fun _ => 0) := rfl
set_option maxRecDepth 100000 in
set_option maxHeartbeats 4000000 in
theorem owners_any (l : Nat → Mo) (w : World) :
    Calls Try.prog 43 #[.agg (lm l)] w fun e w' => e = .returned (.agg (ov (ownersM l))) ∧ Ext w w' := by
  refine (callsIn_wide (n := 5)).1 ?_
  refine callsIn_of_wp_marks Try.func43 rfl trivial ?_ rfl
  simp only [Try.ntmps43, List.size_toArray, List.length_cons, List.length_nil, Nat.reduceAdd, Nat.reduceSub, Array.replicate_succ, Array.replicate_zero, List.push_toArray, List.append_toArray, List.nil_append, List.cons_append]
  gi_wp2_with (gi_at_call 72; (with_reducible refine (callsIn_wide.2 (buckets_any l _)).mono ?_); rintro e w' ⟨rfl, rfl⟩)
  obtain ⟨w1, hw1⟩ : ∃ w1, (((w.alloc (.cells (lm l) 63)).alloc (.cells #[.int .i64 0, .int .i64 0, .int .i64 0, .int .i64 0, .int .i64 0, .int .i64 0, .int .i64 0, .int .i64 0, .int .i64 0, .int .i64 0, .int .i64 0, .int .i64 0, .int .i64 0, .int .i64 0, .int .i64 0, .int .i64 0] 22)).alloc (.cells (lm l) 63)) = w1 := ⟨_, rfl⟩
  have hs1 : w1.heap.size = w.heap.size + 3 := by rw [← hw1]; simp
  have hE1 : Ext w w1 := by rw [← hw1]; exact Ext.al (Ext.al (Ext.al (Ext.rf _) _) _) _
  have hRo : rowD w1 (w.heap.size + 1) = ov (fun _ => 0) := by rw [← hw1, ← zeros16]; simp [go_sem]
  have hZo : frzD w1 (w.heap.size + 1) = (0, 0) := by rw [← hw1]; simp [go_sem]
  have hRl : rowD w1 (w.heap.size + 1 + 1) = lm l := by rw [← hw1]; simp [go_sem]
  have hLl : Lt (w.heap.size + 1 + 1) w1 := by unfold Lt; omega
  have hLo : Lt (w.heap.size + 1) w1 := by unfold Lt; omega
  rw [hw1]
  clear hw1
  refine wpIn_range rfl (by omega) (gf := 97) (lb := #[.pointer (some ⟨w.heap.size + 1 + 1, 0, none⟩)]) rfl trivial enters_buckets1 (buckets_iter _ l w1 (w.heap.size + 1 + 1) (fun k => k = w.heap.size + 1) hRl hLl)
    (fun k h => h.elim) (fun k h => by omega) (fun _ => rfl)
    (fun i W => rowD W (w.heap.size + 1) = ov (fun j => if j < i then ownerM (l j) else 0) ∧ frzD W (w.heap.size + 1) = (0, 0) ∧ Lt (w.heap.size + 1) W) (fun _ _ => False)
    (fun i A B h hm => by
      have hs := hm.same (w.heap.size + 1) h.2.2 (fun hh => by rcases hh with hh | hh | hh; exact hh; omega; omega)
      exact ⟨by rw [rowD_same hs]; exact h.1, by unfold frzD; rw [hs]; exact h.2.1, Nat.lt_of_lt_of_le h.2.2 hm.size⟩)
    (fun _ _ _ h _ => h) ⟨by simpa using hRo, hZo, hLo⟩
    (fun x a' W => a' = { tmps := #[.agg (lm l), .pointer (some ⟨w.heap.size, 0, none⟩), .pointer (some ⟨w.heap.size + 1, 0, none⟩), .int .i64 x.1, .int .i64 x.2, .agg (lm l), .func (.func 97) #[] #[.pointer (some ⟨w.heap.size + 1 + 1, 0, none⟩)], .int .i64 x.1, .int .i64 x.2, undef, undef, undef, undef], defers := [] })
    (fun x a' A B h _ => h)
    ?assign ?body ?done ?stop
  case assign =>
    intro y i x W K hsz hv hI hx hK
    gi_wp2
    repeat (rw [Oper.semAt_some _ _ _ (by intro c h; cases h)]; go_simp; gi_wp2)
    exact hK _ _ (Mv.refl _ _) hI rfl
  case body =>
    rintro y i x a' W hl ⟨r, hr⟩ hsz hv ⟨hR, hZ, hL⟩ hx rfl
    have hi : i < 16 := by have := (List.getElem?_eq_some_iff.1 hx).1; rwa [pairs_len] at this
    rw [pairs_get l i hi] at hx
    obtain rfl : (i, ownerM (l i)) = x := by simpa using hx
    have hi' : (i : Int) < 16 := by omega
    have hcb := cell_row (i := i) hR hi
    have hfr := frozen_of_frz hZ i
    have HR := Lib.hid hR
    have HV := Lib.hid hv
    clear hR hv hx hr
    gi_wp2
    repeat (rw [Oper.semAt_some _ _ _ (by intro c h; cases h)]; go_simp; gi_wp2)
    refine ⟨Mv.st _ (.inl (.inl rfl)) (Mv.refl _ _), ?_, by rw [frzD_setCell]; exact hZ, by rw [Lt_setCell]; exact hL⟩
    rw [rowD_setCell, if_pos rfl, HR.out, set_ov]
    refine ov_congr _ _ fun j hj => ?_
    unfold upd
    dsimp only
    split
    · rename_i e; rw [e, if_pos (by omega)]
    · by_cases h : j < i
      · rw [if_pos h, if_pos (by omega)]
      · rw [if_neg h, if_neg (by omega)]
  case done =>
    rintro W ⟨hR, hZ, hL⟩ hv hK
    rw [pairs_len] at hR
    have hR2 : rowD W (w.heap.size + 1) = ov (ownersM l) := hR.trans (ov_congr _ _ fun j hj => by rw [if_pos hj]; rfl)
    have HV := Lib.hid hv
    clear hv hR
    gi_wp2
    refine ⟨by simp, .inl ⟨_, _, rfl, run_takeDeferred ?_, ?_⟩⟩
    · rw [heap_setRow _ _ _ _ (by omega)]; exact hK
    · have hrow : rowD ((setRow W (w.heap.size + 1) (ov (ownersM l))).putObj w1.heap.size (.deferred none)) (w.heap.size + 1) = ov (ownersM l) := by
        rw [rowD_same (World.putObj_heap_other (by omega))]; exact rowD_setRow_same _ _ _ (by rw [hR2])
      refine ⟨_, results_of rfl _ _ (w.heap.size + 1) rfl (loadVar_own (by rw [hrow]; simp)), by rw [hrow], ?_⟩
      have hV := HV.out
      have hE2 : Ext w W := Mv.ext_of hE1 hV (fun k h => by rcases h with h | h; exact h.elim; omega)
      have hE3 : Ext w (setRow W (w.heap.size + 1) (ov (ownersM l))) := Ext.sr _ (by omega) hE2
      exact Mv.ext_of hE3 (Mv.put (C := fun k => k = w1.heap.size) _ _ _ rfl) (fun k h => by omega)
  case stop => exact fun _ _ h => h.elim

end Go.Proofs.Ytlacidecomflkaa
