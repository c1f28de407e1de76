/- The last state; Go. -/
import Derived.Test.YtookffaojlkfaaaH2
import Derived.Test.YtookffaojlkfaaaXR
set_option linter.unusedSimpArgs false
set_option linter.unusedVariables false
namespace Go.Proofs.Ytookffaojlkfaaa
open Go.RowKit

attribute [local go_sem] Oper.semAt_some
set_option maxRecDepth 100000 in
set_option maxHeartbeats 4000000 in
theorem last_any (s : Int) (bs : List Int) (p : Option Addr) (c : Nat) (w : World) (hb : SlB w p bs) (hl : bs.length ≤ 1000) :
    Calls Try.prog 120 #[.func (.func 121) #[] #[], .int .u8 s, .slice p bs.length c] w fun e w' => e = .returned (.int .u8 (goL s bs)) ∧ Ext w w' := by
  refine (callsIn_wide (n := 5)).1 ?_
  refine callsIn_of_wp_marks Try.func120 rfl trivial ?_ rfl
  simp only [Try.ntmps120, List.size_toArray, List.length_cons, List.length_nil, Nat.reduceAdd, Nat.reduceSub, Array.replicate_succ, Array.replicate_zero, List.push_toArray, List.append_toArray, List.nil_append, List.cons_append]
  refine wpIn_wide.2 ?_
  go_wp2_with (go_at_call 124; (with_reducible refine (states_any s p bs.length c _).mono ?_); rintro e w2 ⟨rfl, rfl⟩)
  obtain ⟨W1, hW1⟩ : ∃ W1, w.alloc (.cells #[.int .u8 s] 5) = W1 := ⟨_, rfl⟩
  have g1 : Ext w W1 := by rw [← hW1]; exact Ext.al (Ext.rf _) _
  have c4 : W1.cell? ⟨w.heap.size, 0, none⟩ = some (.int .u8 s) := by rw [← hW1]; simp [go_sem]
  have z4 : frzD W1 w.heap.size = (0, 0) := by rw [← hW1]; unfold frzD; rw [World.alloc_heap_new]
  have l4 : Lt w.heap.size W1 := by rw [← hW1]; simp [Lt]
  rw [hW1]
  have hsz : W1.heap.size = w.heap.size + 1 := by rw [← hW1]; simp
  clear hW1
  obtain ⟨W2, hW2⟩ : ∃ W2, (((W1.alloc (Obj.cells #[.func (.func 121) #[] #[]] 125)).alloc (Obj.cells #[.int .u8 s] 5)).alloc (Obj.cells #[.slice p bs.length c] 104)) = W2 := ⟨_, rfl⟩
  have g2 : Ext W1 W2 := by rw [← hW2]; exact Ext.al (Ext.al (Ext.al (Ext.rf _) _) _) _
  have hsz2 : W2.heap.size = w.heap.size + 4 := by rw [← hW2]; simp [hsz]
  have cB : W2.cell? ⟨w.heap.size + 1 + 2, 0, none⟩ = some (.slice p bs.length c) := by rw [← hW2]; simp [go_sem, hsz]
  have cT : W2.cell? ⟨w.heap.size + 1, 0, none⟩ = some (.func (.func 121) #[] #[]) := by rw [← hW2]; simp [go_sem, hsz]
  have cS : W2.cell? ⟨w.heap.size + 1 + 1, 0, none⟩ = some (.int .u8 s) := by rw [← hW2]; simp [go_sem, hsz]
  have zS : frzD W2 (w.heap.size + 1 + 1) = (0, 0) := by rw [← hW2]; simp [go_sem, hsz]
  have k4 : W2.cell? ⟨w.heap.size, 0, none⟩ = some (.int .u8 s) := (g2.cell (p := ⟨w.heap.size, 0, none⟩) l4).trans c4
  have y4 : frzD W2 w.heap.size = (0, 0) := by unfold frzD; rw [g2.block _ l4]; exact z4
  rw [hW2]
  clear hW2 c4 z4
  refine (wpIn_wide (n := 5)).1 ?_
  refine wpIn_range rfl (by omega) (gf := 128) (lb := #[.pointer (some ⟨w.heap.size + 1 + 2, 0, none⟩), .pointer (some ⟨w.heap.size + 1, 0, none⟩), .pointer (some ⟨w.heap.size + 1 + 1, 0, none⟩)]) rfl trivial enters_states
    (states_iter _ s bs p c w W2 (w.heap.size + 1 + 2) (w.heap.size + 1) (w.heap.size + 1 + 1) (fun k => k = w.heap.size) (g1.tr g2) hb hl cB cT cS zS (by unfold Lt; omega) (by unfold Lt; omega) (by unfold Lt; omega) (by omega) (by omega) (by omega) (fun k e => by subst e; exact ⟨Nat.le_refl _, by omega, by omega, by omega⟩))
    (fun k e => by omega) (fun k e => by omega) (fun _ => rfl)
    (fun i W => ∃ v, W.cell? ⟨w.heap.size, 0, none⟩ = some (.int .u8 v) ∧ frzD W w.heap.size = (0, 0) ∧ Lt w.heap.size W ∧ (v = goL s (bs.take i) ∨ (stL s bs)[i]? = some v)) (fun _ _ => False)
    (fun i A B h hm => by
      obtain ⟨v, h1, h2, h3, h4⟩ := h
      have hs := hm.same w.heap.size h3 (by omega)
      exact ⟨v, by rw [cell_rowD, rowD_same hs, ← cell_rowD]; exact h1, by unfold frzD at h2 ⊢; rw [hs]; exact h2, Nat.lt_of_lt_of_le h3 hm.size, h4⟩)
    (fun _ _ _ h _ => h) ⟨s, k4, y4, Nat.lt_of_lt_of_le l4 g2.size, .inl rfl⟩
    (fun x a' W => W.cell? ⟨w.heap.size, 0, none⟩ = some (.int .u8 x) ∧ Lt w.heap.size W)
    (fun x a' A B h hm => ⟨by rw [cell_rowD, rowD_same (hm.same w.heap.size h.2 (by omega)), ← cell_rowD]; exact h.1, Nat.lt_of_lt_of_le h.2 hm.size⟩)
    ?assign ?body ?done ?stop
  case assign =>
    rintro y i x W K hsz' hv ⟨v, h1, h2, h3, h4⟩ hx hK
    have hf0 := frozen_of_frz h2 0
    gi_wp2
    repeat (rw [Oper.semAt_some _ _ _ (by intro c h; cases h)]; go_simp; gi_wp2)
    refine hK _ _ (Mv.st _ (.inl (.inl rfl)) (Mv.refl _ _)) ⟨x, World.cell?_setCell_same _ _ _ h1, by rw [frzD_setCell]; exact h2, by rw [Lt_setCell]; exact h3, .inr hx⟩ ⟨World.cell?_setCell_same _ _ _ h1, by rw [Lt_setCell]; exact h3⟩
  case body =>
    rintro y i x a' W hyl ⟨rr, hr⟩ hsz' hv ⟨v, h1, h2, h3, h4⟩ hx ⟨h5, h6⟩
    have hil : i < bs.length := by have := (List.getElem?_eq_some_iff.1 hx).1; rwa [stL_len] at this
    gi_wp2
    refine ⟨Mv.refl _ _, x, h5, h2, h3, .inl ?_⟩
    have := stL_get bs s i hil
    rw [hx] at this
    exact Option.some.inj this
  case done =>
    rintro W ⟨v, h1, h2, h3, h4⟩ hv hK
    have hvv : v = goL s bs := by
      rcases h4 with h | h
      · rw [h, stL_len, List.take_length]
      · rw [List.getElem?_eq_none (Nat.le_refl _)] at h; cases h
    subst hvv
    go_wp2
    refine ⟨by simp, .inl ⟨_, _, rfl, run_takeDeferred hK, ?_⟩⟩
    refine ⟨_, results_tmp rfl _ _ _, rfl, ?_⟩
    have hE2 : Ext w W := Mv.ext_of (g1.tr g2) hv (fun k h => by rcases h with h | h <;> omega)
    exact Mv.ext_of hE2 (Mv.put (C := fun k => k = W2.heap.size) _ _ _ rfl) (fun k h => by omega)
  case stop => intro _ _ h; exact h.elim
set_option maxHeartbeats 400000 in
theorem go_any (s : Int) (bs : List Int) (p : Option Addr) (c : Nat) (w : World) (hb : SlB w p bs) (hl : bs.length ≤ 1000) :
    Calls Try.prog 114 #[.int .u8 s, .slice p bs.length c] w fun e w' => e = .returned (.int .u8 (goL s bs)) ∧ Ext w w' := by
  go_enter Try.func114, Try.ntmps114
  go_wp2_with ((with_reducible refine (last_any s bs p c _ hb hl).mono ?_); rintro e w' ⟨rfl, hb⟩)
  go_ret
  exact ⟨rfl, hb⟩

end Go.Proofs.Ytookffaojlkfaaa
