/- slices.Insert into a row of one's own. -/
import Derived.Test.YtookffaojlkfaaaC14
set_option linter.unusedSimpArgs false
set_option linter.unusedVariables false
namespace Go.Proofs.Ytookffaojlkfaaa
open Go.RowKit
theorem heap_drew (w : World) : w.drew.heap = w.heap := rfl

set_option maxRecDepth 100000 in
set_option maxHeartbeats 4000000 in
theorem ins_end_C (base : Nat) (w : World) (v : Value) (xs : List Co) (x : Co) (vb : Nat) (hl : xs.length ≤ 1000) (hbs : base ≤ w.heap.size) (ho : w.ownsRow base 43 6 v xs.length (flC xs))
    (hx : w.heap[vb]? = some (.cells #[.int .u32 x.t.a, .int .u32 x.t.b, .int .u16 x.t.c, .int .u16 x.t.d, .int .i64 x.s, .int .i64 x.l] 43 (0, 0))) :
    Calls Try.prog 53 #[v, .int .i64 xs.length, .slice (some ⟨vb, 0, none⟩) 1 1] w fun e w' => ∃ v', e = .returned v' ∧ w'.ownsRow base 43 6 v' (xs.length + 1) (flC (insAt xs xs.length x)) ∧ Mv (fun b => base ≤ b) w w' := by
  obtain ⟨i0, hi, hz0, hz1, hz2⟩ := info_parts info_C
  have hnews : ∀ j u, (x.cl)[j]? = some u → w.cell? (Addr.add ⟨vb, 0, none⟩ j) = some u := by
    intro j u hu
    rw [Addr.add_lit, Nat.zero_add, show w.cell? ⟨vb, j, none⟩ = (x.cl.toArray)[j]? by unfold World.cell?; rw [hx]; rfl]
    simpa using hu
  have HN := Lib.hid hnews
  have HO := Lib.hid ho
  have hone : ∀ u ∈ x.cl, u.oneCell' = true := by
    have := flC_one [x]
    unfold flC at this
    simpa using this
  have hfin : flC xs ++ x.cl = flC (insAt xs xs.length x) := by
    rw [flC_ins xs _ x (Nat.le_refl _), ← flC_len xs, List.take_length, List.drop_length, List.append_nil]
  have H1 := Lib.hid hone
  have HF := Lib.hid hfin
  have hob : ∀ r, v.ownBlock = some r → base ≤ r := fun r h => (ho.lt r h).1
  clear hone hfin hnews hx
  obtain ⟨rfl, h0⟩ | ⟨g, cap, rfl, hc⟩ : (v = .slice none 0 0 ∧ xs.length = 0) ∨ ∃ g cap, v = .slice (some ⟨g, 0, none⟩) xs.length cap ∧ xs.length ≤ cap := by
    rcases ho.2 with ⟨rfl, h0⟩ | ⟨g, cap, cur, rfl, hg, hgb, h1, h2, h3, h4⟩
    · exact .inl ⟨rfl, h0⟩
    · exact .inr ⟨g, cap, rfl, h1⟩
  · clear ho
    rw [h0] at HO ⊢
    have H0 := Lib.hid h0
    clear h0
    go_enter Try.func53, Try.ntmps53
    go_wp2_with (at_builtin; refine wpList_append_own _ rfl _ _ 22 rfl base 43 i0 (.agg #[.int .u32 0, .int .u32 0, .int .u16 0, .int .u16 0, .int .i64 0, .int .i64 0]) 6 32 Try.underlying22 hi hz0 hz1 hz2 rfl (by decide) _ _ _ rfl HO.out ⟨vb, 0, none⟩ 1 1 x.cl rfl rfl HN.out H1.out (by unfold maxLen; omega) (by omega) hbs ?_; intro v' w2 hown' hgrow _; have HOW := Lib.hid hown'; have HG := Lib.hid hgrow; clear hown' hgrow)
    go_ret
    refine ⟨v', rfl, ?_, Mv.of_grown HG.out fun r e => .inl (hob r e)⟩
    rw [H0.out] at HF; rw [← HF.out]; exact HOW.out
  · clear ho
    go_enter Try.func53, Try.ntmps53
    go_wp2_with (at_builtin; refine wpList_append_own _ rfl _ _ 22 rfl base 43 i0 (.agg #[.int .u32 0, .int .u32 0, .int .u16 0, .int .u16 0, .int .i64 0, .int .i64 0]) 6 32 Try.underlying22 hi hz0 hz1 hz2 rfl (by decide) _ _ _ rfl HO.out ⟨vb, 0, none⟩ 1 1 x.cl rfl rfl HN.out H1.out (by unfold maxLen; omega) (by omega) hbs ?_; intro v' w2 hown' hgrow _; have HOW := Lib.hid hown'; have HG := Lib.hid hgrow; clear hown' hgrow)
    all_goals go_ret
    all_goals (refine ⟨v', rfl, ?_, Mv.of_grown HG.out fun r e => .inl (hob r e)⟩; rw [← HF.out]; exact HOW.out)

set_option maxHeartbeats 1000000 in
theorem ins_C (base : Nat) (w : World) (v : Value) (xs : List Co) (i : Nat) (x : Co) (vb : Nat) (hi : i ≤ xs.length) (hl : xs.length ≤ 1000) (hbs : base ≤ w.heap.size) (ho : w.ownsRow base 43 6 v xs.length (flC xs))
    (hx : w.heap[vb]? = some (.cells #[.int .u32 x.t.a, .int .u32 x.t.b, .int .u16 x.t.c, .int .u16 x.t.d, .int .i64 x.s, .int .i64 x.l] 43 (0, 0))) (hvb : v.ownBlock ≠ some vb) :
    Calls Try.prog 53 #[v, .int .i64 i, .slice (some ⟨vb, 0, none⟩) 1 1] w fun e w' => ∃ v', e = .returned v' ∧ w'.ownsRow base 43 6 v' (insAt xs i x).length (flC (insAt xs i x)) ∧ Mv (fun b => base ≤ b) w w' := by
  rw [insAt_len]
  by_cases hn : i = xs.length
  · subst hn
    exact ins_end_C base w v xs x vb hl hbs ho hx
  obtain ⟨g, cap, cur, rfl, hg, hgb, hc1, hcm, hcs, hct⟩ : ∃ g cap cur, v = .slice (some ⟨g, 0, none⟩) xs.length cap ∧ base ≤ g ∧ w.heap[g]? = some (.cells cur 43 (0, 0)) ∧ xs.length ≤ cap ∧ cap ≤ maxLen ∧ cur.size = cap * 6 ∧ cur.toList.take (xs.length * 6) = flC xs := by
    rcases ho.2 with ⟨_, h0⟩ | h
    · omega
    · obtain ⟨g, cap, cur, h1, h2, h3, h4, h5, h6, h7⟩ := h; exact ⟨g, cap, cur, h1, h2, h3, h4, h5, h6, h7⟩
  have hne : vb ≠ g := fun e => hvb (by rw [e]; rfl)
  have hrow : rowD w g = cur := by unfold rowD; rw [hgb]
  have hfz : ∀ j, w.frozen? ⟨g, j, none⟩ = false := fun j => frozen_of_frz (by unfold frzD; rw [hgb]) j
  have hfv : ∀ j, w.frozen? ⟨vb, j, none⟩ = false := fun j => frozen_of_frz (by unfold frzD; rw [hx]) j
  have hcell : ∀ j u, (flC xs)[j]? = some u → w.cell? ⟨g, j, none⟩ = some u := by
    intro j u hu
    rw [cell_rowD, hrow]
    rw [← hct, List.getElem?_take] at hu
    split at hu
    · rw [Array.getElem?_toList] at hu; exact hu
    · cases hu
  have hnews : ∀ j u, (x.cl)[j]? = some u → w.cell? ⟨vb, j, none⟩ = some u := by
    intro j u hu
    rw [show w.cell? ⟨vb, j, none⟩ = (x.cl.toArray)[j]? by unfold World.cell?; rw [hx]; rfl]
    simpa using hu
  have hone : ∀ u ∈ x.cl, u.oneCell' = true := by
    have := flC_one [x]
    unfold flC at this
    simpa using this
  have hlx : xs.length * 6 = (flC xs).length := (flC_len xs).symm
  have hcl : cur.toList.length = cap * 6 := by simpa using hcs
  by_cases hr : xs.length + 1 ≤ cap
  · refine (ins_shift_C g xs.length cap i vb 1 1 (flC xs) x.cl w (by omega) (by omega) hr hcm hne (flC_len xs) rfl hcell (fun j hj => by rw [cell_rowD, hrow, Array.getElem?_eq_getElem (by omega)]; rfl) hfz hnews (flC_one xs) hone
      43 43 6 cur.size (by unfold World.shape?; rw [hx]; rfl) (by unfold World.shape?; rw [hgb]) (by omega) (hfv _) (hfv _)).mono ?_
    rintro e w' ⟨rfl, rfl⟩
    obtain ⟨cur1, h1, e1⟩ := cells_setCells ((flC xs).drop (i * 6)) ((i + 1) * 6) w.drew cur hgb
    obtain ⟨cur2, h2, e2⟩ := cells_setCells x.cl (i * 6) _ cur1 h1
    refine ⟨_, rfl, own_mk hg h2 hr hcm ?_ ?_, Mv.sc hg _ _ _ _ (Mv.sc hg _ _ _ _ (Mv.dr (Mv.refl _ _)))⟩
    · rw [e2, setL_len, e1, setL_len]; exact hcl
    · rw [e2, e1, flC_ins xs i x hi]
      exact setL_in _ _ _ i xs.length 6 hi hct (flC_len xs) rfl (by omega)
  · have hcap : cap = xs.length := by omega
    refine (ins_grow_C g xs.length cap i vb 1 1 (flC xs) x.cl w (by omega) (by omega) hc1 (by omega) (by omega) (flC_len xs) rfl hcell hnews (flC_one xs) hone).mono ?_
    rintro e w' ⟨rfl, rfl⟩
    have hGn : xs.length + 1 ≤ grownCap w (xs.length + 1) cap 43 := grownCap_ge w _ _ _
    have hGm : grownCap w (xs.length + 1) cap 43 ≤ maxLen := grownCap_le_maxLen w (xs.length + 1) cap 43 (by unfold maxLen; omega)
    generalize grownCap w (xs.length + 1) cap 43 = G at *
    obtain ⟨ROW, hROW⟩ : ∃ ROW : Array Value, ROW = ((flC xs).take (i * 6)).toArray ++ Builtin.zeroCells (Value.cells (.agg #[.int .u32 0, .int .u32 0, .int .u16 0, .int .u16 0, .int .i64 0, .int .i64 0])) (xs.length + 1 - i) ++ Builtin.zeroCells (Value.cells (.agg #[.int .u32 0, .int .u32 0, .int .u16 0, .int .u16 0, .int .i64 0, .int .i64 0])) (G - (xs.length + 1)) := ⟨_, rfl⟩
    rw [← hROW]
    have hRs : ROW.toList.length = G * 6 := by
      rw [hROW]
      simp [Builtin.zeroCells, Value.cells, flC_len]
      omega
    obtain ⟨R, hR⟩ : ∃ R : List Value, R = (Builtin.zeroCells (Value.cells (.agg #[.int .u32 0, .int .u32 0, .int .u16 0, .int .u16 0, .int .i64 0, .int .i64 0])) (xs.length + 1 - i)).toList ++ (Builtin.zeroCells (Value.cells (.agg #[.int .u32 0, .int .u32 0, .int .u16 0, .int .u16 0, .int .i64 0, .int .i64 0])) (G - (xs.length + 1))).toList := ⟨_, rfl⟩
    have hcut : ROW.toList = (flC xs).take (i * 6) ++ R := by rw [hROW, hR, Array.toList_append, Array.toList_append, List.append_assoc]
    clear hROW hR
    obtain ⟨cur1, h1, e1⟩ := cells_setCells x.cl (i * 6) ((w.alloc (.cells ROW 43)).drew) ROW (World.alloc_heap_new _ _)
    obtain ⟨cur2, h2, e2⟩ := cells_setCells ((flC xs).drop (i * 6)) ((i + 1) * 6) (((w.alloc (.cells ROW 43)).drew.setCells w.heap.size (i * 6) x.cl).drew) cur1 (by rw [heap_drew]; exact h1)
    refine ⟨_, rfl, own_mk hbs h2 hGn hGm ?_ ?_, Mv.sc hbs _ _ _ _ (Mv.dr (Mv.sc hbs _ _ _ _ (Mv.dr (Mv.al _ (Mv.refl _ _)))))⟩
    · rw [e2, setL_len, e1, setL_len]; exact hRs
    · rw [e2, e1, flC_ins xs i x hi]
      exact setL_new _ _ _ R i xs.length 6 hi hcut (flC_len xs) rfl (by rw [hRs]; omega)

end Go.Proofs.Ytookffaojlkfaaa
