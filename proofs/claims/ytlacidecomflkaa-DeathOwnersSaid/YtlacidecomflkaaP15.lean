/- move of the plan's reference. -/
import Derived.Test.YtlacidecomflkaaP14
set_option linter.unusedSimpArgs false
set_option linter.unusedVariables false
namespace Go.Proofs.Ytlacidecomflkaa
open Go.RowKit

theorem info_bools : (Try.prog.info? 40).map (·.size) = some 16 := by kernel_rfl
theorem loadVar_bools {w : World} {b : Nat} (h : (rowD w b).size = 16) : (loadVar 40 ⟨b, 0, none⟩).run Try.prog w = .ok (.agg (rowD w b)) w := by
  unfold rowD at h ⊢
  cases hg : w.heap[b]? with
  | none => rw [hg] at h; simp at h
  | some o =>
    rw [hg] at h
    cases o with
    | cells cs t fr => exact run_loadVar_row w b t _ cs fr _ hg Try.underlying40 rfl (by rw [info_bools]; simpa using h.symm)
    | _ => simp at h
theorem loadAt_bools {w : World} {b : Nat} (h : (rowD w b).size = 16) : (Instr.loadAt 40 (.pointer (some ⟨b, 0, none⟩))).run Try.prog w = .ok (.agg (rowD w b)) w := by
  simp only [Instr.loadAt, Instr.sureAddr, Sem.run_bind, Sem.run_pure, Result.andThen_ok]
  exact loadVar_bools h
theorem storeAt_bools {w : World} {b : Nat} (cs : Array Value) (hs : cs.size = 16) (h : (rowD w b).size = 16) (hz : frzD w b = (0, 0)) (h1 : cs.all (·.oneCell') = true) : (Instr.storeAt 40 (.pointer (some ⟨b, 0, none⟩)) (.agg cs)).run Try.prog w = .ok () (setRow w b cs) := by
  refine run_storeAt_mid w b 0 40 cs (fun j hj => ⟨?_, frozen_of_frz hz _⟩) (by rw [info_bools, hs]) h1
  rw [cell_rowD, Nat.zero_add, Array.getElem?_eq_getElem (by omega)]; rfl
@[go_sem ↓ high] theorem exec_load_bools (ρ : Operand → Value) (dst : Option Tmp) (x : Operand) (ty : TypeId) (pos : String) (after : Array Edge) (g : Option (Nat × Bool)) (w : World)
    (hx : ρ x = .pointer (some ⟨blkOf (ρ x), 0, none⟩)) (h : (rowD w (blkOf (ρ x))).size = 16) :
    (execOp ρ ⟨dst, .load 40 x, ty, pos, after, g⟩).run Try.prog w = .ok (.value (.agg (rowD w (blkOf (ρ x))))) w := by
  generalize hB : blkOf (ρ x) = B at *
  simp only [execOp, hx, Sem.run_bind, loadAt_bools h, Result.andThen_ok, Sem.run_pure]
@[go_sem ↓ high] theorem exec_store_bools (ρ : Operand → Value) (dst : Option Tmp) (x y : Operand) (ty : TypeId) (pos : String) (after : Array Edge) (g : Option (Nat × Bool)) (w : World)
    (hx : ρ x = .pointer (some ⟨blkOf (ρ x), 0, none⟩)) (hy : ρ y = .agg (ρ y).cells) (hs : (ρ y).cells.size = 16) (h : (rowD w (blkOf (ρ x))).size = 16) (hz : frzD w (blkOf (ρ x)) = (0, 0)) (h1 : oneC (ρ y).cells) :
    (execOp ρ ⟨dst, .store 40 x y, ty, pos, after, g⟩).run Try.prog w = .ok .skip (setRow w (blkOf (ρ x)) (ρ y).cells) := by
  generalize hB : blkOf (ρ x) = B at *
  generalize hC : (ρ y).cells = C at *
  simp only [execOp, hx, hy, Sem.run_bind, storeAt_bools _ hs h hz h1, Result.andThen_ok, Sem.run_pure]

/-- Sixteen marks: the cells. -/
def bv (f : Nat → Bool) : Array Value := rowv 16 fun i => .bool (f i)
@[go_sem, simp] theorem size_bv (f : Nat → Bool) : (bv f).size = 16 := size_rowv _ _
@[go_sem] theorem all_bv (f : Nat → Bool) : oneC (bv f) := all_rowv _ _ fun _ => rfl
@[go_sem ↓ high] theorem cells_bv (f : Nat → Bool) : (Value.agg (bv f)).cells = bv f := rfl
theorem set_bv (f : Nat → Bool) (k : Nat) (x : Bool) : (bv f).setIfInBounds k (.bool x) = bv (fun i => if i = k then x else f i) := by
  unfold bv; rw [set_rowv]; refine rowv_congr _ _ _ fun i _ => ?_; unfold upd; by_cases h : i = k <;> simp [h]
theorem bv_congr (f g : Nat → Bool) (h : ∀ i, i < 16 → f i = g i) : bv f = bv g := rowv_congr _ _ _ fun i hi => by rw [h i hi]
theorem ownBlock_lt {w : World} {base : Nat} {e : TypeId} {size : Nat} {v : Value} {n : Nat} {xs : List Value} (h : w.ownsRow base e size v n xs) : ∀ r, v.ownBlock = some r → r < w.heap.size := by
  intro r hr
  rcases h.2 with ⟨rfl, _⟩ | ⟨g, cap, cur, rfl, _, hg, _⟩
  · cases hr
  · have e : some g = some r := hr
    injection e with e; subst e
    exact (Array.getElem?_eq_some_iff.1 hg).1
theorem cell_two_at (w : World) (a b : Value) (t : TypeId) (B : Nat) (hB : B = w.heap.size) : ∀ j u, [a, b][j]? = some u → (w.alloc (.cells #[a, b] t)).cell? ((⟨B, 0, none⟩ : Addr).add j) = some u := by
  subst hB; exact cell_two_new w a b t
theorem Mv.sr {C : Nat → Prop} {A B : World} {b : Nat} (cs : Array Value) (hb : C b) (h : Mv C A B) : Mv C A (setRow B b cs) := by
  obtain ⟨h1, h2, h3, h4, h5, _⟩ := setCells_shape b cs.toList 0 B
  exact h.trans ⟨h3, h4, h5, by show _ ≤ (setRow B b cs).heap.size; rw [size_setRow]; exact Nat.le_refl _, fun k _ hk => heap_setRow _ _ _ _ (fun e => hk (by rw [e]; exact hb))⟩
theorem slS_one (w : World) (a b : Int) (t : TypeId) : SlS (w.alloc (.cells #[.int .i64 a, .int .i64 b] t)) (some ⟨w.heap.size, 0, none⟩) [⟨a, b⟩] := by
  intro k hk
  obtain rfl : k = 0 := by simpa using hk
  exact ⟨w.heap.size, 0, rfl, by simp, by rw [cell_rowD, rowD_new]; rfl, by rw [cell_rowD, rowD_new]; rfl⟩
theorem rapply_one (o : Nat → Int) (k : Nat) (q : Int) (w : World) (hk : k < 16) :
    Calls Try.prog 30 #[.agg (ov o), .slice (some ⟨w.heap.size, 0, none⟩) 1 1] (w.alloc (.cells #[.int .i64 k, .int .i64 q] 45)) fun e w' => e = .returned (.agg (ov (upd o k q))) ∧ Ext (w.alloc (.cells #[.int .i64 k, .int .i64 q] 45)) w' :=
  (rapply_any o _ [⟨(k : Int), q⟩] 1 _ (slS_one _ _ _ _) (by simp)).mono fun e w' h => ⟨h.1.trans (by
    have e : apply o [⟨(k : Int), q⟩] = upd o k q := by show apply1 o ⟨(k : Int), q⟩ = _; unfold apply1; rw [if_pos (by dsimp only; omega)]; rfl
    rw [e]), h.2⟩
set_option maxRecDepth 20000 in
set_option maxHeartbeats 4000000 in
theorem rmove_any (o : Nat → Int) (p : Option Addr) (ms : List Int) (c : Nat) (so : Nat → Bool) (w : World) (hs : Sl w p ms) (hlen : ms.length ≤ 1000) (hp : 0 < ms.length) :
    Calls Try.prog 56 #[.agg (ov o), .slice p ms.length c, .agg (bv so)] w fun e w' => ∃ v, e = .returned v ∧ w'.ownsRow w.heap.size 45 2 v (moveP so ms o).length (shC (moveP so ms o)) ∧ Ext w w' := by
  obtain ⟨i0, hi, hz0, hz1, hz2⟩ := info_parts info_sh
  go_enter Try.func56, Try.ntmps56
  go_wp2
  go_loopw [7, 8] (fun v i wr => ∃ k : Nat, k ≤ 16 ∧ i = .int .i64 k ∧ wr.ownsRow (w.heap.size + 2) 45 2 v (moveN so k) (shC ((moveP so ms o).take (moveN so k))) ∧
    rowD wr w.heap.size = ov (moveO so ms o k) ∧ frzD wr w.heap.size = (0, 0) ∧ rowD wr (w.heap.size + 1) = bv so ∧ Lt (w.heap.size + 1) wr ∧ Ext w wr) (fun _ i _ => 16 - (intOf i).toNat)
  case atStart => exact ⟨0, Nat.zero_le _, rfl, by simpa [moveN, shC] using World.ownsRow_nil _ _ _ _, by simp [go_sem]; rfl, by simp [go_sem], by simp [go_sem], by simp [Lt], by repeat (first | with_reducible exact Ext.rf _ | with_reducible assumption | with_reducible refine Ext.al ?_ _ | with_reducible refine Ext.dr ?_ | with_reducible refine Ext.dn ?_ _ | ((with_reducible refine Ext.st _ ?_ ?_); focus (first | omega | (simp; omega) | simp)) | ((with_reducible refine Ext.sr _ ?_ ?_); focus (first | omega | (simp; omega) | simp)) | with_reducible refine Ext.tr ?_ (by assumption) | with_reducible refine Ext.tr ?_ (up_ext (by assumption)) | with_reducible refine Ext.of (by assumption) ?_)⟩
  case round =>
    obtain ⟨k, hk, rfl, hO, hR, hZ, hB, hL, hE⟩ := hrel
    have HO := Lib.hid hO
    clear hO
    have hL0 : Lt w.heap.size wr := by unfold Lt at hL ⊢; omega
    have hsz : w.heap.size + 2 ≤ wr.heap.size := by unfold Lt at hL; omega
    have hmn := moveN_le so k
    by_cases hlt : k < 16
    · have hjl : (k : Int) < 16 := by omega
      have hcb := cell_row (i := k) hB hlt
      have HB := Lib.hid hB
      clear hB
      have HR := Lib.hid hR
      generalize hx : so k = x at hcb
      have HX := Lib.hid hx
      clear hx
      cases x
      · go_wp2
        go_roundw
        case rel => exact ⟨k + 1, by omega, by go_num, by rw [moveN_no _ _ HX.out]; exact HO.out, by rw [moveO_no _ _ _ _ HX.out]; exact hR, hZ, HB.out, hL, hE⟩
        case measure => simp [intOf]; omega
      · have HM := Lib.hid (moveO_yes so ms o k HX.out)
        have HN := Lib.hid (moveN_yes so k HX.out)
        have HG := Lib.hid (moveP_get so ms o k hlt HX.out)
        obtain ⟨q, hq0⟩ : ∃ q, least (moveO so ms o k) ms = q := ⟨_, rfl⟩
        rw [hq0] at HM HG
        have HQ := Lib.hid hq0
        clear hq0
        go_wp2_with (first
          | (go_at_call 59; go_must (with_reducible refine (rleast_any (moveO so ms o k) p ms c _ (hs.ext hE) hlen hp).mono ?_); rw [HQ.out]; rintro e w1 ⟨rfl, hb_1⟩; obtain ⟨hc_1, hf_1, hl_1, hz_1, -⟩ := kept hb_1; obtain ⟨hr_1, hq_1⟩ := keptR hb_1; (try simp at hz_1); have HO1 := Lib.hid (ownsRow_mv HO.out (Mv.of_ext (C := fun _ => False) hb_1) (fun _ _ h => h)); have OB := Lib.hid (ownBlock_lt HO.out); have OG := Lib.hid (ownBlock_ge HO.out); have hs1 := hb_1.size)
          | (at_builtin; go_must (refine wpList_append_own _ rfl _ _ 24 rfl (w.heap.size + 2) 45 i0 (.agg #[.int .i64 0, .int .i64 0]) 2 16 Try.underlying24 hi hz0 hz1 hz2 rfl (by decide) _ _ _ rfl ((HO1.out.alloc _).alloc _) ⟨w1.heap.size + 1, 0, none⟩ 1 1 [.int .i64 k, .int .i64 q] rfl rfl (cell_two_at _ _ _ _ _ (by simp)) (by simp [Value.oneCell']) (by unfold maxLen; omega) (by omega) (by simp; omega) ?_); intro v' w2 hown' hgrow _; go_must (have hs2 : w1.heap.size + 2 ≤ w2.heap.size := by have := hgrow.size; simp at this; omega); go_must (have hb2 : ∀ b, b < w1.heap.size + 2 → u7.ownBlock ≠ some b → w2.heap[b]? = (((w1.alloc (.cells #[.int .i64 k, .int .i64 q] 45)).alloc (.cells #[.int .i64 k, .int .i64 q] 45))).heap[b]? := fun b h1 h2 => hgrow.block b (by simp; omega) h2.symm); go_must (have g0 : u7.ownBlock ≠ some w.heap.size := fun e => by have := OG.out _ e; omega); go_must (have g1 : u7.ownBlock ≠ some (w.heap.size + 1) := fun e => by have := OG.out _ e; omega); go_must (have g2 : u7.ownBlock ≠ some w1.heap.size := fun e => by have := OB.out _ e; omega); go_must (have hOld : ∀ b, b < wr.heap.size → u7.ownBlock ≠ some b → w2.heap[b]? = wr.heap[b]? := fun b h1 h2 => by rw [hb2 b (by omega) h2, Below.heap_alloc _ _ _ (by simp; omega), Below.heap_alloc _ _ _ (by omega), hb_1.block b h1]); go_must (have r2 : rowD w2 w.heap.size = ov (moveO so ms o k) := (rowD_same (hOld _ (by omega) g0)).trans HR.out); go_must (have z2 : frzD w2 w.heap.size = (0, 0) := by unfold frzD; rw [hOld _ (by omega) g0]; exact hZ); go_must (have rb2 : rowD w2 (w.heap.size + 1) = bv so := (rowD_same (hOld _ (by omega) g1)).trans HB.out); go_must (have c2r : rowD w2 w1.heap.size = #[.int .i64 k, .int .i64 q] := by rw [rowD_same (hb2 _ (by omega) g2), rowD_same (Below.heap_alloc _ _ _ (by simp)), rowD_new]); go_must (have c20 : w2.cell? ⟨w1.heap.size, 0, none⟩ = some (.int .i64 k) := by rw [cell_rowD, c2r]; rfl); go_must (have c21 : w2.cell? ⟨w1.heap.size, 1, none⟩ = some (.int .i64 q) := by rw [cell_rowD, c2r]; rfl); go_must (have l20 : Lt w.heap.size w2 := by unfold Lt; omega); go_must (have HMV := Lib.hid (show Mv (fun k => w.heap.size + 2 ≤ k) wr w2 from ((Mv.al _ (Mv.al _ (Mv.of_ext hb_1)))).trans (Mv.of_grown hgrow fun r e => .inl (OG.out r e)))); go_must (have HOW := Lib.hid hown'); go_must (have HRB := Lib.hid rb2); clear hown' hgrow hb2 hOld rb2 c2r)
          | (go_at_call 30; go_must (with_reducible refine (rapply_one (moveO so ms o k) k q _ hlt).mono ?_); rintro e w3 ⟨rfl, hb_3⟩; obtain ⟨hc_3, hf_3, hl_3, hz_3, -⟩ := kept hb_3; obtain ⟨hr_3, hq_3⟩ := keptR hb_3; (try simp at hz_3)))
        go_roundw
        case rel =>
          have hE2 : Ext w w2 := Mv.ext_of hE HMV.out (fun _ h => by omega)
          have hA : Ext w2 w3 := (Ext.al (Ext.rf _) _).tr hb_3
          have hrow : rowD w3 w.heap.size = ov (moveO so ms o k) := row_ext hA l20 r2
          have hz3 : frzD w3 w.heap.size = (0, 0) := by unfold frzD at z2 ⊢; rw [hA.block _ l20]; exact z2
          have hlt2 : w.heap.size + 1 < w2.heap.size := by omega
          have hs3 := hA.size
          refine ⟨k + 1, by omega, by go_num, ?_, ?_, ?_, ?_, ?_, ?_⟩
          · have h := ownsRow_mv (C := fun b => b = w.heap.size) HOW.out (Mv.sr (b := w.heap.size) (ov (upd (moveO so ms o k) k q)) rfl (Mv.of_ext hA)) (fun b hb e => by omega)
            have e : (moveP so ms o).take (moveN so (k + 1)) = (moveP so ms o).take (moveN so k) ++ [⟨k, q⟩] := by rw [HN.out, List.take_add_one, HG.out]; rfl
            rw [e, shC_snoc, HN.out]; exact h
          · rw [rowD_setRow_same _ _ _ (by rw [hrow]; simp), HM.out]
          · rw [frzD_setRow]; exact hz3
          · rw [rowD_setRow_other _ _ _ _ (by omega)]; exact row_ext hA hlt2 HRB.out
          · rw [Lt_setRow]; show w.heap.size + 1 < w3.heap.size; omega
          · exact Ext.sr _ (Nat.le_refl _) (hE2.tr hA)
        case measure => simp [intOf]; omega
    · obtain rfl : k = 16 := by omega
      have hO := HO.out
      rw [← moveP_len so ms o, List.take_length] at hO
      have HO2 := Lib.hid hO
      clear hO
      go_wp2
      go_ret
      exact ⟨_, rfl, ownsRow_le HO2.out (by omega), hE⟩

end Go.Proofs.Ytlacidecomflkaa
