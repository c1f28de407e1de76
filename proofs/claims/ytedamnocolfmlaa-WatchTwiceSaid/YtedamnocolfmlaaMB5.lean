/- Lemmas of this claim, put together out of: EC, ED, EE, EF, EG, EH, EI, EJ, EK, EL, F, EO, XM, J4, EP. -/
import Derived.Test.YtedamnocolfmlaaMB4
import Derived.WalkKit
import Derived.ProofKit
import Derived.OpenShut
import Derived.Lib.SmallJoins
import Derived.Deep.Slices
import Derived.Deep.Fields
import Derived.ChangeSame
set_option linter.unusedSimpArgs false
set_option linter.unusedVariables false
/- New tables, controllers, agents, worlds. -/
namespace Go.Proofs.Ytedamnocolfmlaa
open Go.RowKit

theorem set_tb {W : World} {b k : Nat} {t : Tb} (e : En) (hr : rowD W b = tbv t) (hk : k < 16) : rowD (setAt W b (1 + k * 4) (env e)) b = tbv { t with rows := fun i => if i = k then e else t.rows i } := by
  unfold tbv at *
  unfold env
  rw [rowD_setAt_same _ _ _ _ _ _ _ hr (by omega)]
  refine rowv_congr _ _ _ fun j hj => ?_
  unfold ovl Tb.at
  dsimp only
  by_cases h0 : j = 0
  · subst h0; rw [if_neg (by omega)]; rfl
  · by_cases h1 : 1 + k * 4 ≤ j ∧ j < 1 + k * 4 + 4
    · rw [if_pos h1, if_neg h0, if_pos (show (j - 1) / 4 = k by omega), show (j - 1) % 4 = j - (1 + k * 4) by omega]
    · rw [if_neg h1, if_neg h0, if_neg h0, if_neg (show ¬ (j - 1) / 4 = k by omega)]
theorem set_agmd {W : World} {b k : Nat} {a : Ag} (e : Md) (hr : rowD W b = agv a) (hk : k < 16) : rowD (setAt W b (2 + k * 4) (mdv e)) b = agv { a with md := fun i => if i = k then e else a.md i } := by
  unfold agv at *
  unfold mdv
  rw [rowD_setAt_same _ _ _ _ _ _ _ hr (by omega)]
  refine rowv_congr _ _ _ fun j hj => ?_
  unfold ovl Ag.at
  dsimp only
  by_cases h0 : j < 2
  · obtain rfl | rfl : j = 0 ∨ j = 1 := by omega
    · rw [if_neg (by omega)]; rfl
    · rw [if_neg (by omega)]; rfl
  · have n0 : ¬ j = 0 := by omega
    have n1 : ¬ j = 1 := by omega
    by_cases h1 : 2 + k * 4 ≤ j ∧ j < 2 + k * 4 + 4
    · rw [if_pos h1, if_neg n0, if_neg n1, if_pos (show j < 66 by omega), if_pos (show (j - 2) / 4 = k by omega), show (j - 2) % 4 = j - (2 + k * 4) by omega]
    · rw [if_neg h1, if_neg n0, if_neg n0, if_neg n1, if_neg n1]
      by_cases h2 : j < 66
      · rw [if_pos h2, if_pos h2, if_neg (show ¬ (j - 2) / 4 = k by omega)]
      · rw [if_neg h2, if_neg h2]
def mvv (m : Mo) : Array Value := rowv 6 m.at
theorem mvv_lit (m : Mo) : (#[.int .u8 m.ph, .int .i64 m.cur, .int .i64 m.nxt, .int .i64 m.gen, .int .i64 m.tick, .int .i64 m.ver] : Array Value) = mvv m := by unfold mvv; rfl
theorem set_stmv {W : World} {b k : Nat} {s : St} (e : Mo) (hr : rowD W b = stv s) (hk : k < 16) : rowD (setAt W b (9 + k * 6) (mvv e)) b = stv { s with mv := fun i => if i = k then e else s.mv i } := by
  unfold stv at *
  unfold mvv
  rw [rowD_setAt_same _ _ _ _ _ _ _ hr (by omega)]
  refine rowv_congr _ _ _ fun j hj => ?_
  unfold ovl St.at
  dsimp only
  by_cases h1 : 9 + k * 6 ≤ j ∧ j < 9 + k * 6 + 6
  · rw [if_pos h1, if_neg (show ¬ j < 9 by omega), if_pos (show j < 105 by omega), if_pos (show (j - 9) / 6 = k by omega), show (j - 9) % 6 = j - (9 + k * 6) by omega]
  · rw [if_neg h1]
    by_cases h2 : j < 9
    · rw [if_pos h2, if_pos h2]
    · rw [if_neg h2, if_neg h2]
      by_cases h3 : j < 105
      · rw [if_pos h3, if_pos h3, if_neg (show ¬ (j - 9) / 6 = k by omega)]
      · rw [if_neg h3, if_neg h3]
theorem set_sthas {W : World} {b k : Nat} {s : St} (x : Int) (hr : rowD W b = stv s) (hk : k < 3) : rowD (W.setCell ⟨b, 186 + k, none⟩ (.int .i64 x)) b = stv { s with has := fun i => if i = k then x else s.has i } := by
  rw [rowD_setCell, if_pos rfl, hr]
  unfold stv
  rw [set_rowv]
  refine rowv_congr _ _ _ fun j hj => ?_
  unfold upd St.at
  dsimp only
  by_cases h1 : j = 186 + k
  · rw [if_pos h1, if_neg (show ¬ j < 9 by omega), if_neg (show ¬ j < 105 by omega), if_neg (show ¬ j < 170 by omega), if_neg (show ¬ j < 186 by omega), if_pos (show j < 189 by omega), if_pos (show j - 186 = k by omega)]
  · rw [if_neg h1]
    by_cases h2 : j < 9
    · rw [if_pos h2, if_pos h2]
    rw [if_neg h2, if_neg h2]
    by_cases h3 : j < 105
    · rw [if_pos h3, if_pos h3]
    rw [if_neg h3, if_neg h3]
    by_cases h4 : j < 170
    · rw [if_pos h4, if_pos h4]
    rw [if_neg h4, if_neg h4]
    by_cases h5 : j < 186
    · rw [if_pos h5, if_pos h5]
    rw [if_neg h5, if_neg h5]
    by_cases h6 : j < 189
    · rw [if_pos h6, if_pos h6, if_neg (show ¬ j - 186 = k by omega)]
    · rw [if_neg h6, if_neg h6]
theorem set_wdag {W : World} {b k : Nat} {x : Wd} (e : Ag) (hr : rowD W b = wdv x) (hk : k < 6) : rowD (setAt W b (391 + k * 67) (agv e)) b = wdv { x with ag := fun i => if i = k then e else x.ag i } := by
  unfold wdv at *
  unfold agv
  rw [rowD_setAt_same _ _ _ _ _ _ _ hr (by omega)]
  refine rowv_congr _ _ _ fun j hj => ?_
  unfold ovl Wd.at
  dsimp only
  by_cases h1 : 391 + k * 67 ≤ j ∧ j < 391 + k * 67 + 67
  · rw [if_pos h1, if_neg (show ¬ j = 0 by omega), if_neg (show ¬ j = 1 by omega), if_neg (show ¬ j < 193 by omega), if_neg (show ¬ j < 391 by omega), if_pos (show j < 793 by omega), if_pos (show (j - 391) / 67 = k by omega), show (j - 391) % 67 = j - (391 + k * 67) by omega]
  · rw [if_neg h1]
    by_cases h2 : j = 0
    · rw [if_pos h2, if_pos h2]
    rw [if_neg h2, if_neg h2]
    by_cases h3 : j = 1
    · rw [if_pos h3, if_pos h3]
    rw [if_neg h3, if_neg h3]
    by_cases h4 : j < 193
    · rw [if_pos h4, if_pos h4]
    rw [if_neg h4, if_neg h4]
    by_cases h5 : j < 391
    · rw [if_pos h5, if_pos h5]
    rw [if_neg h5, if_neg h5]
    by_cases h6 : j < 793
    · rw [if_pos h6, if_pos h6, if_neg (show ¬ (j - 391) / 67 = k by omega)]
    · rw [if_neg h6, if_neg h6]
theorem tbv_congr {t u : Tb} (h : t.ver = u.ver) (h2 : ∀ i, i < 16 → t.rows i = u.rows i) : tbv t = tbv u := by
  unfold tbv
  refine rowv_congr _ _ _ fun j hj => ?_
  unfold Tb.at
  by_cases h0 : j = 0
  · rw [if_pos h0, if_pos h0, h]
  · rw [if_neg h0, if_neg h0, h2 _ (by omega)]
attribute [local go_sem ↓ high] exec_zalloc_tb sem_zalloc_tb exec_zalloc_st sem_zalloc_st exec_zalloc_ag sem_zalloc_ag exec_zalloc_wd sem_zalloc_wd
theorem rnone_row (w : World) : Calls Try.prog 64 #[] w fun e w' => e = .returned (.agg (env en0)) ∧ Ext w w' := by
  have h := rnone_any w
  have e : env en0 = #[.int .i64 (-1), .int .i64 (-1), .int .i64 0, .int .i64 0] := env_lit en0
  rw [e]
  exact h
set_option maxRecDepth 100000 in
set_option maxHeartbeats 4000000 in
theorem rnew10_any (w : World) : Calls Try.prog 45 #[] w fun e w' => e = .returned (.agg (tbv tb0)) ∧ Ext w w' := by
  go_enter Try.func45, Try.ntmps45
  go_wp2
  go_loopw [2] (fun a wr => ∃ k : Nat, k ≤ 16 ∧ a = .int .i64 k ∧ rowD wr (w.heap.size + 1) = tbv ⟨0, fun i => if i < k then en0 else enz⟩ ∧ frzD wr (w.heap.size + 1) = (0, 0) ∧ rowD wr w.heap.size = tbv tbz ∧ frzD wr w.heap.size = (0, 0) ∧ Lt (w.heap.size + 1) wr ∧ Ext w wr) (fun a _ => 16 - (intOf a).toNat)
  case atStart => exact ⟨0, Nat.zero_le _, rfl, by simp [go_sem]; rfl, by simp [go_sem], by simp [go_sem], by simp [go_sem], by simp [go_sem], by (repeat (first | with_reducible exact Ext.rf _ | with_reducible assumption | with_reducible refine Ext.al ?_ _ | with_reducible refine Ext.dr ?_ | with_reducible refine Ext.dn ?_ _ | ((with_reducible refine Ext.st _ ?_ ?_); focus (first | omega | (simp; omega) | simp)) | with_reducible refine Ext.tr ?_ (by assumption) | with_reducible refine Ext.tr ?_ (up_ext (by assumption)) | with_reducible refine Ext.of (by assumption) ?_))⟩
  case round =>
    obtain ⟨k, hk, rfl, hR, hZ, hR0, hZ0, hL, hE⟩ := hrel
    have hL0 : Lt w.heap.size wr := by unfold Lt at *; omega
    by_cases hlt : k < 16
    · have hlt' : (k : Int) < 16 := by omega
      have HR := Lib.hid hR
      have HZ := Lib.hid hZ
      have HR0 := Lib.hid hR0
      have HZ0 := Lib.hid hZ0
      clear hR hZ hR0 hZ0
      have hE' := hE.size
      have hfit : 1 + k * 4 + 4 ≤ 65 := by omega
      go_wp2_with (go_at_call 64; (with_reducible refine (rnone_row _).mono ?_); rintro e W2 ⟨rfl, g2⟩; have hR2 := row_ext' g2 hL HR.out; have hZ2 : frzD W2 (w.heap.size + 1) = (0, 0) := (by unfold frzD; rw [g2.block _ hL]; exact HZ.out))
      go_roundw
      case rel =>
        refine ⟨k + 1, by omega, by go_num, (set_tb en0 hR2 hlt).trans (tbv_congr rfl fun i hi => ?_), by rw [frzD_setAt]; exact hZ2, by rw [rowD_setAt_other _ _ _ _ _ (by omega)]; exact row_ext' g2 hL0 HR0.out, by rw [frzD_setAt]; unfold frzD; rw [g2.block _ hL0]; exact HZ0.out, by rw [Lt_setAt]; exact Nat.lt_of_lt_of_le hL g2.size, Ext.sa _ (by omega) (hE.tr g2)⟩
        dsimp only
        by_cases h : i = k
        · rw [if_pos h, if_pos (by omega)]
        · rw [if_neg h]
          by_cases h2 : i < k
          · rw [if_pos h2, if_pos (by omega)]
          · rw [if_neg h2, if_neg (by omega)]
      case measure => simp [intOf]; omega
    · obtain rfl : k = 16 := by omega
      have hR3 : rowD wr (w.heap.size + 1) = tbv tb0 := hR.trans (tbv_congr rfl fun i hi => by dsimp only; rw [if_pos hi]; rfl)
      have HE := Lib.hid hE
      clear hR hE
      go_wp2
      have hr : rowD (setAt wr w.heap.size 0 (tbv tb0)) w.heap.size = tbv tb0 := setAt_all _ _ _ (by rw [hR0, size_tbv, size_tbv])
      refine bodyPost_ret (results_of rfl _ _ w.heap.size rfl (lv_tb hr)) rfl ⟨rfl, Ext.sa _ (Nat.le_refl _) HE.out⟩
def stN (win : Int) : St := { stz with t := tb0, win := win, mv := fun _ => mo0, has := fun _ => -1 }
theorem stv_congr {s u : St} (h1 : s.mb = u.mb) (h2 : ∀ i, i < 16 → s.mv i = u.mv i) (h3 : s.t = u.t) (h4 : s.set = u.set) (h5 : ∀ i, i < 3 → s.has i = u.has i) (h6 : s.win = u.win) (h7 : s.p = u.p) (h8 : s.pl = u.pl) (h9 : s.c = u.c) : stv s = stv u := by
  unfold stv
  refine rowv_congr _ _ _ fun j hj => ?_
  unfold St.at
  rw [h1, h3, h4, h6, h7, h8, h9]
  by_cases a1 : j < 9
  · rw [if_pos a1, if_pos a1]
  rw [if_neg a1, if_neg a1]
  by_cases a2 : j < 105
  · rw [if_pos a2, if_pos a2, h2 _ (by omega)]
  rw [if_neg a2, if_neg a2]
  by_cases a3 : j < 170
  · rw [if_pos a3, if_pos a3]
  rw [if_neg a3, if_neg a3]
  by_cases a4 : j < 186
  · rw [if_pos a4, if_pos a4]
  rw [if_neg a4, if_neg a4]
  by_cases a5 : j < 189
  · rw [if_pos a5, if_pos a5, h5 _ (by omega)]
  · rw [if_neg a5, if_neg a5]
theorem mvnew_row (w : World) : Calls Try.prog 46 #[] w fun e w' => e = .returned (.agg (mvv mo0)) ∧ Ext w w' := by
  rw [← mvv_lit]
  exact mvnew_any w
@[go_sem] theorem size_mvv (m : Mo) : SizeIs (mvv m) 6 := size_rowv _ _
@[go_sem ↓ high] theorem cells_mvv (m : Mo) : (Value.agg (mvv m)).cells = mvv m := cells_agg' _
@[go_sem] theorem all_mvv (m : Mo) : oneC (mvv m) := all_rowv _ _ fun _ => at_one _ _

theorem info_mvx : (Try.prog.info? 27).map (·.size) = some 6 := by kernel_rfl
theorem loadAt_mvx {w : World} {b o : Nat} (h : o + 6 ≤ (rowD w b).size) : (Instr.loadAt 27 (.pointer (some ⟨b, o, none⟩))).run Try.prog w = .ok (.agg ((rowD w b).extract o (o + 6))) w := by
  have := run_loadAt_mid w b o 27 ((rowD w b).extract o (o + 6)).toList _ (range_rowD w b o (o + 6)) Try.underlying27 rfl (by rw [info_mvx]; simp; omega)
  rwa [Array.toArray_toList] at this
theorem loadVar_mvx {w : World} {b o : Nat} (h : o + 6 ≤ (rowD w b).size) : (loadVar 27 ⟨b, o, none⟩).run Try.prog w = .ok (.agg ((rowD w b).extract o (o + 6))) w := by
  have := run_loadVar_mid w b o 27 ((rowD w b).extract o (o + 6)).toList _ (range_rowD w b o (o + 6)) Try.underlying27 rfl (by rw [info_mvx]; simp; omega)
  rwa [Array.toArray_toList] at this
@[go_sem ↓ high] theorem exec_load_mvx (ρ : Operand → Value) (dst : Option Tmp) (x : Operand) (ty : TypeId) (pos : String) (after : Array Edge) (g : Option (Nat × Bool)) (w : World)
    (hx : ρ x = .pointer (some ⟨blkOf (ρ x), offOf (ρ x), none⟩)) (h : Fits (offOf (ρ x)) 6 (rowD w (blkOf (ρ x)))) :
    (execOp ρ ⟨dst, .load 27 x, ty, pos, after, g⟩).run Try.prog w = .ok (.value (.agg (cutD (rowD w (blkOf (ρ x))) (offOf (ρ x)) 6))) w := by
  unfold Fits at h
  generalize hB : blkOf (ρ x) = B at *
  generalize hO : offOf (ρ x) = O at *
  simp only [execOp, hx, Sem.run_bind, loadAt_mvx h, Result.andThen_ok, Sem.run_pure, cutD]
@[go_sem ↓ high] theorem sem_load_mvx (l : Option Nat) (ρ : Operand → Value) (dst : Option Tmp) (x : Operand) (ty : TypeId) (pos : String) (after : Array Edge) (g : Option (Nat × Bool)) (w : World)
    (hx : ρ x = .pointer (some ⟨blkOf (ρ x), offOf (ρ x), none⟩)) (h : Fits (offOf (ρ x)) 6 (rowD w (blkOf (ρ x)))) :
    (Oper.semAt l ρ ⟨dst, .load 27 x, ty, pos, after, g⟩).run Try.prog w = .ok (.value (.agg (cutD (rowD w (blkOf (ρ x))) (offOf (ρ x)) 6))) w := by rw [Oper.semAt_eq _ _ _ (fun c h => by cases h)]; exact exec_load_mvx ρ dst x ty pos after g w hx h
@[go_sem ↓ high] theorem exec_store_mvx (ρ : Operand → Value) (dst : Option Tmp) (x y : Operand) (ty : TypeId) (pos : String) (after : Array Edge) (g : Option (Nat × Bool)) (w : World)
    (hx : ρ x = .pointer (some ⟨blkOf (ρ x), offOf (ρ x), none⟩)) (hy : ρ y = .agg (ρ y).cells) (hs : SizeIs (ρ y).cells 6) (h : Fits (offOf (ρ x)) 6 (rowD w (blkOf (ρ x)))) (hz : frzD w (blkOf (ρ x)) = (0, 0)) (h1 : oneC (ρ y).cells) :
    (execOp ρ ⟨dst, .store 27 x y, ty, pos, after, g⟩).run Try.prog w = .ok .skip (setAt w (blkOf (ρ x)) (offOf (ρ x)) (ρ y).cells) := by
  unfold Fits at h
  unfold SizeIs at hs
  generalize hB : blkOf (ρ x) = B at *
  generalize hO : offOf (ρ x) = O at *
  generalize hC : (ρ y).cells = C at *
  have hst : (Instr.storeAt 27 (.pointer (some ⟨B, O, none⟩)) (.agg C)).run Try.prog w = .ok () (setAt w B O C) :=
    run_storeAt_mid w B O 27 C (fun j hj => ⟨by rw [cell_rowD, Array.getElem?_eq_getElem (by omega)]; rfl, frozen_of_frz hz _⟩) (by rw [info_mvx, hs]) h1
  simp only [execOp, hx, hy, Sem.run_bind, hst, Result.andThen_ok, Sem.run_pure]
@[go_sem ↓ high] theorem sem_store_mvx (l : Option Nat) (ρ : Operand → Value) (dst : Option Tmp) (x y : Operand) (ty : TypeId) (pos : String) (after : Array Edge) (g : Option (Nat × Bool)) (w : World)
    (hx : ρ x = .pointer (some ⟨blkOf (ρ x), offOf (ρ x), none⟩)) (hy : ρ y = .agg (ρ y).cells) (hs : SizeIs (ρ y).cells 6) (h : Fits (offOf (ρ x)) 6 (rowD w (blkOf (ρ x)))) (hz : frzD w (blkOf (ρ x)) = (0, 0)) (h1 : oneC (ρ y).cells) :
    (Oper.semAt l ρ ⟨dst, .store 27 x y, ty, pos, after, g⟩).run Try.prog w = .ok .skip (setAt w (blkOf (ρ x)) (offOf (ρ x)) (ρ y).cells) := by rw [Oper.semAt_eq _ _ _ (fun c h => by cases h)]; exact exec_store_mvx ρ dst x y ty pos after g w hx hy hs h hz h1

set_option maxRecDepth 100000 in
set_option maxHeartbeats 8000000 in
theorem rnew24_any (n : Int) (n0 : 0 ≤ n) (n1 : n ≤ 1099511627776) (w : World) : Calls Try.prog 27 #[.int .i64 n] w fun e w' => e = .returned (.tuple #[.agg (stv (stN n)), .int .i64 0]) ∧ Ext w w' := by
  have g0 : decide (n < 0) = false := decide_eq_false (by omega)
  have g1 : decide (1099511627776 < n) = false := decide_eq_false (by omega)
  go_enter Try.func27, Try.ntmps27
  go_wp2_with (go_at_call 45; (with_reducible refine (rnew10_any _).mono ?_); rintro e W2 ⟨rfl, g2⟩)
  obtain ⟨W3, hW⟩ : ∃ W3, setAt (W2.alloc (.cells (stv stz) 38)) W2.heap.size 0 (stv { stz with t := tb0, win := n }) = W3 := ⟨_, rfl⟩
  have s2 : w.heap.size < W2.heap.size := by have := g2.size; simp at this; omega
  have g3 : Ext w W3 := by rw [← hW]; exact Ext.sa _ (by omega) (Ext.al (Ext.tr (Ext.al (Ext.rf _) _) g2) _)
  have r3 : rowD W3 W2.heap.size = stv { stz with t := tb0, win := n } := by rw [← hW]; exact setAt_all _ _ _ (by rw [rowD_new, size_stv, size_stv])
  have z3 : frzD W3 W2.heap.size = (0, 0) := by rw [← hW, frzD_setAt, frzD_alloc, if_pos rfl]
  have r30 : rowD W3 w.heap.size = stv stz := by
    rw [← hW, rowD_setAt_other _ _ _ _ _ (by omega), rowD_old _ _ _ s2]
    exact row_ext' g2 (by simp [go_sem]) (by rw [rowD_new])
  have z30 : frzD W3 w.heap.size = (0, 0) := by
    rw [← hW, frzD_setAt, frzD_alloc, if_neg (by omega)]
    have e : frzD (w.alloc (.cells (stv stz) 38)) w.heap.size = (0, 0) := by simp [go_sem]
    unfold frzD at e ⊢
    rw [g2.block _ (by simp)]
    exact e
  have l3 : Lt W2.heap.size W3 := by rw [← hW]; simp [go_sem]
  have s20 : Lt w.heap.size W2 := s2
  rw [hW]
  clear hW g2
  generalize W2.heap.size = S at *
  go_loopw [5] (fun a wr => ∃ k : Nat, k ≤ 16 ∧ a = .int .i64 k ∧ rowD wr S = stv { stz with t := tb0, win := n, mv := fun i => if i < k then mo0 else moz } ∧ frzD wr S = (0, 0) ∧ rowD wr w.heap.size = stv stz ∧ frzD wr w.heap.size = (0, 0) ∧ Lt S wr ∧ Ext w wr) (fun a _ => 16 - (intOf a).toNat)
  case atStart => exact ⟨0, Nat.zero_le _, rfl, r3, z3, r30, z30, l3, g3⟩
  case round =>
    obtain ⟨k, hk, rfl, hR, hZ, hR0, hZ0, hL, hE⟩ := hrel
    have hL0 : Lt w.heap.size wr := by unfold Lt at *; omega
    clear r3 z3 r30 z30 l3 g3
    by_cases hlt : k < 16
    · have hlt' : (k : Int) < 16 := by omega
      have HR := Lib.hid hR
      have HZ := Lib.hid hZ
      have HR0 := Lib.hid hR0
      have HZ0 := Lib.hid hZ0
      clear hR hZ hR0 hZ0
      have hfit : 9 + k * 6 + 6 ≤ 191 := by omega
      go_wp2_with (go_at_call 46; (with_reducible refine (mvnew_row _).mono ?_); rintro e W4 ⟨rfl, g4⟩; have hR4 := row_ext' g4 hL HR.out; have hZ4 : frzD W4 S = (0, 0) := (by unfold frzD; rw [g4.block _ hL]; exact HZ.out))
      go_roundw
      case rel =>
        refine ⟨k + 1, by omega, by go_num, (set_stmv mo0 hR4 hlt).trans (stv_congr rfl (fun i hi => ?_) rfl rfl (fun _ _ => rfl) rfl rfl rfl rfl), by rw [frzD_setAt]; exact hZ4, by rw [rowD_setAt_other _ _ _ _ _ (by omega)]; exact row_ext' g4 hL0 HR0.out, by rw [frzD_setAt]; unfold frzD; rw [g4.block _ hL0]; exact HZ0.out, by rw [Lt_setAt]; exact Nat.lt_of_lt_of_le hL g4.size, Ext.sa _ (by omega) (hE.tr g4)⟩
        dsimp only
        by_cases h : i = k
        · rw [if_pos h, if_pos (by omega)]
        · rw [if_neg h]
          by_cases h2 : i < k
          · rw [if_pos h2, if_pos (by omega)]
          · rw [if_neg h2, if_neg (by omega)]
      case measure => simp [intOf]; omega
    · obtain rfl : k = 16 := by omega
      have hR3 : rowD wr S = stv { stz with t := tb0, win := n, mv := fun _ => mo0 } := hR.trans (stv_congr rfl (fun i hi => by dsimp only; rw [if_pos hi]) rfl rfl (fun _ _ => rfl) rfl rfl rfl rfl)
      clear hR
      go_wp2
      go_loopw [6] (fun a wr => ∃ k : Nat, k ≤ 3 ∧ a = .int .i64 k ∧ rowD wr S = stv { stz with t := tb0, win := n, mv := fun _ => mo0, has := fun i => if i < k then -1 else 0 } ∧ frzD wr S = (0, 0) ∧ rowD wr w.heap.size = stv stz ∧ frzD wr w.heap.size = (0, 0) ∧ Lt S wr ∧ Ext w wr) (fun a _ => 3 - (intOf a).toNat)
      case atStart => exact ⟨0, Nat.zero_le _, rfl, hR3, hZ, hR0, hZ0, hL, hE⟩
      case round =>
        clear hR3 hZ hR0 hZ0 hL hE
        obtain ⟨k, hk, rfl, hR, hZ, hR0, hZ0, hL, hE⟩ := hrel
        have hL0 : Lt w.heap.size wr := by unfold Lt at *; omega
        by_cases hlt : k < 3
        · have hlt' : (k : Int) < 3 := by omega
          have hc : wr.cell? ⟨S, 186 + k, none⟩ = some (.int .i64 0) := by
            rw [cell_row hR (186 + k) (by omega)]
            unfold St.at
            rw [if_neg (show ¬ 186 + k < 9 by omega), if_neg (show ¬ 186 + k < 105 by omega), if_neg (show ¬ 186 + k < 170 by omega), if_neg (show ¬ 186 + k < 186 by omega), if_pos (show 186 + k < 189 by omega)]
            dsimp only
            rw [if_neg (by omega)]
          have hf := frozen_of_frz hZ (186 + k)
          have HR := Lib.hid hR
          have HZ := Lib.hid hZ
          have HR0 := Lib.hid hR0
          have HZ0 := Lib.hid hZ0
          clear hR hZ hR0 hZ0
          go_wp2
          go_roundw
          case rel =>
            refine ⟨k + 1, by omega, by go_num, (set_sthas (-1) HR.out hlt).trans (stv_congr rfl (fun _ _ => rfl) rfl rfl (fun i hi => ?_) rfl rfl rfl rfl), by rw [frzD_setCell]; exact HZ.out, by rw [rowD_setCell, if_neg (by omega)]; exact HR0.out, by rw [frzD_setCell]; exact HZ0.out, by rw [Lt_setCell]; exact hL, Ext.st _ (Nat.le_of_lt s2) hE⟩
            dsimp only
            by_cases h : i = k
            · rw [if_pos h, if_pos (by omega)]
            · rw [if_neg h]
              by_cases h2 : i < k
              · rw [if_pos h2, if_pos (by omega)]
              · rw [if_neg h2, if_neg (by omega)]
          case measure => simp [intOf]; omega
        · obtain rfl : k = 3 := by omega
          have hR3 : rowD wr S = stv (stN n) := hR.trans (stv_congr rfl (fun _ _ => rfl) rfl rfl (fun i hi => by dsimp only; rw [if_pos hi]; rfl) rfl rfl rfl rfl)
          have HE := Lib.hid hE
          clear hR hE
          go_wp2
          have hr : rowD (setAt wr w.heap.size 0 (stv (stN n))) w.heap.size = stv (stN n) := setAt_all _ _ _ (by rw [hR0, size_stv, size_stv])
          refine bodyPost_ret (results_ct rfl _ _ w.heap.size rfl (lv_st hr)) rfl ⟨rfl, Ext.sa _ (Nat.le_refl _) HE.out⟩

end Go.Proofs.Ytedamnocolfmlaa

/- Agents: which may be. -/
namespace Go.Proofs.Ytedamnocolfmlaa
open Go.RowKit

@[go_sem] theorem fits_lit4 {a b c d : Value} {o m : Nat} : Fits o m #[a, b, c, d] = (o + m ≤ 4) := by unfold Fits; rfl
def headA (a : Ag) : Bool := decide (0 ≤ a.id) && decide (a.id < 6) && decide (0 ≤ a.idle) && decide (a.idle ≤ 1099511627776) && rightC a.xs
def mdsA (a : Ag) (k : Nat) : Bool := mdR (a.md k) && (a.md k).peer != a.id
def cnA (a : Ag) (c : Co) : Bool := (a.md (ofT c.t).toNat).kind != 0 && !(a.md (ofT c.t).toNat).ret
/-- An agent that may be. -/
def agR (a : Ag) : Bool := headA a && ((List.range 16).all fun k => mdsA a k) && a.xs.all fun c => cnA a c
theorem agR_head {a : Ag} (h : headA a = false) : agR a = false := by unfold agR; rw [h]; rfl
theorem agR_md {a : Ag} (k : Nat) (hk : k < 16) (h : mdsA a k = false) : agR a = false := by
  unfold agR
  rw [show ((List.range 16).all fun k => mdsA a k) = false from List.all_eq_false.2 ⟨k, List.mem_range.2 hk, by simp [h]⟩]
  simp
theorem agR_cn {a : Ag} (c : Co) (hc : c ∈ a.xs) (h : cnA a c = false) : agR a = false := by
  unfold agR
  rw [show (a.xs.all fun c => cnA a c) = false from List.all_eq_false.2 ⟨c, hc, by simp [h]⟩]
  simp
theorem agR_ok {a : Ag} (h : headA a = true) (h2 : ∀ k, k < 16 → mdsA a k = true) (h3 : ∀ c ∈ a.xs, cnA a c = true) : agR a = true := by
  unfold agR
  rw [h, List.all_eq_true.2 fun k hk => h2 k (List.mem_range.1 hk), List.all_eq_true.2 h3]
  rfl
set_option maxRecDepth 100000 in
set_option maxHeartbeats 8000000 in
theorem ragr_any (a : Ag) (w : World) (hs : SlC w a.p a.xs) (hl : a.xs.length ≤ 1000) (hr : ∀ x ∈ a.xs, TuR x.t) :
    Calls Try.prog 48 #[.agg (agv a)] w fun e w' => e = .returned (.bool (agR a)) ∧ Ext w w' := by
  have HC := Lib.hid (fun W (hE : Ext w W) => rright_any a.p a.xs a.c W (hs.ext hE) hl hr)
  have HSL := Lib.hid (fun W (hE : Ext w W) => hs.ext hE)
  have HTU := Lib.hid hr
  clear hs hr
  go_enter Try.func48, Try.ntmps48
  go_upto_region 1 with (fail)
  obtain ⟨W0, hW⟩ : ∃ W0, w.alloc (.cells (agv a) 47) = W0 := ⟨_, rfl⟩
  have g0 : Ext w W0 := by rw [← hW]; exact Ext.al (Ext.rf _) _
  have rx0 : rowD W0 w.heap.size = agv a := by rw [← hW]; simp [go_sem]
  have lx0 : Lt w.heap.size W0 := by rw [← hW]; simp [go_sem]
  rw [hW]
  clear hW
  have c0 : W0.cell? ⟨w.heap.size, 0, none⟩ = some (.int .i64 a.id) := by rw [cell_rowD, rx0, get_ag_id]
  have c1 : W0.cell? ⟨w.heap.size, 1, none⟩ = some (.int .i64 a.idle) := by rw [cell_rowD, rx0, get_ag_idle]
  cases h1 : decide (0 ≤ a.id)
  · have h1' := of_decide_eq_false h1
    have HN := Lib.hid (agR_head (a := a) (by unfold headA; rw [h1]; rfl))
    go_wp2
    go_ret
    exact ⟨ret_bool HN.out.symm, g0⟩
  have h1' := of_decide_eq_true h1
  cases h2 : decide (a.id < 6)
  · have h2' := of_decide_eq_false h2
    have HN := Lib.hid (agR_head (a := a) (by unfold headA; rw [h2]; simp))
    go_wp2
    go_ret
    exact ⟨ret_bool HN.out.symm, g0⟩
  have h2' := of_decide_eq_true h2
  cases h3 : decide (0 ≤ a.idle)
  · have h3' := of_decide_eq_false h3
    have HN := Lib.hid (agR_head (a := a) (by unfold headA; rw [h3]; simp))
    go_wp2
    go_ret
    exact ⟨ret_bool HN.out.symm, g0⟩
  have h3' := of_decide_eq_true h3
  cases h4 : decide (a.idle ≤ 1099511627776)
  · have h4' := of_decide_eq_false h4
    have HN := Lib.hid (agR_head (a := a) (by unfold headA; rw [h4]; simp))
    go_wp2
    go_ret
    exact ⟨ret_bool HN.out.symm, g0⟩
  have h4' := of_decide_eq_true h4
  have c66 : W0.cell? ⟨w.heap.size, 66, none⟩ = some (.slice a.p a.xs.length a.c) := by rw [cell_rowD, rx0, get_ag_conns]
  cases h5 : rightC a.xs
  · have HN := Lib.hid (agR_head (a := a) (by unfold headA; rw [h5]; simp))
    rw [h5] at HC
    go_wp2_with (go_at_call 65; (with_reducible refine (HC.out _ g0).mono ?_); rintro e w1 ⟨rfl, g1⟩)
    go_ret
    exact ⟨ret_bool HN.out.symm, g0.tr g1⟩
  have HH := Lib.hid (show headA a = true by unfold headA; rw [h1, h2, h3, h4, h5]; rfl)
  rw [h5] at HC
  go_wp2_with (go_at_call 65; (with_reducible refine (HC.out _ g0).mono ?_); rintro e w1 ⟨rfl, g1⟩; have rx1 := row_ext' g1 lx0 rx0; have lx1 : Lt w.heap.size w1 := Nat.lt_of_lt_of_le lx0 g1.size)
  clear rx0 lx0 c66 c0 c1
  go_loopw [3] (fun q wr => ∃ k : Nat, k ≤ 16 ∧ q = .int .i64 k ∧ (∀ j, j < k → mdsA a j = true) ∧ Ext w1 wr) (fun q _ => 16 - (intOf q).toNat)
  case atStart => exact ⟨0, Nat.zero_le _, rfl, fun j hj => by omega, Ext.rf _⟩
  case round =>
    obtain ⟨k, hk, rfl, hA, hE⟩ := hrel
    have hR := row_ext' hE lx1 rx1
    have hL : Lt w.heap.size wr := Nat.lt_of_lt_of_le lx1 hE.size
    have hEw := (g0.tr g1).tr hE
    by_cases hlt : k < 16
    · have hlt' : (k : Int) < 16 := by omega
      have cp : wr.cell? ⟨w.heap.size, 2 + k * 4 + 1, none⟩ = some (.int .i64 (a.md k).peer) := by
        rw [cell_rowD, hR]; unfold agv; rw [get_rowv, if_pos (by omega)]; unfold Ag.at
        rw [if_neg (by omega), if_neg (by omega), if_pos (by omega), show (2 + k * 4 + 1 - 2) / 4 = k by omega, show (2 + k * 4 + 1 - 2) % 4 = 1 by omega]
        rfl
      have c0 : wr.cell? ⟨w.heap.size, 0, none⟩ = some (.int .i64 a.id) := by rw [cell_rowD, hR, get_ag_id]
      have hfit : 2 + k * 4 + 4 ≤ 67 := by omega
      have HA := Lib.hid hA
      have HE := Lib.hid hE
      have HEW := Lib.hid hEw
      clear hA hE hEw
      cases hm : mdR (a.md k)
      · have HN := Lib.hid (agR_md k hlt (by unfold mdsA; rw [hm]; rfl))
        go_wp2_with (fail)
        refine wp_region_later (by kernel_rfl) (by kernel_rfl) ?_; (repeat (go_big_quiet_step ((go_at_call 66; exact calls_later (md16_any _ _))))); refine wpQuiet_nil ?_; intro d
        have HD := Lib.hid (later_ext d)
        go_wp2
        go_ret
        exact ⟨ret_bool HN.out.symm, HEW.out.tr HD.out⟩
      cases hp : ((a.md k).peer == a.id)
      · have HB := Lib.hid (show mdsA a k = true by unfold mdsA; rw [hm]; simpa using hp)
        go_wp2_with (fail)
        refine wp_region_later (by kernel_rfl) (by kernel_rfl) ?_; (repeat (go_big_quiet_step ((go_at_call 66; exact calls_later (md16_any _ _))))); refine wpQuiet_nil ?_; intro d
        have HD := Lib.hid (later_ext d)
        generalize later d = W2 at *
        go_wp2
        go_roundw
        case rel => exact ⟨k + 1, by omega, by go_num, fun j hj => by rcases Nat.lt_or_ge j k with h | h; exact HA.out j h; (obtain rfl : j = k := by omega); exact HB.out, HE.out.tr HD.out⟩
        case measure => simp [intOf]; omega
      · have HN := Lib.hid (agR_md k hlt (by unfold mdsA; rw [hm]; simpa using hp))
        go_wp2_with (fail)
        refine wp_region_later (by kernel_rfl) (by kernel_rfl) ?_; (repeat (go_big_quiet_step ((go_at_call 66; exact calls_later (md16_any _ _))))); refine wpQuiet_nil ?_; intro d
        have HD := Lib.hid (later_ext d)
        go_wp2
        go_ret
        exact ⟨ret_bool HN.out.symm, HEW.out.tr HD.out⟩
    · obtain rfl : k = 16 := by omega
      have HM := Lib.hid hA
      have rx2 := hR
      have lx2 := hL
      have HEW := Lib.hid hEw
      generalize wr = w2 at *
      clear hA hE hEw hR hL rx1 lx1
      rw [show ((16 : Nat) : Int) = 16 from rfl]
      go_wp2
      go_loopw [4, 5] (fun q _ wr => ∃ k : Nat, k ≤ a.xs.length ∧ q = .int .i64 k ∧ (∀ j, j < k → ∀ hj : j < a.xs.length, cnA a a.xs[j] = true) ∧ Ext w2 wr) (fun q _ _ => a.xs.length - (intOf q).toNat)
      case atStart => exact ⟨0, Nat.zero_le _, rfl, fun j hj => by omega, Ext.rf _⟩
      case round =>
        obtain ⟨k, hk, rfl, hA, hE⟩ := hrel
        have hR := row_ext' hE lx2 rx2
        have hL : Lt w.heap.size wr := Nat.lt_of_lt_of_le lx2 hE.size
        have hEw := HEW.out.tr hE
        have c66 : wr.cell? ⟨w.heap.size, 66, none⟩ = some (.slice a.p a.xs.length a.c) := by rw [cell_rowD, hR, get_ag_conns]
        by_cases hlt : k < a.xs.length
        · have hlt' : (k : Int) < a.xs.length := by omega
          obtain ⟨b, off, hp, hb, d0, d1, d2, d3, d4, d5⟩ := (HSL.out _ hEw) k hlt
          have HTZ := Lib.hid (HTU.out _ (List.getElem_mem hlt))
          have HMEM := Lib.hid (List.getElem_mem hlt)
          obtain ⟨o, ho⟩ : ∃ o : Nat, ofT a.xs[k].t = o := ⟨(ofT a.xs[k].t).toNat, by have := (ofT_bd a.xs[k].t).1; omega⟩
          have ho16 : o < 16 := by have := (ofT_bd a.xs[k].t).2; omega
          have HOF := Lib.hid (fun W => ho ▸ rof_any a.xs[k].t HTZ.out W)
          have HCN := Lib.hid (show cnA a a.xs[k] = ((a.md o).kind != 0 && !(a.md o).ret) by unfold cnA; rw [ho]; rfl)
          obtain ⟨z, hz⟩ : ∃ z, a.xs[k] = z := ⟨_, rfl⟩
          rw [hz] at d0 d1 d2 d3 d4 d5 HOF HCN HMEM
          have HZ := Lib.hid hz
          have HPP := Lib.hid hp
          have lb : Lt b wr := hb
          have hfit : 2 + o * 4 + 4 ≤ 67 := by omega
          have ho' : (o : Int) < 16 := by omega
          have HA := Lib.hid hA
          have HE := Lib.hid hE
          have HEW2 := Lib.hid hEw
          have hlen : ((a.xs.length : Nat) : Int) ≤ 1000 := by omega
          rw [hp] at c66
          clear hz ho hp hA hE hEw HTZ d4 d5 hb
          go_upto_region 12 with (go_at_call 24; (with_reducible refine (HOF.out _).mono ?_); rintro e w4 ⟨rfl, g4⟩; have hR4 := row_ext' g4 hL hR; have hL4 : Lt w.heap.size w4 := Nat.lt_of_lt_of_le hL g4.size)
          obtain ⟨W5, hW⟩ : ∃ W5, setAt (w4.alloc (.cells #[.int .u8 0, .int .i64 0, .int .i64 0, .bool false] 43)) w4.heap.size 0 (mdv (a.md o)) = W5 := ⟨_, rfl⟩
          have g5 : Ext w4 W5 := by rw [← hW]; exact Ext.sa _ (Nat.le_refl _) (Ext.al (Ext.rf _) _)
          have r5 : rowD W5 w4.heap.size = mdv (a.md o) := by rw [← hW]; exact setAt_all _ _ _ (by rw [rowD_new, size_mdv]; rfl)
          have c0 : W5.cell? ⟨w4.heap.size, 0, none⟩ = some (.int .u8 (a.md o).kind) := by rw [cell_rowD, r5, get_md0]
          have c3 : W5.cell? ⟨w4.heap.size, 3, none⟩ = some (.bool (a.md o).ret) := by rw [cell_rowD, r5, get_md3]
          have HE6 := Lib.hid (HEW2.out.tr (g4.tr g5))
          have HG6 := Lib.hid (HE.out.tr (g4.tr g5))
          rw [hW]
          clear hW g4 g5 r5 hR4 hL4 hR d0 d1 d2 d3 c66
          generalize w4.heap.size = M at *
          cases e0 : ((a.md o).kind == 0)
          · cases e3 : (a.md o).ret
            · have HB := Lib.hid (show cnA a z = true by rw [HCN.out]; simp_all)
              go_wp2
              go_roundw
              case rel => exact ⟨k + 1, by omega, by go_num, fun j hj hjl => by rcases Nat.lt_or_ge j k with h | h; exact HA.out j h hjl; (obtain rfl : j = k := by omega); rw [HZ.out]; exact HB.out, HG6.out⟩
              case measure => simp [intOf]; omega


            · have HN := Lib.hid (agR_cn z HMEM.out (show cnA a z = false by rw [HCN.out]; simp_all))
              go_wp2
              go_ret
              exact ⟨ret_bool HN.out.symm, HE6.out⟩
          · have HN := Lib.hid (agR_cn z HMEM.out (show cnA a z = false by rw [HCN.out]; simp_all))
            go_wp2
            go_ret
            exact ⟨ret_bool HN.out.symm, HE6.out⟩
        · obtain rfl : k = a.xs.length := by omega
          have HK := Lib.hid (show agR a = true from agR_ok HH.out HM.out fun c hc => by obtain ⟨j, hj, rfl⟩ := List.mem_iff_getElem.1 hc; exact hA j hj hj)
          have HEE := Lib.hid hEw
          clear hA hE hEw hR
          go_wp2
          go_ret
          exact ⟨ret_bool HK.out.symm, HEE.out⟩

end Go.Proofs.Ytedamnocolfmlaa

/- New agents, new worlds. -/
namespace Go.Proofs.Ytedamnocolfmlaa
open Go.RowKit

attribute [local go_sem ↓ high] exec_zalloc_tb sem_zalloc_tb exec_zalloc_st sem_zalloc_st exec_zalloc_ag sem_zalloc_ag exec_zalloc_wd sem_zalloc_wd
def agN (id idle : Int) : Ag := { agz with id := id, idle := idle, md := fun _ => md0 }
theorem agv_congr {s u : Ag} (h1 : s.id = u.id) (h2 : s.idle = u.idle) (h3 : ∀ i, i < 16 → s.md i = u.md i) (h7 : s.p = u.p) (h8 : s.xs = u.xs) (h9 : s.c = u.c) : agv s = agv u := by
  unfold agv
  refine rowv_congr _ _ _ fun j hj => ?_
  unfold Ag.at
  rw [h1, h2, h7, h8, h9]
  by_cases a1 : j = 0
  · rw [if_pos a1, if_pos a1]
  rw [if_neg a1, if_neg a1]
  by_cases a2 : j = 1
  · rw [if_pos a2, if_pos a2]
  rw [if_neg a2, if_neg a2]
  by_cases a3 : j < 66
  · rw [if_pos a3, if_pos a3, h3 _ (by omega)]
  · rw [if_neg a3, if_neg a3]
theorem wdv_congr {s u : Wd} (h1 : s.now = u.now) (h2 : s.idle = u.idle) (h3 : s.st = u.st) (h4 : s.cl = u.cl) (h5 : ∀ i, i < 6 → s.ag i = u.ag i) (h6 : s.fp = u.fp) (h7 : s.fl = u.fl) (h8 : s.fc = u.fc) (h9 : s.tp = u.tp) (h10 : s.tl = u.tl) (h11 : s.tc = u.tc) (h12 : s.drops = u.drops) : wdv s = wdv u := by
  unfold wdv
  refine rowv_congr _ _ _ fun j hj => ?_
  unfold Wd.at
  rw [h1, h2, h3, h4, h6, h7, h8, h9, h10, h11, h12]
  by_cases a1 : j < 391
  · by_cases b1 : j = 0
    · rw [if_pos b1, if_pos b1]
    rw [if_neg b1, if_neg b1]
    by_cases b2 : j = 1
    · rw [if_pos b2, if_pos b2]
    rw [if_neg b2, if_neg b2]
    by_cases b3 : j < 193
    · rw [if_pos b3, if_pos b3]
    rw [if_neg b3, if_neg b3, if_pos a1, if_pos a1]
  · rw [if_neg (show ¬ j = 0 by omega), if_neg (show ¬ j = 1 by omega), if_neg (show ¬ j < 193 by omega), if_neg a1, if_neg (show ¬ j = 0 by omega), if_neg (show ¬ j = 1 by omega), if_neg (show ¬ j < 193 by omega), if_neg a1]
    by_cases a2 : j < 793
    · rw [if_pos a2, if_pos a2, h5 _ (by omega)]
    · rw [if_neg a2, if_neg a2]
theorem mnew_row (w : World) : Calls Try.prog 47 #[] w fun e w' => e = .returned (.agg (mdv md0)) ∧ Ext w w' := by
  have e : mdv md0 = #[.int .u8 0, .int .i64 (-1), .int .i64 0, .bool false] := mdv_lit md0
  rw [e]
  exact mnew_any w
theorem agN_right (id idle : Int) (h0 : 0 ≤ id) (h1 : id < 6) (h2 : 0 ≤ idle) (h3 : idle ≤ 1099511627776) : agR (agN id idle) = true := by
  refine agR_ok ?_ (fun k hk => ?_) (fun c hc => by cases hc)
  · unfold headA
    show (decide (0 ≤ id) && decide (id < 6) && decide (0 ≤ idle) && decide (idle ≤ 1099511627776) && rightC []) = true
    simp [h0, h1, h2, h3]
    rfl
  · unfold mdsA
    show (mdR md0 && md0.peer != id) = true
    rw [show mdR md0 = true from rfl, show md0.peer = -1 from rfl]
    simp
    omega
set_option maxRecDepth 100000 in
set_option maxHeartbeats 8000000 in
theorem rnew18_any (id idle : Int) (h0 : 0 ≤ id) (h1 : id < 6) (h2 : 0 ≤ idle) (h3 : idle ≤ 1099511627776) (w : World) : Calls Try.prog 29 #[.int .i64 id, .int .i64 idle] w fun e w' => e = .returned (.tuple #[.agg (agv (agN id idle)), .int .i64 0]) ∧ Ext w w' := by
  have HR := Lib.hid (fun W => agN_right id idle h0 h1 h2 h3 ▸ ragr_any (agN id idle) W (SlC.nil _ _) (by show 0 ≤ 1000; omega) (fun x hx => by cases hx))
  go_enter Try.func29, Try.ntmps29
  go_wp2
  obtain ⟨W3, hW⟩ : ∃ W3, setAt ((w.alloc (.cells (agv agz) 47)).alloc (.cells (agv agz) 47)) (w.heap.size + 1) 0 (agv (agOf id idle)) = W3 := ⟨_, rfl⟩
  have g3 : Ext w W3 := by rw [← hW]; exact Ext.sa _ (by omega) (Ext.al (Ext.al (Ext.rf _) _) _)
  have r3 : rowD W3 (w.heap.size + 1) = agv (agOf id idle) := by rw [← hW]; exact setAt_all _ _ _ (by rw [show w.heap.size + 1 = (w.alloc (.cells (agv agz) 47)).heap.size by simp, rowD_new, size_agv, size_agv])
  have z3 : frzD W3 (w.heap.size + 1) = (0, 0) := by rw [← hW, frzD_setAt]; simp [go_sem]
  have r30 : rowD W3 w.heap.size = agv agz := by rw [← hW, rowD_setAt_other _ _ _ _ _ (by omega)]; simp [go_sem]
  have z30 : frzD W3 w.heap.size = (0, 0) := by rw [← hW, frzD_setAt]; simp [go_sem]
  have l3 : Lt (w.heap.size + 1) W3 := by rw [← hW]; simp [go_sem]
  rw [z_ag, hW]
  clear hW
  go_loopw [7] (fun a wr => ∃ k : Nat, k ≤ 16 ∧ a = .int .i64 k ∧ rowD wr (w.heap.size + 1) = agv { agz with id := id, idle := idle, md := fun i => if i < k then md0 else mdz } ∧ frzD wr (w.heap.size + 1) = (0, 0) ∧ rowD wr w.heap.size = agv agz ∧ frzD wr w.heap.size = (0, 0) ∧ Lt (w.heap.size + 1) wr ∧ Ext w wr) (fun a _ => 16 - (intOf a).toNat)
  case atStart => exact ⟨0, Nat.zero_le _, rfl, r3, z3, r30, z30, l3, g3⟩
  case round =>
    obtain ⟨k, hk, rfl, hR, hZ, hR0, hZ0, hL, hE⟩ := hrel
    have hL0 : Lt w.heap.size wr := by unfold Lt at *; omega
    clear r3 z3 r30 z30 l3 g3
    by_cases hlt : k < 16
    · have hlt' : (k : Int) < 16 := by omega
      have HRR := Lib.hid hR
      have HZ := Lib.hid hZ
      have HR0 := Lib.hid hR0
      have HZ0 := Lib.hid hZ0
      clear hR hZ hR0 hZ0
      have hfit : 2 + k * 4 + 4 ≤ 67 := by omega
      go_wp2_with (go_at_call 47; (with_reducible refine (mnew_row _).mono ?_); rintro e W4 ⟨rfl, g4⟩; have hR4 := row_ext' g4 hL HRR.out; have hZ4 : frzD W4 (w.heap.size + 1) = (0, 0) := (by unfold frzD; rw [g4.block _ hL]; exact HZ.out))
      go_roundw
      case rel =>
        refine ⟨k + 1, by omega, by go_num, (set_agmd md0 hR4 hlt).trans (agv_congr rfl rfl (fun i hi => ?_) rfl rfl rfl), by rw [frzD_setAt]; exact hZ4, by rw [rowD_setAt_other _ _ _ _ _ (by omega)]; exact row_ext' g4 hL0 HR0.out, by rw [frzD_setAt]; unfold frzD; rw [g4.block _ hL0]; exact HZ0.out, by rw [Lt_setAt]; exact Nat.lt_of_lt_of_le hL g4.size, Ext.sa _ (by omega) (hE.tr g4)⟩
        dsimp only
        by_cases h : i = k
        · rw [if_pos h, if_pos (by omega)]
        · rw [if_neg h]
          by_cases h2 : i < k
          · rw [if_pos h2, if_pos (by omega)]
          · rw [if_neg h2, if_neg (by omega)]
      case measure => simp [intOf]; omega
    · obtain rfl : k = 16 := by omega
      have hR3 : rowD wr (w.heap.size + 1) = agv (agN id idle) := hR.trans (agv_congr rfl rfl (fun i hi => by dsimp only; rw [if_pos hi]; rfl) rfl rfl rfl)
      have HE := Lib.hid hE
      clear hR hE
      go_wp2_with (go_at_call 48; (with_reducible refine (HR.out _).mono ?_); rintro e W4 ⟨rfl, g4⟩; have hR4 := row_ext' g4 hL hR3; have hR5 := row_ext' g4 hL0 hR0; have hZ5 : frzD W4 w.heap.size = (0, 0) := (by unfold frzD; rw [g4.block _ hL0]; exact hZ0))
      have hr : rowD (setAt W4 w.heap.size 0 (agv (agN id idle))) w.heap.size = agv (agN id idle) := setAt_all _ _ _ (by rw [hR5, size_agv, size_agv])
      refine bodyPost_ret (results_ct rfl _ _ w.heap.size rfl (lv_ag hr)) rfl ⟨rfl, Ext.sa _ (Nat.le_refl _) (HE.out.tr g4)⟩

end Go.Proofs.Ytedamnocolfmlaa

/- New worlds. -/
namespace Go.Proofs.Ytedamnocolfmlaa
open Go.RowKit

attribute [local go_sem ↓ high] exec_zalloc_tb sem_zalloc_tb exec_zalloc_st sem_zalloc_st exec_zalloc_wd sem_zalloc_wd
def wdN (win idle : Int) : Wd := { wdz with idle := idle, st := stN win, ag := fun i => agN i idle }
def wdK (win idle : Int) (k : Nat) : Wd := { wdz with idle := idle, st := stN win, ag := fun i => if i < k then agN i idle else agz }
theorem wdK_six (win idle : Int) : wdv (wdK win idle 6) = wdv (wdN win idle) := wdv_congr rfl rfl rfl rfl (fun i hi => by unfold wdK; dsimp only; rw [if_pos hi]; rfl) rfl rfl rfl rfl rfl rfl rfl
theorem wdK_succ (win idle : Int) (k : Nat) : wdv { wdK win idle k with ag := fun i => if i = k then agN k idle else (wdK win idle k).ag i } = wdv (wdK win idle (k + 1)) := wdv_congr rfl rfl rfl rfl (fun i hi => by
  unfold wdK
  dsimp only
  by_cases h : i = k
  · subst h; rw [if_pos rfl, if_pos (by omega)]
  · rw [if_neg h]
    by_cases h2 : i < k
    · rw [if_pos h2, if_pos (by omega)]
    · rw [if_neg h2, if_neg (by omega)]) rfl rfl rfl rfl rfl rfl rfl
theorem ldvar_st {w : World} {b : Nat} {s : St} (h : rowD w b = stv s) : (loadVar 38 ⟨b, 0, none⟩).run Try.prog w = .ok (.agg (stv s)) w := lv_st h
set_option maxRecDepth 100000 in
set_option maxHeartbeats 8000000 in
theorem rnew27_any (n idle : Int) (n0 : 0 ≤ n) (n1 : n ≤ 1099511627776) (h2 : 0 ≤ idle) (h3 : idle ≤ 1099511627776) (w : World) : Calls Try.prog 13 #[.int .i64 n, .int .i64 idle] w fun e w' => e = .returned (.tuple #[.agg (wdv (wdN n idle)), .int .i64 0]) ∧ Ext w w' := by
  have HS := Lib.hid (fun W => rnew24_any n n0 n1 W)
  have HT := Lib.hid (fun W => rtick27_any idle W)
  have e1 : tickB idle = true := by simp [tickB, h2]; omega
  rw [e1] at HT
  go_enter Try.func13, Try.ntmps13
  go_upto_region 4 with (first | (go_at_call 27; (with_reducible refine (HS.out _).mono ?_); rintro e W2 ⟨rfl, g2⟩) | (go_at_call 28; (with_reducible refine (HT.out _).mono ?_); rintro e W3 ⟨rfl, rfl⟩))
  obtain ⟨W4, hW⟩ : ∃ W4, setAt (W2.alloc (.cells (stv stz) 38)) W2.heap.size 0 (stv (stN n)) = W4 := ⟨_, rfl⟩
  have s2 : w.heap.size < W2.heap.size := by have := g2.size; simp at this; omega
  have g4 : Ext w W4 := by rw [← hW]; exact Ext.sa _ (by omega) (Ext.al (Ext.tr (Ext.al (Ext.rf _) _) g2) _)
  have r4 : rowD W4 W2.heap.size = stv (stN n) := by rw [← hW]; exact setAt_all _ _ _ (by rw [rowD_new, size_stv, size_stv])
  have r40 : rowD W4 w.heap.size = wdv wdz := by
    rw [← hW, rowD_setAt_other _ _ _ _ _ (by omega), rowD_old _ _ _ s2]
    exact row_ext' g2 (by simp [go_sem]) (by rw [rowD_new])
  have z40 : frzD W4 w.heap.size = (0, 0) := by
    rw [← hW, frzD_setAt, frzD_alloc, if_neg (by omega)]
    have e : frzD (w.alloc (.cells (wdv wdz) 53)) w.heap.size = (0, 0) := by simp [go_sem]
    unfold frzD at e ⊢
    rw [g2.block _ (by simp)]
    exact e
  have l4 : w.heap.size < W4.heap.size := by rw [← hW]; simp [go_sem]; omega
  rw [hW]
  clear hW g2
  generalize W2.heap.size = S at *
  go_wp2
  obtain ⟨W5, hW⟩ : ∃ W5, setAt (W4.alloc (.cells (wdv wdz) 53)) W4.heap.size 0 (wdv { wdz with idle := idle, st := stN n }) = W5 := ⟨_, rfl⟩
  have g5 : Ext w W5 := by rw [← hW]; exact Ext.sa _ (by omega) (Ext.al g4 _)
  have r5 : rowD W5 W4.heap.size = wdv (wdK n idle 0) := by rw [← hW, setAt_all _ _ _ (by rw [rowD_new, size_wdv, size_wdv])]; exact wdv_congr rfl rfl rfl rfl (fun i hi => by unfold wdK; dsimp only; rw [if_neg (by omega)]; rfl) rfl rfl rfl rfl rfl rfl rfl
  have z5 : frzD W5 W4.heap.size = (0, 0) := by rw [← hW, frzD_setAt, frzD_alloc, if_pos rfl]
  have r50 : rowD W5 w.heap.size = wdv wdz := by rw [← hW, rowD_setAt_other _ _ _ _ _ (by omega), rowD_old _ _ _ l4]; exact r40
  have z50 : frzD W5 w.heap.size = (0, 0) := by rw [← hW, frzD_setAt, frzD_alloc, if_neg (by omega)]; exact z40
  have l5 : Lt W4.heap.size W5 := by rw [← hW]; simp [go_sem]
  rw [hW]
  clear hW r4 r40 z40 g4
  generalize W4.heap.size = D at *
  go_loopw [9] (fun a wr => ∃ k : Nat, k ≤ 6 ∧ a = .int .i64 k ∧ rowD wr D = wdv (wdK n idle k) ∧ frzD wr D = (0, 0) ∧ rowD wr w.heap.size = wdv wdz ∧ frzD wr w.heap.size = (0, 0) ∧ Lt D wr ∧ Ext w wr) (fun a _ => 6 - (intOf a).toNat)
  case atStart => exact ⟨0, Nat.zero_le _, rfl, r5, z5, r50, z50, l5, g5⟩
  case round =>
    obtain ⟨k, hk, rfl, hR, hZ, hR0, hZ0, hL, hE⟩ := hrel
    have hL0 : Lt w.heap.size wr := by unfold Lt at *; omega
    clear r5 z5 r50 z50 l5 g5
    by_cases hlt : k < 6
    · have hlt' : (k : Int) < 6 := by omega
      have HR := Lib.hid hR
      have HZ := Lib.hid hZ
      have HR0 := Lib.hid hR0
      have HZ0 := Lib.hid hZ0
      have HA := Lib.hid (fun W => rnew18_any k idle (by omega) hlt' h2 h3 W)
      clear hR hZ hR0 hZ0
      have hfit : 391 + k * 67 + 67 ≤ 814 := by omega
      go_wp2_with (go_at_call 29; (with_reducible refine (HA.out _).mono ?_); rintro e W6 ⟨rfl, g6⟩; have hR6 := row_ext' g6 hL HR.out; have hZ6 : frzD W6 D = (0, 0) := (by unfold frzD; rw [g6.block _ hL]; exact HZ.out))
      go_roundw
      case rel => exact ⟨k + 1, by omega, by go_num, (set_wdag (agN k idle) hR6 hlt).trans (wdK_succ n idle k), by rw [frzD_setAt]; exact hZ6, by rw [rowD_setAt_other _ _ _ _ _ (by omega)]; exact row_ext' g6 hL0 HR0.out, by rw [frzD_setAt]; unfold frzD; rw [g6.block _ hL0]; exact HZ0.out, by rw [Lt_setAt]; exact Nat.lt_of_lt_of_le hL g6.size, Ext.sa _ (by omega) (hE.tr g6)⟩
      case measure => simp [intOf]; omega
    · obtain rfl : k = 6 := by omega
      have hR3 : rowD wr D = wdv (wdN n idle) := hR.trans (wdK_six n idle)
      have HE := Lib.hid hE
      clear hR hE
      go_wp2
      have hr : rowD (setAt wr w.heap.size 0 (wdv (wdN n idle))) w.heap.size = wdv (wdN n idle) := setAt_all _ _ _ (by rw [hR0, size_wdv, size_wdv])
      refine bodyPost_ret (results_ct rfl _ _ w.heap.size rfl (lv_wd hr)) rfl ⟨rfl, Ext.sa _ (Nat.le_refl _) HE.out⟩

end Go.Proofs.Ytedamnocolfmlaa

/- Worlds that are too great to be asked. -/
namespace Go.Proofs.Ytedamnocolfmlaa
open Go.RowKit

theorem get_wd_conns (x : Wd) (i : Nat) (h : i < 6) : (wdv x)[391 + i * 67 + 66]? = some (.slice (x.ag i).p (x.ag i).xs.length (x.ag i).c) := by
  unfold wdv; rw [get_rowv, if_pos (by omega)]; unfold Wd.at
  rw [if_neg (by omega), if_neg (by omega), if_neg (by omega), if_neg (by omega), if_pos (by omega), show (391 + i * 67 + 66 - 391) / 67 = i by omega, show (391 + i * 67 + 66 - 391) % 67 = 66 by omega]
  rfl
/-- A world that is too great. -/
def greatW (x : Wd) : Bool := ((List.range 6).any fun i => decide (40 < (x.ag i).xs.length)) || decide (70 < x.fl) || decide (100 < x.tl) || decide (40 < x.st.pl.length)
theorem greatW_ag {x : Wd} (i : Nat) (hi : i < 6) (h : 40 < (x.ag i).xs.length) : greatW x = true := by
  unfold greatW
  rw [show ((List.range 6).any fun i => decide (40 < (x.ag i).xs.length)) = true from List.any_eq_true.2 ⟨i, List.mem_range.2 hi, by simpa using h⟩]
  rfl
theorem greatW_rest {x : Wd} (h : ∀ i, i < 6 → (x.ag i).xs.length ≤ 40) : greatW x = (decide (70 < x.fl) || decide (100 < x.tl) || decide (40 < x.st.pl.length)) := by
  unfold greatW
  rw [show ((List.range 6).any fun i => decide (40 < (x.ag i).xs.length)) = false from List.any_eq_false.2 fun i hi => by have := h i (List.mem_range.1 hi); simp; omega]
  rfl
set_option maxRecDepth 100000 in
set_option maxHeartbeats 4000000 in
theorem great30_any (x : Wd) (w : World) :
    Calls Try.prog 5 #[.agg (wdv x)] w fun e w' => e = .returned (.bool (greatW x)) ∧ Ext w w' := by
  go_enter Try.func5, Try.ntmps5
  go_upto_region 1 with (fail)
  obtain ⟨W0, hW⟩ : ∃ W0, w.alloc (.cells (wdv x) 53) = W0 := ⟨_, rfl⟩
  have g0 : Ext w W0 := by rw [← hW]; exact Ext.al (Ext.rf _) _
  have rx0 : rowD W0 w.heap.size = wdv x := by rw [← hW]; simp [go_sem]
  have lx0 : Lt w.heap.size W0 := by rw [← hW]; simp [go_sem]
  rw [hW]
  clear hW
  go_wp2
  go_loop [3] (fun q => ∃ k : Nat, k ≤ 6 ∧ q = .int .i64 k ∧ (∀ j, j < k → (x.ag j).xs.length ≤ 40)) (fun q => 6 - (intOf q).toNat)
  case atStart => exact ⟨0, Nat.zero_le _, rfl, fun j hj => by omega⟩
  case round =>
    obtain ⟨k, hk, rfl, hA⟩ := hrel
    by_cases hlt : k < 6
    · have hlt' : (k : Int) < 6 := by omega
      have hc : W0.cell? ⟨w.heap.size, 391 + k * 67 + 66, none⟩ = some (.slice (x.ag k).p (x.ag k).xs.length (x.ag k).c) := by rw [cell_rowD, rx0, get_wd_conns x k hlt]
      by_cases h40 : 40 < (x.ag k).xs.length
      · have h40' : (40 : Int) < (x.ag k).xs.length := by omega
        have HN := Lib.hid (greatW_ag k hlt h40)
        clear hA
        go_wp2
        go_ret
        exact ⟨ret_bool HN.out.symm, g0⟩
      · have h40' : ¬ (40 : Int) < (x.ag k).xs.length := by omega
        have HA := Lib.hid hA
        clear hA
        go_wp2
        go_round
        case rel => exact ⟨k + 1, by omega, by go_num, fun j hj => by rcases Nat.lt_or_ge j k with h | h; exact HA.out j h; (obtain rfl : j = k := by omega); omega⟩
        case measure => simp [intOf]; omega
    · obtain rfl : k = 6 := by omega
      have HN := Lib.hid (greatW_rest hA)
      have c793 : W0.cell? ⟨w.heap.size, 793, none⟩ = some (.slice x.fp x.fl x.fc) := by rw [cell_rowD, rx0, get_wd_fl]
      have c794 : W0.cell? ⟨w.heap.size, 794, none⟩ = some (.slice x.tp x.tl x.tc) := by rw [cell_rowD, rx0, get_wd_tr]
      clear hA
      by_cases h1 : 70 < x.fl
      · have h1' : (70 : Int) < x.fl := by omega
        go_wp2
        go_ret
        exact ⟨ret_bool (by rw [HN.out]; simp [h1]), g0⟩
      have h1' : ¬ (70 : Int) < x.fl := by omega
      by_cases h2 : 100 < x.tl
      · have h2' : (100 : Int) < x.tl := by omega
        go_wp2
        go_ret
        exact ⟨ret_bool (by rw [HN.out]; simp [h1, h2]), g0⟩
      have h2' : ¬ (100 : Int) < x.tl := by omega
      go_wp2_with (go_at_call 12; (with_reducible refine (great24_any x.st _).mono ?_); rintro e w2 ⟨rfl, g2⟩)
      go_ret
      exact ⟨ret_bool (by rw [HN.out]; simp [h1, h2]), g0.tr g2⟩

end Go.Proofs.Ytedamnocolfmlaa

/- When tables are the same. -/
namespace Go.Proofs.Ytedamnocolfmlaa
open Go.RowKit

def eqEn (a b : En) : Bool := a.cur == b.cur && a.prev == b.prev && a.gen == b.gen && a.tick == b.tick
theorem eqEn_iff {a b : En} : eqEn a b = true ↔ a = b := by
  obtain ⟨a1, a2, a3, a4⟩ := a
  obtain ⟨b1, b2, b3, b4⟩ := b
  simp [eqEn, and_assoc]
def allE (a b : Nat → En) : Bool := (List.range 16).all fun i => eqEn (a i) (b i)
def eqTb (t u : Tb) : Bool := t.ver == u.ver && (List.range 16).all fun i => eqEn (t.rows i) (u.rows i)
theorem eqIn_en4 (a b c d a' b' c' d' : Int) (w : World) :
    (Op.equalIn 9998 30 (en4 a b c d) (en4 a' b' c' d')).run Try.prog w = .ok (a == a' && b == b' && c == c' && d == d') w := by
  go_simp
  by_cases h1 : a = a' <;> by_cases h2 : b = b' <;> by_cases h3 : c = c' <;> by_cases h4 : d = d' <;> simp [*]
theorem eqIn_en (a b : En) (w : World) : (Op.equalIn 9998 30 (.agg (env a)) (.agg (env b))).run Try.prog w = .ok (eqEn a b) w := by
  rw [env_lit, env_lit]
  exact eqIn_en4 _ _ _ _ _ _ _ _ w
theorem info_en1 : ∃ i, Try.prog.info? 30 = some i := Option.isSome_iff_exists.1 (by kernel_rfl)
theorem cells_en1 : Try.prog.cellsOf 30 = 4 := by kernel_rfl
theorem eqItems_en (a b : Nat → En) (w : World) : ∀ (is : List Nat), (∀ i ∈ is, i < 16) → (Op.eqItems 9998 30 4 (enL a) (enL b) is).run Try.prog w = .ok (is.all fun i => eqEn (a i) (b i)) w
  | [], _ => by simp [Op.eqItems]
  | i :: is, h => by
    have h16 := h i (by simp)
    have px : ∀ l : Nat → En, (part 30 (enL l) (i * 4)).run Try.prog w = .ok (.agg (env (l i))) w := fun l => by
      have hx := cut_enL l i h16
      simp [part, Sem.run_bind, isAgg_en, size_enT, hx]
    have pe := eqIn_en (a i) (b i) w
    simp only [Op.eqItems, Sem.run_bind, px, pe, Result.andThen_ok, List.all_cons]
    cases hb : eqEn (a i) (b i)
    · simp
    · simp only [Bool.not_true, Bool.false_eq_true, if_false, Bool.true_and]
      exact eqItems_en a b w is fun j hj => h j (by simp [hj])
theorem eqIn_rows (a b : Nat → En) (w : World) : (Op.equalIn 9999 31 (.agg (enL a)) (.agg (enL b))).run Try.prog w = .ok ((List.range 16).all fun i => eqEn (a i) (b i)) w := by
  obtain ⟨i, hi⟩ := info_en1
  rw [show (9999 : Nat) = 9998 + 1 from rfl, run_equalIn_array (w := w) 9998 (n := 16) (e := 30) (enL a) (enL b) Try.underlying31 hi, cells_en1, eqItems_en a b w _ (fun i hi => by simpa using hi)]
theorem isAgg_rows (w : World) : (isAgg 31).run Try.prog w = .ok true w := by kernel_rfl
theorem size_rows (w : World) : (sizeOf 31).run Try.prog w = .ok 64 w := by kernel_rfl
theorem isAgg_int (w : World) : (isAgg 3).run Try.prog w = .ok false w := by kernel_rfl
theorem eqFields_tb (d : Nat) (t u : Tb) (w : World) (he : (Op.equalIn d 3 (.int .i64 t.ver) (.int .i64 u.ver)).run Try.prog w = .ok (t.ver == u.ver) w) (hr : (Op.equalIn d 31 (.agg (enL t.rows)) (.agg (enL u.rows))).run Try.prog w = .ok (allE t.rows u.rows) w) :
    (Op.eqFields d (tbv t) (tbv u) [⟨ "Version", 3, 0, false, "", "", 0⟩, ⟨ "Rows", 31, 1, false, "", "", 8⟩]).run Try.prog w = .ok (eqTb t u) w := by
  have hx : ∀ t : Tb, (part 31 (tbv t) 1).run Try.prog w = .ok (.agg (enL t.rows)) w := fun t => by
    have h : (tbv t).extract 1 (1 + 64) = enL t.rows := cut_tb_rows t
    simp [part, Sem.run_bind, isAgg_rows, size_rows, h]
  have hv : ∀ t : Tb, (part 3 (tbv t) 0).run Try.prog w = .ok (.int .i64 t.ver) w := fun t => by
    have := get_tb0 t
    simp [part, Sem.run_bind, isAgg_int, this]
  have h0 : eqTb t u = (t.ver == u.ver && allE t.rows u.rows) := rfl
  rw [h0]
  cases h1 : (t.ver == u.ver)
  · rw [h1] at he
    simp [Op.eqFields, Sem.run_bind, hv, he]
  · rw [h1] at he
    cases h2 : allE t.rows u.rows <;> (rw [h2] at hr; simp [Op.eqFields, Sem.run_bind, hv, hx, he, hr])
theorem fields_tb : (Try.prog.fieldsOf 33).toList = [⟨ "Version", 3, 0, false, "", "", 0⟩, ⟨ "Rows", 31, 1, false, "", "", 8⟩] := by kernel_rfl
theorem eqIn_tb (t u : Tb) (w : World) : (Op.equalIn 10000 33 (.agg (tbv t)) (.agg (tbv u))).run Try.prog w = .ok (eqTb t u) w := by
  have he : (Op.equalIn 9999 3 (.int .i64 t.ver) (.int .i64 u.ver)).run Try.prog w = .ok (t.ver == u.ver) w := by go_simp
  rw [show (10000 : Nat) = 9999 + 1 from rfl, run_equalIn_struct (w := w) 9999 33 (tbv t) (tbv u) (by kernel_rfl) (by kernel_rfl), fields_tb]
  exact eqFields_tb 9999 t u w he (eqIn_rows t.rows u.rows w)
@[go_sem ↓ high] theorem eql_tb (t u : Tb) (w : World) : (binOp .eql 33 (.agg (tbv t)) (.agg (tbv u))).run Try.prog w = .ok (.bool (eqTb t u)) w := by
  rw [run_eql_struct, eqIn_tb]; rfl
@[go_sem ↓ high] theorem neq_tb (t u : Tb) (w : World) : (binOp .neq 33 (.agg (tbv t)) (.agg (tbv u))).run Try.prog w = .ok (.bool (!eqTb t u)) w := by
  rw [run_neq_struct, eqIn_tb]; rfl

end Go.Proofs.Ytedamnocolfmlaa

/- Worlds that are sound. -/
namespace Go.Proofs.Ytedamnocolfmlaa
open Go.RowKit

/-- Two muxes of one version that have other tables. -/
def clash (a b : Cl) : Bool := hasC a == hasC b && !eqTb a.t b.t
def clsB (x : Wd) : Bool := (List.range 3).all fun i => (List.range i).all fun k => !clash (x.cl i) (x.cl k)
def bksB (x : Wd) : Bool := (List.range 16).all fun k => soundB x (k : Int)
def soundW (x : Wd) : Bool := onceX x && bksB x && clsB x
theorem soundW_once {x : Wd} (h : onceX x = false) : soundW x = false := by unfold soundW; rw [h]; rfl
theorem soundW_bk {x : Wd} (k : Nat) (hk : k < 16) (h : soundB x (k : Int) = false) : soundW x = false := by
  unfold soundW
  rw [show bksB x = false from List.all_eq_false.2 ⟨k, List.mem_range.2 hk, by simp [h]⟩]
  simp
theorem soundW_cl {x : Wd} (i k : Nat) (hi : i < 3) (hk : k < i) (h : clash (x.cl i) (x.cl k) = true) : soundW x = false := by
  unfold soundW
  rw [show clsB x = false from List.all_eq_false.2 ⟨i, List.mem_range.2 hi, by rw [Bool.not_eq_true]; exact List.all_eq_false.2 ⟨k, List.mem_range.2 hk, by simp [h]⟩⟩]
  simp
theorem soundW_ok {x : Wd} (h1 : onceX x = true) (h2 : ∀ k : Nat, k < 16 → soundB x (k : Int) = true) (h3 : ∀ i, i < 3 → ∀ k, k < i → clash (x.cl i) (x.cl k) = false) : soundW x = true := by
  unfold soundW
  rw [h1, show bksB x = true from List.all_eq_true.2 fun k hk => h2 k (List.mem_range.1 hk), show clsB x = true from List.all_eq_true.2 fun i hi => List.all_eq_true.2 fun k hk => by rw [h3 i (List.mem_range.1 hi) k (List.mem_range.1 hk)]; rfl]
  rfl
set_option maxRecDepth 100000 in
set_option maxHeartbeats 8000000 in
theorem wsound_any (x : Wd) (w : World) (hx : ∀ i, i < 6 → SlC w (x.ag i).p (x.ag i).xs ∧ (x.ag i).xs.length ≤ 1000 ∧ ∀ c ∈ (x.ag i).xs, TuR c.t) (hl : (allH x).length ≤ 1000) (hso : SortOk (allH x).length) :
    Calls Try.prog 11 #[.agg (wdv x)] w fun e w' => e = .returned (.bool (soundW x)) ∧ Ext w w' := by
  have HO := Lib.hid (fun W (hE : Ext w W) => owned_any x W (fun i hi => (hx i hi).1.ext hE) hl hso)
  have HS := Lib.hid (fun W (hE : Ext w W) k => sound_any x k W (fun i hi => ⟨(hx i hi).1.ext hE, (hx i hi).2⟩))
  clear hx hl hso
  go_enter Try.func11, Try.ntmps11
  go_wp2
  refine wp_scope_fwd 0 rfl ?_
  go_upto_region 1 with (fail)
  obtain ⟨W0, hW⟩ : ∃ W0, w.alloc (.cells (wdv x) 53) = W0 := ⟨_, rfl⟩
  have g0 : Ext w W0 := by rw [← hW]; exact Ext.al (Ext.rf _) _
  have rx0 : rowD W0 w.heap.size = wdv x := by rw [← hW]; simp [go_sem]
  have lx0 : Lt w.heap.size W0 := by rw [← hW]; simp [go_sem]
  rw [hW]
  clear hW
  cases h1 : onceX x
  · have HN := Lib.hid (soundW_once h1)
    rw [h1] at HO
    go_wp2_with (go_at_call 14; (with_reducible refine (HO.out _ g0).mono ?_); rintro e w1 ⟨p1, c1, rfl, g1⟩)
    go_step3
    refine ⟨rfl, ?_⟩
    go_wp2
    rw [Exit.noGoto_ret]
    go_ret
    exact ⟨ret_bool HN.out.symm, g0.tr g1⟩
  rw [h1] at HO
  go_wp2_with (go_at_call 14; (with_reducible refine (HO.out _ g0).mono ?_); rintro e w1 ⟨p1, c1, rfl, g1⟩; have rx1 := row_ext' g1 lx0 rx0; have lx1 : Lt w.heap.size w1 := Nat.lt_of_lt_of_le lx0 g1.size)
  have E1 := g0.tr g1
  clear rx0 lx0 g0 g1 HO
  go_loopw [17] (fun a wr => ∃ k : Nat, k ≤ 16 ∧ a = .int .i64 k ∧ (∀ j : Nat, j < k → soundB x (j : Int) = true) ∧ Ext w1 wr) (fun a _ => 16 - (intOf a).toNat)
  case atStart => exact ⟨0, Nat.zero_le _, rfl, fun j hj => by omega, Ext.rf _⟩
  case round =>
    obtain ⟨k, hk, rfl, hA, hE⟩ := hrel
    have hR := row_ext' hE lx1 rx1
    have hL : Lt w.heap.size wr := Nat.lt_of_lt_of_le lx1 hE.size
    by_cases hlt : k < 16
    · have hlt' : (k : Int) < 16 := by omega
      have HA := Lib.hid hA
      clear hA
      have HC := Lib.hid (HS.out wr (E1.tr hE) (k : Int))
      cases hs : soundB x (k : Int)
      · have HN := Lib.hid (soundW_bk k hlt hs)
        rw [hs] at HC
        go_wp2_with (go_at_call 25; (with_reducible refine (HC.out).mono ?_); rintro e w2 ⟨rfl, g2⟩)
        go_step3
        simp only [Exit.inBlock, Exit.then, Exit.jump]
        refine ⟨rfl, ?_⟩
        go_wp2
        rw [Exit.noGoto_ret]
        go_ret
        exact ⟨ret_bool HN.out.symm, (E1.tr hE).tr g2⟩
      · rw [hs] at HC
        have HB := Lib.hid hs
        go_wp2_with (go_at_call 25; (with_reducible refine (HC.out).mono ?_); rintro e w2 ⟨rfl, g2⟩)
        go_roundw
        case rel => exact ⟨k + 1, by omega, by go_num, fun j hj => by rcases Nat.lt_or_ge j k with h | h; exact HA.out j h; (obtain rfl : j = k := by omega); exact HB.out, hE.tr g2⟩
        case measure => simp [intOf]; omega
    · obtain rfl : k = 16 := by omega
      have HM := Lib.hid hA
      have rx2 := hR
      have lx2 := hL
      have E2 := E1.tr hE
      generalize wr = w2 at *
      clear hA hE hR hL rx1 lx1 HS E1
      rw [show ((16 : Nat) : Int) = 16 from rfl]
      go_wp2
      go_loopw [27] (fun a wr => ∃ k : Nat, k ≤ 3 ∧ a = .int .i64 k ∧ (∀ i, i < k → ∀ j, j < i → clash (x.cl i) (x.cl j) = false) ∧ Ext w2 wr) (fun a _ => 3 - (intOf a).toNat)
      case atStart => exact ⟨0, Nat.zero_le _, rfl, fun j hj => by omega, Ext.rf _⟩
      case round =>
        obtain ⟨k, hk, rfl, hA, hE⟩ := hrel
        have hR := row_ext' hE lx2 rx2
        have hL : Lt w.heap.size wr := Nat.lt_of_lt_of_le lx2 hE.size
        by_cases hlt : k < 3
        · have hlt' : (k : Int) < 3 := by omega
          have hki : (k : Int) ≤ 3 := by omega
          have HA := Lib.hid hA
          clear hA
          go_upto_region 12 with (fail)
          obtain ⟨W3, hW⟩ : ∃ W3, setAt (wr.alloc (.cells Try.zeroCells40 40)) wr.heap.size 0 (clv (x.cl k)) = W3 := ⟨_, rfl⟩
          have g3 : Ext wr W3 := by rw [← hW]; exact Ext.sa _ (Nat.le_refl _) (Ext.al (Ext.rf _) _)
          have r3 : rowD W3 wr.heap.size = clv (x.cl k) := by rw [← hW]; exact setAt_all _ _ _ (by rw [rowD_new, zsize_cl, size_clv])
          have l3 : Lt wr.heap.size W3 := by rw [← hW]; simp [go_sem]
          have rx3 := row_ext' g3 hL hR
          have lx3 : Lt w.heap.size W3 := Nat.lt_of_lt_of_le hL g3.size
          have E3 := hE.tr g3
          rw [hW]
          clear hW g3 hR hL hE
          generalize wr.heap.size = A at *
          go_loopw [35] (fun a wq => ∃ j : Nat, j ≤ k ∧ a = .int .i64 j ∧ (∀ i, i < j → clash (x.cl k) (x.cl i) = false) ∧ Ext W3 wq) (fun a _ => k - (intOf a).toNat)
          case atStart => exact ⟨0, Nat.zero_le _, rfl, fun j hj => by omega, Ext.rf _⟩
          case round =>
            obtain ⟨j, hj, rfl, hB, hF⟩ := hrel
            have hA4 := row_ext' hF l3 r3
            have lA4 : Lt A wr := Nat.lt_of_lt_of_le l3 hF.size
            have hR4 := row_ext' hF lx3 rx3
            have hL4 : Lt w.heap.size wr := Nat.lt_of_lt_of_le lx3 hF.size
            have E4 := E3.tr hF
            by_cases hjt : j < k
            · have hjt' : (j : Int) < k := by omega
              have hj3 : (j : Int) < 3 := by omega
              have hfit : 193 + j * 66 + 66 ≤ 814 := by omega
              have hj3' : j < 3 := by omega
              have HB := Lib.hid hB
              clear hB
              go_upto_region 14 with (fail)
              obtain ⟨W5, hW⟩ : ∃ W5, setAt (wr.alloc (.cells Try.zeroCells40 40)) wr.heap.size 0 (clv (x.cl j)) = W5 := ⟨_, rfl⟩
              have g5 : Ext wr W5 := by rw [← hW]; exact Ext.sa _ (Nat.le_refl _) (Ext.al (Ext.rf _) _)
              have r5 : rowD W5 wr.heap.size = clv (x.cl j) := by rw [← hW]; exact setAt_all _ _ _ (by rw [rowD_new, zsize_cl, size_clv])
              have l5 : Lt wr.heap.size W5 := by rw [← hW]; simp [go_sem]
              have rA5 := row_ext' g5 lA4 hA4
              have lA5 : Lt A W5 := Nat.lt_of_lt_of_le lA4 g5.size
              have HE5 := Lib.hid (E4.tr g5)
              have HF5 := Lib.hid (hF.tr g5)
              rw [hW]
              clear hW g5 hA4 lA4 hR4 hL4 hF E4
              generalize wr.heap.size = D at *
              cases e1 : (hasC (x.cl k) == hasC (x.cl j))
              · have HC := Lib.hid (show clash (x.cl k) (x.cl j) = false by unfold clash; rw [e1]; rfl)
                refine wp_region_later (by kernel_rfl) (by kernel_rfl) ?_; (repeat (go_big_quiet_step ((go_at_call 26; exact calls_later (has_any _ _))))); refine wpQuiet_nil ?_; intro d
                have HD := Lib.hid (later_ext d)
                generalize later d = W6 at *
                go_wp2
                go_roundw
                case rel => exact ⟨j + 1, by omega, by go_num, fun i hi => by rcases Nat.lt_or_ge i j with h | h; exact HB.out i h; (obtain rfl : i = j := by omega); exact HC.out, HF5.out.tr HD.out⟩
                case measure => simp [intOf]; omega
              · cases e2 : eqTb (x.cl k).t (x.cl j).t
                · have HN := Lib.hid (soundW_cl k j hlt hjt (by unfold clash; rw [e1, e2]; rfl))
                  refine wp_region_later (by kernel_rfl) (by kernel_rfl) ?_; (repeat (go_big_quiet_step ((go_at_call 26; exact calls_later (has_any _ _))))); refine wpQuiet_nil ?_; intro d
                  have HD := Lib.hid (later_ext d)
                  generalize later d = W6 at *
                  go_wp2
                  go_step3
                  simp only [Exit.inBlock, Exit.then, Exit.jump]
                  refine ⟨rfl, ?_⟩
                  go_wp2
                  rw [Exit.noGoto_ret]
                  go_ret
                  exact ⟨ret_bool HN.out.symm, E2.tr (HE5.out.tr HD.out)⟩
                · have HC := Lib.hid (show clash (x.cl k) (x.cl j) = false by unfold clash; rw [e1, e2]; rfl)
                  refine wp_region_later (by kernel_rfl) (by kernel_rfl) ?_; (repeat (go_big_quiet_step ((go_at_call 26; exact calls_later (has_any _ _))))); refine wpQuiet_nil ?_; intro d
                  have HD := Lib.hid (later_ext d)
                  generalize later d = W6 at *
                  go_wp2
                  refine ⟨⟨j + 1, by omega, by go_num, fun i hi => by rcases Nat.lt_or_ge i j with h | h; exact HB.out i h; (obtain rfl : i = j := by omega); exact HC.out, HF5.out.tr HD.out⟩, by simp [intOf]; omega⟩
            · obtain rfl : j = k := by omega
              have HB := Lib.hid hB
              clear hB
              go_wp2
              refine ⟨⟨j + 1, by omega, by go_num, fun i hi l hl => by rcases Nat.lt_or_ge i j with h | h; exact HA.out i h l hl; (obtain rfl : i = j := by omega); exact HB.out l hl, E3.tr hF⟩, by simp [intOf]; omega⟩
        · obtain rfl : k = 3 := by omega
          have HC := Lib.hid hA
          have HN := Lib.hid (soundW_ok h1 HM.out HC.out)
          clear hA
          go_wp2
          simp only [Exit.jump]
          go_ret
          exact ⟨ret_bool HN.out.symm, E2.tr hE⟩

end Go.Proofs.Ytedamnocolfmlaa

/- What the worlds of law 30's wakes are like (no program). -/
namespace Go.Proofs.Ytedamnocolfmlaa
open Go.RowKit

def t7 : Tu := ⟨7, 0, 0, 0⟩
def cn7 : Co := ⟨t7, 0, 0⟩
def md1 : Md := ⟨1, -1, 1, false⟩
/-- Two backends with one tuple, both of which own all. -/
structure Two (x : Wd) : Prop where
  bk : ∀ i, i < 6 → thereW x i = decide (i < 2)
  c0 : (x.ag 0).xs = [cn7]
  c1 : (x.ag 1).xs = [cn7]
  m0 : ∀ k, k < 16 → (x.ag 0).md k = md1
  m1 : ∀ k, k < 16 → (x.ag 1).md k = md1
/-- The second one has nothing. -/
structure One (x : Wd) : Prop where
  bk : ∀ i, i < 6 → thereW x i = decide (i < 2)
  c0 : (x.ag 0).xs = [cn7]
  c1 : (x.ag 1).xs = []
  m0 : ∀ k, k < 16 → (x.ag 0).md k = md1
  m1 : ∀ k, k < 16 → (x.ag 1).md k = md0
  cl : x.cl = fun _ => clz
theorem agsL_two {x : Wd} (h : ∀ i, i < 6 → thereW x i = decide (i < 2)) : agsL x = [(0, x.ag 0), (1, x.ag 1)] := by
  unfold agsL pickN
  rw [List.filter_congr (q := fun i => decide (i < 2)) (fun i hi => h i (List.mem_range.1 hi))]
  rfl
theorem agsL_none {x : Wd} (h : ∀ i, i < 6 → thereW x i = false) : agsL x = [] := by
  unfold agsL pickN
  rw [List.filter_congr (q := fun _ => false) (fun i hi => h i (List.mem_range.1 hi))]
  rfl
theorem thoseL_two {x : Wd} (h : ∀ i, i < 6 → thereW x i = decide (i < 2)) (k : Int) (h0 : 0 ≤ k) (h1 : k < 16) (pr : Ag → Bool) : thoseL x k pr = ((if pr (x.ag 0) then [0] else []) ++ if pr (x.ag 1) then [1] else []) := by
  unfold thoseL
  rw [if_pos ⟨h0, h1⟩, agsL_two h]
  cases e0 : pr (x.ag 0) <;> cases e1 : pr (x.ag 1) <;> simp [List.filter_cons, e0, e1]
theorem Two.once {x : Wd} (h : Two x) : onceX x = false ∧ (allH x).length = 2 := by
  have e : allH x = [⟨t7, 0⟩, ⟨t7, 1⟩] := by
    unfold allH
    rw [agsL_two h.bk]
    simp [agH, h.c0, h.c1, cn7]
  unfold onceX
  rw [e]
  exact ⟨by decide, rfl⟩
theorem Two.takers {x : Wd} (h : Two x) : thoseL x 3 (fun a => takesM (a.md (3 : Int).toNat)) = [0, 1] := by
  rw [thoseL_two h.bk 3 (by omega) (by omega)]
  have e0 : (x.ag 0).md (3 : Int).toNat = md1 := h.m0 3 (by omega)
  have e1 : (x.ag 1).md (3 : Int).toNat = md1 := h.m1 3 (by omega)
  rw [e0, e1]
  rfl
theorem One.takers {x : Wd} (h : One x) (k : Nat) (hk : k < 16) : thoseL x k (fun a => takesM (a.md (k : Int).toNat)) = [0] := by
  rw [thoseL_two h.bk k (by omega) (by omega)]
  have e0 : (x.ag 0).md (k : Int).toNat = md1 := by rw [Int.toNat_natCast]; exact h.m0 k hk
  have e1 : (x.ag 1).md (k : Int).toNat = md0 := by rw [Int.toNat_natCast]; exact h.m1 k hk
  rw [e0, e1]
  rfl
theorem One.once {x : Wd} (h : One x) : onceX x = true ∧ (allH x).length = 1 := by
  have e : allH x = [⟨t7, 0⟩] := by
    unfold allH
    rw [agsL_two h.bk]
    simp [agH, h.c0, h.c1, cn7]
  unfold onceX
  rw [e]
  exact ⟨by decide, rfl⟩
theorem eqTb_self (t : Tb) : eqTb t t = true := by
  unfold eqTb
  rw [beq_self_eq_true, List.all_eq_true.2 fun i _ => eqEn_iff.2 rfl]
  rfl
theorem cls_new {x : Wd} (h : x.cl = fun _ => clz) : clsB x = true := List.all_eq_true.2 fun i _ => List.all_eq_true.2 fun k _ => by
  rw [h]
  unfold clash
  rw [eqTb_self]
  simp
theorem One.sound {x : Wd} (h : One x) : soundW x = true := by
  refine soundW_ok h.once.1 (fun k hk => ?_) (fun i hi k hk => ?_)
  · unfold soundB
    rw [h.takers k hk, thoseL_two h.bk k (by omega) (by omega)]
    show (!List.any _ _) = true
    have e1 : holdB k (x.ag 1) = false := by unfold holdB; rw [h.c1]; rfl
    rw [e1]
    cases holdB k (x.ag 0) <;> simp [strayB]
  · have := cls_new h.cl
    rw [h.cl]
    unfold clash
    rw [eqTb_self]
    simp
theorem wdN_there (a b : Int) (i : Nat) : thereW (wdN a b) i = false := rfl
theorem wdN_ags (a b : Int) : agsL (wdN a b) = [] := agsL_none fun i _ => wdN_there a b i
theorem wdN_those (a b k : Int) (pr : Ag → Bool) : thoseL (wdN a b) k pr = [] := by
  unfold thoseL
  rw [wdN_ags]
  split <;> rfl
theorem wdN_allH (a b : Int) : allH (wdN a b) = [] := by unfold allH; rw [wdN_ags]; rfl
theorem wdN_sound (a b : Int) : soundW (wdN a b) = true := by
  refine soundW_ok (by unfold onceX; rw [wdN_allH]; rfl) (fun k hk => ?_) (fun i hi k hk => ?_)
  · unfold soundB
    rw [wdN_those, wdN_those]
    rfl
  · show clash clz clz = false
    unfold clash
    rw [eqTb_self]
    simp
theorem wdN_rest : restB (wdN 5 9) [] = true := by kernel_rfl
theorem wdN_phases : iv 7 (fun p => phN (wdN 5 9).st.mv p 16) = #[.int .i64 16, .int .i64 0, .int .i64 0, .int .i64 0, .int .i64 0, .int .i64 0, .int .i64 0] := by kernel_rfl
theorem wdN_versions : iv 3 (fun i => hasC ((wdN 5 9).cl i)) = #[.int .i64 (-1), .int .i64 (-1), .int .i64 (-1)] := by kernel_rfl

end Go.Proofs.Ytedamnocolfmlaa

/- wakes of law 30: it answers true: the worlds. -/
namespace Go.Proofs.Ytedamnocolfmlaa
open Go.RowKit

theorem info_l6 : (Try.prog.info? 22).map (·.size) = some 6 := by kernel_rfl
theorem loadAt_l6 {w : World} {b o : Nat} (h : o + 6 ≤ (rowD w b).size) : (Instr.loadAt 22 (.pointer (some ⟨b, o, none⟩))).run Try.prog w = .ok (.agg ((rowD w b).extract o (o + 6))) w := by
  have := run_loadAt_mid w b o 22 ((rowD w b).extract o (o + 6)).toList _ (range_rowD w b o (o + 6)) Try.underlying22 rfl (by rw [info_l6]; simp; omega)
  rwa [Array.toArray_toList] at this
theorem loadVar_l6 {w : World} {b o : Nat} (h : o + 6 ≤ (rowD w b).size) : (loadVar 22 ⟨b, o, none⟩).run Try.prog w = .ok (.agg ((rowD w b).extract o (o + 6))) w := by
  have := run_loadVar_mid w b o 22 ((rowD w b).extract o (o + 6)).toList _ (range_rowD w b o (o + 6)) Try.underlying22 rfl (by rw [info_l6]; simp; omega)
  rwa [Array.toArray_toList] at this
@[go_sem ↓ high] theorem exec_load_l6 (ρ : Operand → Value) (dst : Option Tmp) (x : Operand) (ty : TypeId) (pos : String) (after : Array Edge) (g : Option (Nat × Bool)) (w : World)
    (hx : ρ x = .pointer (some ⟨blkOf (ρ x), offOf (ρ x), none⟩)) (h : Fits (offOf (ρ x)) 6 (rowD w (blkOf (ρ x)))) :
    (execOp ρ ⟨dst, .load 22 x, ty, pos, after, g⟩).run Try.prog w = .ok (.value (.agg (cutD (rowD w (blkOf (ρ x))) (offOf (ρ x)) 6))) w := by
  unfold Fits at h
  generalize hB : blkOf (ρ x) = B at *
  generalize hO : offOf (ρ x) = O at *
  simp only [execOp, hx, Sem.run_bind, loadAt_l6 h, Result.andThen_ok, Sem.run_pure, cutD]
@[go_sem ↓ high] theorem sem_load_l6 (l : Option Nat) (ρ : Operand → Value) (dst : Option Tmp) (x : Operand) (ty : TypeId) (pos : String) (after : Array Edge) (g : Option (Nat × Bool)) (w : World)
    (hx : ρ x = .pointer (some ⟨blkOf (ρ x), offOf (ρ x), none⟩)) (h : Fits (offOf (ρ x)) 6 (rowD w (blkOf (ρ x)))) :
    (Oper.semAt l ρ ⟨dst, .load 22 x, ty, pos, after, g⟩).run Try.prog w = .ok (.value (.agg (cutD (rowD w (blkOf (ρ x))) (offOf (ρ x)) 6))) w := by rw [Oper.semAt_eq _ _ _ (fun c h => by cases h)]; exact exec_load_l6 ρ dst x ty pos after g w hx h
@[go_sem ↓ high] theorem exec_store_l6 (ρ : Operand → Value) (dst : Option Tmp) (x y : Operand) (ty : TypeId) (pos : String) (after : Array Edge) (g : Option (Nat × Bool)) (w : World)
    (hx : ρ x = .pointer (some ⟨blkOf (ρ x), offOf (ρ x), none⟩)) (hy : ρ y = .agg (ρ y).cells) (hs : SizeIs (ρ y).cells 6) (h : Fits (offOf (ρ x)) 6 (rowD w (blkOf (ρ x)))) (hz : frzD w (blkOf (ρ x)) = (0, 0)) (h1 : oneC (ρ y).cells) :
    (execOp ρ ⟨dst, .store 22 x y, ty, pos, after, g⟩).run Try.prog w = .ok .skip (setAt w (blkOf (ρ x)) (offOf (ρ x)) (ρ y).cells) := by
  unfold Fits at h
  unfold SizeIs at hs
  generalize hB : blkOf (ρ x) = B at *
  generalize hO : offOf (ρ x) = O at *
  generalize hC : (ρ y).cells = C at *
  have hst : (Instr.storeAt 22 (.pointer (some ⟨B, O, none⟩)) (.agg C)).run Try.prog w = .ok () (setAt w B O C) :=
    run_storeAt_mid w B O 22 C (fun j hj => ⟨by rw [cell_rowD, Array.getElem?_eq_getElem (by omega)]; rfl, frozen_of_frz hz _⟩) (by rw [info_l6, hs]) h1
  simp only [execOp, hx, hy, Sem.run_bind, hst, Result.andThen_ok, Sem.run_pure]
@[go_sem ↓ high] theorem sem_store_l6 (l : Option Nat) (ρ : Operand → Value) (dst : Option Tmp) (x y : Operand) (ty : TypeId) (pos : String) (after : Array Edge) (g : Option (Nat × Bool)) (w : World)
    (hx : ρ x = .pointer (some ⟨blkOf (ρ x), offOf (ρ x), none⟩)) (hy : ρ y = .agg (ρ y).cells) (hs : SizeIs (ρ y).cells 6) (h : Fits (offOf (ρ x)) 6 (rowD w (blkOf (ρ x)))) (hz : frzD w (blkOf (ρ x)) = (0, 0)) (h1 : oneC (ρ y).cells) :
    (Oper.semAt l ρ ⟨dst, .store 22 x y, ty, pos, after, g⟩).run Try.prog w = .ok .skip (setAt w (blkOf (ρ x)) (offOf (ρ x)) (ρ y).cells) := by rw [Oper.semAt_eq _ _ _ (fun c h => by cases h)]; exact exec_store_l6 ρ dst x y ty pos after g w hx hy hs h hz h1

attribute [local go_sem ↓ high] exec_zalloc_tb sem_zalloc_tb exec_zalloc_st sem_zalloc_st exec_zalloc_wd sem_zalloc_wd
@[go_sem] theorem sizeIs_lit6 {a b c d e f : Value} : SizeIs #[a, b, c, d, e, f] 6 := rfl
@[go_sem] theorem oneC_lit6 {a b c d e f : Int} {k : IntKind} : oneC #[.int k a, .int k b, .int k c, .int k d, .int k e, .int k f] := by unfold oneC; simp [Value.oneCell']
@[go_sem] theorem sizeIs_lit4 {a b c d : Value} : SizeIs #[a, b, c, d] 4 := rfl
@[go_sem] theorem oneC_md {a b c : Int} {d : Bool} : oneC #[.int .u8 a, .int .i64 b, .int .i64 c, .bool d] := by unfold oneC; simp [Value.oneCell']
def bkO (i : Nat) : Int := if i < 2 then 1 else 0
theorem bkO_lit : (#[.int .u8 1, .int .u8 1, .int .u8 0, .int .u8 0, .int .u8 0, .int .u8 0] : Array Value) = rowv 6 fun i => .int .u8 (bkO i) := by kernel_rfl
theorem set_wdbk {W : World} {b : Nat} {x : Wd} (hr : rowD W b = wdv x) : rowD (setAt W b 2 #[.int .u8 1, .int .u8 1, .int .u8 0, .int .u8 0, .int .u8 0, .int .u8 0]) b = wdv { x with st := { x.st with mb := { x.st.mb with bk := bkO } } } := by
  unfold wdv at *
  rw [bkO_lit, rowD_setAt_same _ _ _ _ _ _ _ hr (by omega)]
  refine rowv_congr _ _ _ fun j hj => ?_
  unfold ovl Wd.at
  dsimp only
  by_cases h1 : 2 ≤ j ∧ j < 2 + 6
  · rw [if_pos h1, if_neg (show ¬ j = 0 by omega), if_neg (show ¬ j = 1 by omega), if_pos (show j < 193 by omega)]
    unfold St.at
    rw [if_pos (by omega)]
    unfold Mb.at
    rw [if_pos (by omega)]
  · rw [if_neg h1]
    by_cases h2 : j = 0
    · rw [if_pos h2, if_pos h2]
    rw [if_neg h2, if_neg h2]
    by_cases h3 : j = 1
    · rw [if_pos h3, if_pos h3]
    rw [if_neg h3, if_neg h3]
    by_cases h4 : j < 193
    · rw [if_pos h4, if_pos h4]
      unfold St.at
      dsimp only
      by_cases h5 : j - 2 < 9
      · rw [if_pos h5, if_pos h5]
        unfold Mb.at
        rw [if_neg (by omega), if_neg (by omega)]
      · rw [if_neg h5, if_neg h5]
    rw [if_neg h4, if_neg h4]
theorem set_wdcn {W : World} {b i : Nat} {x : Wd} (p : Option Addr) (xs : List Co) (c : Nat) (hr : rowD W b = wdv x) (hi : i < 6) : rowD (W.setCell ⟨b, 391 + i * 67 + 66, none⟩ (.slice p xs.length c)) b = wdv { x with ag := fun j => if j = i then { x.ag i with p := p, xs := xs, c := c } else x.ag j } := by
  rw [rowD_setCell, if_pos rfl, hr]
  unfold wdv
  rw [set_rowv]
  refine rowv_congr _ _ _ fun j hj => ?_
  unfold upd Wd.at
  dsimp only
  by_cases h1 : j = 391 + i * 67 + 66
  · rw [if_pos h1, if_neg (show ¬ j = 0 by omega), if_neg (show ¬ j = 1 by omega), if_neg (show ¬ j < 193 by omega), if_neg (show ¬ j < 391 by omega), if_pos (show j < 793 by omega), if_pos (show (j - 391) / 67 = i by omega), show (j - 391) % 67 = 66 by omega]
    rfl
  · rw [if_neg h1]
    by_cases h6 : 391 ≤ j ∧ j < 793
    · rw [if_neg (show ¬ j = 0 by omega), if_neg (show ¬ j = 1 by omega), if_neg (show ¬ j < 193 by omega), if_neg (show ¬ j < 391 by omega), if_pos (show j < 793 by omega), if_neg (show ¬ j = 0 by omega), if_neg (show ¬ j = 1 by omega), if_neg (show ¬ j < 193 by omega), if_neg (show ¬ j < 391 by omega), if_pos (show j < 793 by omega)]
      by_cases h7 : (j - 391) / 67 = i
      · rw [if_pos h7, h7]
        unfold Ag.at
        dsimp only
        rw [if_pos (show (j - 391) % 67 < 66 by omega), if_pos (show (j - 391) % 67 < 66 by omega)]
      · rw [if_neg h7]
    · by_cases h2 : j < 391
      · rw [if_pos h2, if_pos h2]
      · rw [if_neg h2, if_neg h2, if_neg (show ¬ j < 793 by omega), if_neg (show ¬ j < 793 by omega)]
theorem set_wdmd {W : World} {b i k : Nat} {x : Wd} (m : Md) (hr : rowD W b = wdv x) (hi : i < 6) (hk : k < 16) : rowD (setAt W b (391 + i * 67 + 2 + k * 4) (mdv m)) b = wdv { x with ag := fun j => if j = i then { x.ag i with md := fun q => if q = k then m else (x.ag i).md q } else x.ag j } := by
  unfold wdv at *
  unfold mdv
  rw [rowD_setAt_same _ _ _ _ _ _ _ hr (by omega)]
  refine rowv_congr _ _ _ fun j hj => ?_
  unfold ovl Wd.at
  dsimp only
  by_cases h1 : 391 + i * 67 + 2 + k * 4 ≤ j ∧ j < 391 + i * 67 + 2 + k * 4 + 4
  · have hq : (j - 391) / 67 = i := by omega
    have hm : (j - 391) % 67 = j - 391 - 67 * i := by omega
    rw [if_pos h1, if_neg (show ¬ j = 0 by omega), if_neg (show ¬ j = 1 by omega), if_neg (show ¬ j < 193 by omega), if_neg (show ¬ j < 391 by omega), if_pos (show j < 793 by omega), if_pos hq]
    unfold Ag.at
    dsimp only
    rw [hm, if_neg (show ¬ j - 391 - 67 * i = 0 by omega), if_neg (show ¬ j - 391 - 67 * i = 1 by omega), if_pos (show j - 391 - 67 * i < 66 by omega), if_pos (show (j - 391 - 67 * i - 2) / 4 = k by omega), show (j - 391 - 67 * i - 2) % 4 = j - (391 + i * 67 + 2 + k * 4) by omega]
  · rw [if_neg h1]
    by_cases h6 : 391 ≤ j ∧ j < 793
    · rw [if_neg (show ¬ j = 0 by omega), if_neg (show ¬ j = 1 by omega), if_neg (show ¬ j < 193 by omega), if_neg (show ¬ j < 391 by omega), if_pos (show j < 793 by omega), if_neg (show ¬ j = 0 by omega), if_neg (show ¬ j = 1 by omega), if_neg (show ¬ j < 193 by omega), if_neg (show ¬ j < 391 by omega), if_pos (show j < 793 by omega)]
      by_cases h7 : (j - 391) / 67 = i
      · rw [if_pos h7, h7]
        unfold Ag.at
        dsimp only
        by_cases a0 : (j - 391) % 67 = 0
        · rw [if_pos a0, if_pos a0]
        rw [if_neg a0, if_neg a0]
        by_cases a1 : (j - 391) % 67 = 1
        · rw [if_pos a1, if_pos a1]
        rw [if_neg a1, if_neg a1]
        by_cases a2 : (j - 391) % 67 < 66
        · have hm : (j - 391) % 67 = j - 391 - 67 * i := by omega
          rw [if_pos a2, if_pos a2, if_neg (show ¬ ((j - 391) % 67 - 2) / 4 = k by rw [hm] at *; omega)]
        · rw [if_neg a2, if_neg a2]
      · rw [if_neg h7]
    · by_cases h2 : j < 391
      · rw [if_pos h2, if_pos h2]
      · rw [if_neg h2, if_neg h2, if_neg (show ¬ j < 793 by omega), if_neg (show ¬ j < 793 by omega)]
theorem set_wdmds {W : World} {b i : Nat} {x : Wd} (f : Nat → Md) (hr : rowD W b = wdv x) (hi : i < 6) : rowD (setAt W b (391 + i * 67 + 2) (mdL f)) b = wdv { x with ag := fun j => if j = i then { x.ag i with md := f } else x.ag j } := by
  unfold wdv at *
  unfold mdL
  rw [rowD_setAt_same _ _ _ _ _ _ _ hr (by omega)]
  refine rowv_congr _ _ _ fun j hj => ?_
  unfold ovl Wd.at
  dsimp only
  by_cases h1 : 391 + i * 67 + 2 ≤ j ∧ j < 391 + i * 67 + 2 + 64
  · have hq : (j - 391) / 67 = i := by omega
    have hm : (j - 391) % 67 = j - 391 - 67 * i := by omega
    rw [if_pos h1, if_neg (show ¬ j = 0 by omega), if_neg (show ¬ j = 1 by omega), if_neg (show ¬ j < 193 by omega), if_neg (show ¬ j < 391 by omega), if_pos (show j < 793 by omega), if_pos hq]
    unfold Ag.at
    dsimp only
    rw [hm, if_neg (show ¬ j - 391 - 67 * i = 0 by omega), if_neg (show ¬ j - 391 - 67 * i = 1 by omega), if_pos (show j - 391 - 67 * i < 66 by omega), show j - 391 - 67 * i - 2 = j - (391 + i * 67 + 2) by omega]
  · rw [if_neg h1]
    by_cases h6 : 391 ≤ j ∧ j < 793
    · rw [if_neg (show ¬ j = 0 by omega), if_neg (show ¬ j = 1 by omega), if_neg (show ¬ j < 193 by omega), if_neg (show ¬ j < 391 by omega), if_pos (show j < 793 by omega), if_neg (show ¬ j = 0 by omega), if_neg (show ¬ j = 1 by omega), if_neg (show ¬ j < 193 by omega), if_neg (show ¬ j < 391 by omega), if_pos (show j < 793 by omega)]
      by_cases h7 : (j - 391) / 67 = i
      · rw [if_pos h7, h7]
        unfold Ag.at
        dsimp only
        by_cases a0 : (j - 391) % 67 = 0
        · rw [if_pos a0, if_pos a0]
        rw [if_neg a0, if_neg a0]
        by_cases a1 : (j - 391) % 67 = 1
        · rw [if_pos a1, if_pos a1]
        have hm : (j - 391) % 67 = j - 391 - 67 * i := by omega
        have a2 : ¬ (j - 391) % 67 < 66 := by rw [hm] at *; omega
        rw [if_neg a1, if_neg a1, if_neg a2, if_neg a2]
      · rw [if_neg h7]
    · by_cases h2 : j < 391
      · rw [if_pos h2, if_pos h2]
      · rw [if_neg h2, if_neg h2, if_neg (show ¬ j < 793 by omega), if_neg (show ¬ j < 793 by omega)]

end Go.Proofs.Ytedamnocolfmlaa

/- wakes of law 30: it answers true: the worlds are made. -/
namespace Go.Proofs.Ytedamnocolfmlaa
open Go.RowKit

attribute [local go_sem ↓ high] exec_zalloc_tb sem_zalloc_tb exec_zalloc_st sem_zalloc_st exec_zalloc_wd sem_zalloc_wd
/-- A slice of just cn7 in a block above D. -/
def Own7 (D : Nat) (w : World) (p : Option Addr) : Prop := ∃ b, p = some ⟨b, 0, none⟩ ∧ D < b ∧ Lt b w ∧ rowD w b = #[.int .u32 cn7.t.a, .int .u32 cn7.t.b, .int .u16 cn7.t.c, .int .u16 cn7.t.d, .int .i64 cn7.s, .int .i64 cn7.l]
theorem Own7.mv {D : Nat} {w w' : World} {p : Option Addr} (h : Own7 D w p) (m : Mv (fun k => k = D) w w') : Own7 D w' p := by
  obtain ⟨b, h1, h2, h3, h4⟩ := h
  exact ⟨b, h1, h2, Nat.lt_of_lt_of_le h3 m.size, by rw [rowD_same (m.same b h3 (by omega))]; exact h4⟩
theorem Own7.sl {D : Nat} {w : World} {p : Option Addr} (h : Own7 D w p) : SlC w p [cn7] := fun k hk => by
  obtain ⟨b, rfl, -, h3, h4⟩ := h
  obtain rfl : k = 0 := by simpa using hk
  refine ⟨b, 0, rfl, h3, ?_, ?_, ?_, ?_, ?_, ?_⟩ <;> rw [cell_rowD, h4] <;> rfl
/-- What o is like while it is made: i agents whole, of the next one kk modes. -/
structure PreO (D : Nat) (x : Wd) (i : Nat) (w : World) : Prop where
  bk : ∀ j, j < 6 → thereW x j = decide (j < 2)
  cl : x.cl = fun _ => clz
  xs : ∀ j, j < i → (x.ag j).xs = [cn7] ∧ Own7 D w (x.ag j).p
  md : ∀ j, j < i → ∀ k, k < 16 → (x.ag j).md k = md1
  rest : ∀ j, i ≤ j → x.ag j = agN j 9
theorem PreO.mv {D : Nat} {x : Wd} {i : Nat} {w w' : World} (h : PreO D x i w) (e : Mv (fun k => k = D) w w') : PreO D x i w' := ⟨h.bk, h.cl, fun j hj => ⟨(h.xs j hj).1, (h.xs j hj).2.mv e⟩, h.md, h.rest⟩
structure PreI (D : Nat) (x : Wd) (i kk : Nat) (w : World) : Prop where
  bk : ∀ j, j < 6 → thereW x j = decide (j < 2)
  cl : x.cl = fun _ => clz
  xs : ∀ j, j < i + 1 → (x.ag j).xs = [cn7] ∧ Own7 D w (x.ag j).p
  md : ∀ j, j < i → ∀ k, k < 16 → (x.ag j).md k = md1
  mi : ∀ k, k < kk → (x.ag i).md k = md1
  rest : ∀ j, i < j → x.ag j = agN j 9
theorem PreI.mv {D : Nat} {x : Wd} {i kk : Nat} {w w' : World} (h : PreI D x i kk w) (e : Mv (fun k => k = D) w w') : PreI D x i kk w' := ⟨h.bk, h.cl, fun j hj => ⟨(h.xs j hj).1, (h.xs j hj).2.mv e⟩, h.md, h.mi, h.rest⟩
theorem PreI.done {D : Nat} {x : Wd} {i : Nat} {w : World} (h : PreI D x i 16 w) : PreO D x (i + 1) w := ⟨h.bk, h.cl, h.xs, fun j hj k hk => by
  by_cases e : j = i
  · subst e; exact h.mi k hk
  · exact h.md j (by omega) k hk, fun j hj => h.rest j (by omega)⟩
theorem PreO.begin {D : Nat} {x : Wd} {i : Nat} {w w' : World} (h : PreO D x i w) (e : Mv (fun k => k = D) w w') (p : Option Addr) (hs : Own7 D w' p) : PreI D { x with ag := fun j => if j = i then { x.ag i with p := p, xs := [cn7], c := 1 } else x.ag j } i 0 w' :=
  ⟨h.bk, h.cl, fun j hj => by
    dsimp only
    by_cases q : j = i
    · rw [if_pos q]; exact ⟨rfl, hs⟩
    · rw [if_neg q]; exact ⟨(h.xs j (by omega)).1, (h.xs j (by omega)).2.mv e⟩,
  fun j hj k hk => by dsimp only; rw [if_neg (by omega)]; exact h.md j hj k hk, fun k hk => by omega, fun j hj => by dsimp only; rw [if_neg (by omega)]; exact h.rest j (by omega)⟩
theorem PreI.next {D : Nat} {x : Wd} {i kk : Nat} {w : World} (h : PreI D x i kk w) : PreI D { x with ag := fun j => if j = i then { x.ag i with md := fun q => if q = kk then md1 else (x.ag i).md q } else x.ag j } i (kk + 1) w :=
  ⟨h.bk, h.cl, fun j hj => by
    dsimp only
    by_cases q : j = i
    · subst q; rw [if_pos rfl]; exact h.xs j hj
    · rw [if_neg q]; exact h.xs j hj,
  fun j hj k hk => by dsimp only; rw [if_neg (by omega)]; exact h.md j hj k hk, fun k hk => by
    dsimp only
    rw [if_pos rfl]
    dsimp only
    by_cases q : k = kk
    · rw [if_pos q]
    · rw [if_neg q]; exact h.mi k (by omega), fun j hj => by dsimp only; rw [if_neg (by omega)]; exact h.rest j hj⟩
/-- Rows of three blocks. -/
structure RowW (w : World) (b : Nat) (x : Wd) : Prop where
  r : rowD w b = wdv x
  z : frzD w b = (0, 0)
  l : Lt b w
theorem RowW.ext {w w' : World} {b : Nat} {x : Wd} (h : RowW w b x) (e : Ext w w') : RowW w' b x := ⟨row_ext' e h.l h.r, by have := h.z; unfold frzD at this ⊢; rw [e.block _ h.l]; exact this, Nat.lt_of_lt_of_le h.l e.size⟩
theorem RowW.new (W : World) (x : Wd) : RowW (setAt (W.alloc (.cells (wdv wdz) 53)) W.heap.size 0 (wdv x)) W.heap.size x :=
  ⟨setAt_all _ _ _ (by rw [rowD_new, size_wdv, size_wdv]), by rw [frzD_setAt, frzD_alloc, if_pos rfl], by rw [Lt_setAt]; simp [go_sem]⟩
theorem RowW.old {w W : World} {b : Nat} {x : Wd} (h : RowW W b x) (y : Wd) : RowW (setAt (W.alloc (.cells (wdv wdz) 53)) W.heap.size 0 (wdv y)) b x :=
  h.ext (Ext.sa _ (Nat.le_refl _) (Ext.al (Ext.rf _) _))
theorem RowW.other {W : World} {b b' o : Nat} {x : Wd} (h : RowW W b x) (cs : Array Value) (hb : b ≠ b') : RowW (setAt W b' o cs) b x :=
  ⟨by rw [rowD_setAt_other _ _ _ _ _ hb]; exact h.r, by rw [frzD_setAt]; exact h.z, by rw [Lt_setAt]; exact h.l⟩
theorem RowW.otherC {W : World} {b b' o : Nat} {x : Wd} (h : RowW W b x) (v : Value) (hb : b ≠ b') : RowW (W.setCell ⟨b', o, none⟩ v) b x :=
  ⟨by rw [rowD_setCell, if_neg hb]; exact h.r, by rw [frzD_setCell]; exact h.z, by rw [Lt_setCell]; exact h.l⟩
theorem info_int1 : ∃ i, Try.prog.info? 3 = some i := Option.isSome_iff_exists.1 (by kernel_rfl)
theorem cells_int1 : Try.prog.cellsOf 3 = 1 := by kernel_rfl
theorem isAgg_int1 (w : World) : (isAgg 3).run Try.prog w = .ok false w := by kernel_rfl
theorem eqIn_int (a b : Int) (w : World) : (Op.equalIn 9999 3 (.int .i64 a) (.int .i64 b)).run Try.prog w = .ok (a == b) w := by go_simp
theorem eqItems_iv (n : Nat) (f g : Nat → Int) (w : World) : ∀ (is : List Nat), (∀ i ∈ is, i < n) → (Op.eqItems 9999 3 1 (iv n f) (iv n g) is).run Try.prog w = .ok (is.all fun i => f i == g i) w
  | [], _ => by simp [Op.eqItems]
  | i :: is, h => by
    have h16 := h i (by simp)
    have px : ∀ f : Nat → Int, (part 3 (iv n f) (i * 1)).run Try.prog w = .ok (.int .i64 (f i)) w := fun f => by
      have hx := get_iv (f := f) h16
      simp [part, Sem.run_bind, isAgg_int1, hx]
    have pe := eqIn_int (f i) (g i) w
    simp only [Op.eqItems, Sem.run_bind, px, pe, Result.andThen_ok, List.all_cons]
    cases hb : (f i == g i)
    · simp
    · simp only [Bool.not_true, Bool.false_eq_true, if_false, Bool.true_and]
      exact eqItems_iv n f g w is fun j hj => h j (by simp [hj])
theorem eql_i7 (f g : Nat → Int) (w : World) : (binOp .eql 77 (.agg (iv 7 f)) (.agg (iv 7 g))).run Try.prog w = .ok (.bool ((List.range 7).all fun i => f i == g i)) w := by
  obtain ⟨i, hi⟩ := info_int1
  rw [run_eql_struct, show (10000 : Nat) = 9999 + 1 from rfl, run_equalIn_array (w := w) 9999 (n := 7) (e := 3) (iv 7 f) (iv 7 g) Try.underlying77 hi, cells_int1, eqItems_iv 7 f g w _ (fun i hi => by simpa using hi)]
  rfl
theorem eql_i3 (f g : Nat → Int) (w : World) : (binOp .eql 35 (.agg (iv 3 f)) (.agg (iv 3 g))).run Try.prog w = .ok (.bool ((List.range 3).all fun i => f i == g i)) w := by
  obtain ⟨i, hi⟩ := info_int1
  rw [run_eql_struct, show (10000 : Nat) = 9999 + 1 from rfl, run_equalIn_array (w := w) 9999 (n := 3) (e := 3) (iv 3 f) (iv 3 g) Try.underlying35 hi, cells_int1, eqItems_iv 3 f g w _ (fun i hi => by simpa using hi)]
  rfl
@[go_sem ↓ high] theorem eql_ph (w : World) : (binOp .eql 77 (.agg #[.int .i64 16, .int .i64 0, .int .i64 0, .int .i64 0, .int .i64 0, .int .i64 0, .int .i64 0]) (.agg #[.int .i64 16, .int .i64 0, .int .i64 0, .int .i64 0, .int .i64 0, .int .i64 0, .int .i64 0])).run Try.prog w = .ok (.bool true) w := by
  rw [← wdN_phases, eql_i7]
  simp
@[go_sem ↓ high] theorem eql_ve (w : World) : (binOp .eql 35 (.agg #[.int .i64 (-1), .int .i64 (-1), .int .i64 (-1)]) (.agg #[.int .i64 (-1), .int .i64 (-1), .int .i64 (-1)])).run Try.prog w = .ok (.bool true) w := by
  rw [← wdN_versions, eql_i3]
  simp
theorem tk_any (x : Wd) (k : Int) (l : List Int) (h : thoseL x k (fun a => takesM (a.md k.toNat)) = l) (w : World) :
    Calls Try.prog 9 #[.agg (wdv x), .int .i64 k] w fun e w' => ∃ p c, e = .returned (.slice p l.length c) ∧ SlI w' p l ∧ Ext w w' :=
  (wtakers_any x k w).mono fun e w' ⟨v, h1, h2, h3⟩ => by
    rw [h] at h2
    obtain ⟨p, c, rfl, -, hs⟩ := slI_own h2
    exact ⟨p, c, h1, hs, h3⟩
theorem ho_any (x : Wd) (k : Int) (l : List Int) (h : thoseL x k (holdB k) = l) (w : World) (hx : ∀ i, i < 6 → SlC w (x.ag i).p (x.ag i).xs ∧ (x.ag i).xs.length ≤ 1000 ∧ ∀ c ∈ (x.ag i).xs, TuR c.t) :
    Calls Try.prog 8 #[.agg (wdv x), .int .i64 k] w fun e w' => ∃ p c, e = .returned (.slice p l.length c) ∧ SlI w' p l ∧ Ext w w' :=
  (wholders_any x k w hx).mono fun e w' ⟨v, h1, h2, h3⟩ => by
    rw [h] at h2
    obtain ⟨p, c, rfl, -, hs⟩ := slI_own h2
    exact ⟨p, c, h1, hs, h3⟩
theorem SlI.one0 (w : World) (t : TypeId) : SlI (w.alloc (.cells #[.int .i64 0] t)) (some ⟨w.heap.size, 0, none⟩) [0] := fun k hk => by
  obtain rfl : k = 0 := by simpa using hk
  exact ⟨w.heap.size, 0, rfl, by simp, by rw [cell_rowD, rowD_new]; rfl⟩
theorem ints_one (p q : Option Addr) (c d : Nat) (W : World) (hx : SlI W p [0]) (hy : SlI W q [0]) : Calls Try.prog 18 #[.slice p 1 c, .slice q 1 d] W fun e w' => e = .returned (.bool true) ∧ Ext W w' :=
  ints_any [0] [0] p q c d W hx hy (by simp) (by simp)
/-- The three worlds that wakes asks of. -/
structure Three (W : World) (D1 D3 D8 : Nat) (x x3 : Wd) : Prop where
  r1 : rowD W D1 = wdv (wdN 5 9)
  r3 : rowD W D3 = wdv x
  r8 : rowD W D8 = wdv x3
  l1 : Lt D1 W
  l3 : Lt D3 W
  l8 : Lt D8 W
theorem Three.ext {W W' : World} {D1 D3 D8 : Nat} {x x3 : Wd} (h : Three W D1 D3 D8 x x3) (e : Ext W W') : Three W' D1 D3 D8 x x3 :=
  ⟨row_ext' e h.l1 h.r1, row_ext' e h.l3 h.r3, row_ext' e h.l8 h.r8, Nat.lt_of_lt_of_le h.l1 e.size, Nat.lt_of_lt_of_le h.l3 e.size, Nat.lt_of_lt_of_le h.l8 e.size⟩
@[go_sem] theorem cut_wd_mds1 (x : Wd) : cutD (wdv x) 460 64 = mdL (x.ag 1).md := by
  unfold wdv mdL
  rw [cut_rowv _ _ _ _ (by omega)]
  refine rowv_congr _ _ _ fun j hj => ?_
  unfold Wd.at
  rw [if_neg (by omega), if_neg (by omega), if_neg (by omega), if_neg (by omega), if_pos (by omega), show (460 + j - 391) / 67 = 1 by omega, show (460 + j - 391) % 67 = j + 2 by omega]
  unfold Ag.at
  rw [if_neg (by omega), if_neg (by omega), if_pos (by omega), show j + 2 - 2 = j by omega]
set_option maxRecDepth 100000 in
set_option maxHeartbeats 8000000 in
theorem wakes30_any (w : World) : Calls Try.prog 6 #[] w fun e w' => e = .returned (.bool true) ∧ Ext w w' := by
  have hN : ∀ W, Calls Try.prog 13 #[.int .i64 5, .int .i64 9] W fun e w' => e = .returned (.tuple #[.agg (wdv (wdN 5 9)), .int .i64 0]) ∧ Ext W w' := fun W => rnew27_any 5 9 (by omega) (by omega) (by omega) (by omega) W
  obtain ⟨x1, hx1⟩ : ∃ x1, wdN 5 9 = x1 := ⟨_, rfl⟩
  rw [hx1] at hN
  have HN := Lib.hid hN
  have HX := Lib.hid hx1
  clear hN hx1
  go_enter Try.func6, Try.ntmps6
  go_upto_region 2 with (go_at_call 13; (with_reducible refine (HN.out _).mono ?_); rintro e W2 ⟨rfl, g2⟩)
  obtain ⟨W3, hW⟩ : ∃ W3, setAt (W2.alloc (.cells (wdv wdz) 53)) W2.heap.size 0 (wdv x1) = W3 := ⟨_, rfl⟩
  have g3 : Ext w W3 := by rw [← hW]; exact Ext.sa _ g2.size (Ext.al g2 _)
  have r3 : RowW W3 W2.heap.size x1 := by rw [← hW]; exact RowW.new _ _
  have s2 := g2.size
  rw [hW]
  clear hW g2
  generalize W2.heap.size = D1 at *
  have rr := r3.r
  have rl := r3.l
  go_upto_region 3 with (fail)
  obtain ⟨W4, hW⟩ : ∃ W4, setAt (W3.alloc (.cells (wdv wdz) 53)) W3.heap.size 0 (wdv x1) = W4 := ⟨_, rfl⟩
  have g4 : Ext w W4 := by rw [← hW]; exact Ext.sa _ g3.size (Ext.al g3 _)
  have r4 : RowW W4 W3.heap.size x1 := by rw [← hW]; exact RowW.new _ _
  have q4 : RowW W4 D1 x1 := by rw [← hW]; exact RowW.old (w := w) r3 _
  have s3 : D1 < W3.heap.size := rl
  rw [hW]
  clear hW g3 r3 rr rl
  generalize W3.heap.size = D3 at *
  have rr := r4.r
  have rl := r4.l
  have rz := r4.z
  go_upto_region 4 with (fail)
  obtain ⟨W5, hW⟩ : ∃ W5, setAt W4 D3 2 #[.int .u8 1, .int .u8 1, .int .u8 0, .int .u8 0, .int .u8 0, .int .u8 0] = W5 := ⟨_, rfl⟩
  have g5 : Ext w W5 := by rw [← hW]; exact Ext.sa _ (by omega) g4
  have r5 : RowW W5 D3 { x1 with st := { x1.st with mb := { x1.st.mb with bk := bkO } } } := by rw [← hW]; exact ⟨set_wdbk rr, by rw [frzD_setAt]; exact rz, by rw [Lt_setAt]; exact rl⟩
  have q5 : RowW W5 D1 x1 := by rw [← hW]; exact q4.other _ (by omega)
  have p5 : PreO D3 { x1 with st := { x1.st with mb := { x1.st.mb with bk := bkO } } } 0 W5 := ⟨fun j hj => by
    show thereB (bkO j) = _
    unfold bkO thereB
    by_cases h : j < 2 <;> simp [h], by rw [← HX.out]; rfl, fun j hj => by omega, fun j hj => by omega, fun j _ => by rw [← HX.out]; rfl⟩
  rw [hW]
  clear hW g4 r4 q4 rr rl rz
  go_wp2
  go_loopw [4] (fun a wr => ∃ i : Nat, i ≤ 2 ∧ a = .int .i64 i ∧ (∃ x : Wd, RowW wr D3 x ∧ PreO D3 x i wr) ∧ RowW wr D1 x1 ∧ Ext w wr) (fun a _ => 2 - (intOf a).toNat)
  case atStart => exact ⟨0, Nat.zero_le _, rfl, ⟨_, r5, p5⟩, q5, g5⟩
  case round =>
    clear g5 r5 q5 p5
    obtain ⟨i, hi, rfl, ⟨x, hR, hP⟩, hQ, hE⟩ := hrel
    by_cases hlt : i < 2
    · have hlt' : (i : Int) < 2 := by omega
      have hi6 : (i : Int) < 6 := by omega
      have rr := hR.r
      have rl := hR.l
      have hc : wr.cell? ⟨D3, 391 + i * 67 + 66, none⟩ = some (.slice (x.ag i).p (x.ag i).xs.length (x.ag i).c) := by rw [cell_rowD, rr, get_wd_conns x i (by omega)]
      have hf := frozen_of_frz hR.z (391 + i * 67 + 66)
      have HP := Lib.hid hP
      have HQ := Lib.hid hQ
      have HR := Lib.hid hR
      clear hP hQ hR rr
      go_upto_region 8 with (fail)
      obtain ⟨W6, hW⟩ : ∃ W6, (wr.alloc (.cells #[.int .u32 7, .int .u32 0, .int .u16 0, .int .u16 0, .int .i64 0, .int .i64 0] 67)).setCell ⟨D3, 391 + i * 67 + 66, none⟩ (.slice (some ⟨wr.heap.size, 0, none⟩) 1 1) = W6 := ⟨_, rfl⟩
      have m6 : Mv (fun k => k = D3) wr W6 := by rw [← hW]; exact Mv.st _ (.inl rfl) (Mv.of_ext (Ext.al (Ext.rf _) _))
      have g6 : Ext w W6 := Mv.ext_of hE m6 (fun k h => by omega)
      have hD : D3 < wr.heap.size := rl
      have hDn : ¬ D3 = wr.heap.size := by omega
      have o6 : Own7 D3 W6 (some ⟨wr.heap.size, 0, none⟩) := ⟨wr.heap.size, rfl, hD, by rw [← hW, Lt_setCell]; simp [go_sem], by rw [← hW, rowD_setCell, if_neg (by omega), rowD_new]; rfl⟩
      have r6 : RowW W6 D3 { x with ag := fun j => if j = i then { x.ag i with p := some ⟨wr.heap.size, 0, none⟩, xs := [cn7], c := 1 } else x.ag j } := by
        have h : rowD (wr.alloc (.cells #[.int .u32 7, .int .u32 0, .int .u16 0, .int .u16 0, .int .i64 0, .int .i64 0] 67)) D3 = wdv x := by rw [rowD_old _ _ _ hD]; exact HR.out.r
        rw [← hW]
        exact ⟨set_wdcn (some ⟨wr.heap.size, 0, none⟩) [cn7] 1 h (by omega), by rw [frzD_setCell, frzD_alloc, if_neg hDn]; exact HR.out.z, by rw [Lt_setCell]; simp [go_sem]; exact .inr rl⟩
      have q6 : RowW W6 D1 x1 := by
        rw [← hW]
        exact (HQ.out.ext (Ext.al (Ext.rf _) _)).otherC _ (by omega)
      have p6 := HP.out.begin m6 _ o6
      rw [hW]
      clear hW HP HQ HR hc hf rl hE
      generalize wr.heap.size = Bn at *
      generalize hy : ({ x with ag := fun j => if j = i then { x.ag i with p := some ⟨Bn, 0, none⟩, xs := [cn7], c := 1 } else x.ag j } : Wd) = y at *
      clear hy
      go_wp2
      go_loopw [5] (fun a wr => ∃ k : Nat, k ≤ 16 ∧ a = .int .i64 k ∧ (∃ y : Wd, RowW wr D3 y ∧ PreI D3 y i k wr) ∧ RowW wr D1 x1 ∧ Ext w wr) (fun a _ => 16 - (intOf a).toNat)
      case atStart => exact ⟨0, Nat.zero_le _, rfl, ⟨_, r6, p6⟩, q6, g6⟩
      case round =>
        clear g6 r6 q6 p6 m6 o6
        obtain ⟨k, hk, rfl, ⟨y, hR, hP⟩, hQ, hE⟩ := hrel
        by_cases hkt : k < 16
        · have hkt' : (k : Int) < 16 := by omega
          have rr := hR.r
          have rz := hR.z
          have hfit : 391 + i * 67 + 2 + k * 4 + 4 ≤ 814 := by omega
          have HP := Lib.hid hP
          have HQ := Lib.hid hQ
          have HR := Lib.hid hR
          clear hP hQ hR
          go_wp2
          have m7 : Mv (fun k => k = D3) wr (setAt wr D3 (391 + i * 67 + 2 + k * 4) #[.int .u8 1, .int .i64 (-1), .int .i64 1, .bool false]) := Mv.sc (C := fun k => k = D3) rfl _ _ _ _ (Mv.refl _ _)
          refine ⟨⟨k + 1, by omega, by go_num, ⟨_, ⟨set_wdmd md1 rr (by omega) hkt, by rw [frzD_setAt]; exact rz, by rw [Lt_setAt]; exact HR.out.l⟩, (HP.out.mv m7).next⟩, HQ.out.other _ (by omega), Ext.sa _ (by omega) hE⟩, by simp [intOf]; omega⟩
        · obtain rfl : k = 16 := by omega
          have hPd := hP.done
          clear hP
          go_wp2
          exact ⟨⟨i + 1, by omega, by go_num, ⟨y, hR, hPd⟩, hQ, hE⟩, by simp [intOf]; omega⟩
    · obtain rfl : i = 2 := by omega
      have HP := Lib.hid hP
      have HR := Lib.hid hR
      have HQ := Lib.hid hQ
      have rr := hR.r
      have rl := hR.l
      have hTW : Two x := ⟨hP.bk, (hP.xs 0 (by omega)).1, (hP.xs 1 (by omega)).1, hP.md 0 (by omega), hP.md 1 (by omega)⟩
      have hSL : ∀ W, Ext wr W → ∀ j, j < 6 → SlC W (x.ag j).p (x.ag j).xs ∧ (x.ag j).xs.length ≤ 1000 ∧ ∀ c ∈ (x.ag j).xs, TuR c.t := fun W hW j hj => by
        by_cases h : j < 2
        · rw [(hP.xs j h).1]
          exact ⟨((hP.xs j h).2.sl).ext hW, by simp, fun c hc => by
            rw [List.mem_singleton] at hc
            subst hc
            exact ⟨by decide, by decide, by decide, by decide⟩⟩
        · rw [hP.rest j (by omega)]
          exact ⟨SlC.nil _ _, Nat.zero_le _, fun c hc => by cases hc⟩
      have HTW := Lib.hid hTW
      have HSL := Lib.hid hSL
      have HOW := Lib.hid (fun W (hW : Ext wr W) => hTW.once.1 ▸ hTW.once.2 ▸ owned_any x W (fun j hj => (hSL W hW j hj).1) (by rw [hTW.once.2]; omega) (sort_small _ (by rw [hTW.once.2]; omega)))
      clear hP hR hQ hTW hSL
      rw [show ((2 : Nat) : Int) = 2 from rfl]
      go_upto_region 13 with (go_at_call 14; (with_reducible refine (HOW.out _ (Ext.rf _)).mono ?_); rintro e W7 ⟨p7, c7, rfl, g7⟩)
      have r7 := HR.out.ext g7
      have q7 := HQ.out.ext g7
      have E7 := hE.tr g7
      have s7 := E7.size
      have l7 : D3 < W7.heap.size := r7.l
      have l71 : D1 < W7.heap.size := q7.l
      have rr7 := r7.r
      have rl7 := r7.l
      clear rr rl
      go_upto_region 14 with (fail)
      obtain ⟨W8, hW⟩ : ∃ W8, setAt (W7.alloc (.cells (wdv wdz) 53)) W7.heap.size 0 (wdv x) = W8 := ⟨_, rfl⟩
      have g8 : Ext W7 W8 := by rw [← hW]; exact Ext.sa _ (Nat.le_refl _) (Ext.al (Ext.rf _) _)
      have r8 : RowW W8 W7.heap.size x := by rw [← hW]; exact RowW.new _ _
      have r83 := r7.ext g8
      have r81 := q7.ext g8
      rw [hW]
      clear hW rr7 rl7 r7 q7
      generalize hD8 : W7.heap.size = D8 at *
      have hc : W8.cell? ⟨D8, 524, none⟩ = some (.slice (x.ag 1).p (x.ag 1).xs.length (x.ag 1).c) := by rw [cell_rowD, r8.r, get_wd_conns x 1 (by omega)]
      have hf := frozen_of_frz r8.z 524
      go_upto_region 15 with (fail)
      obtain ⟨W9, hW⟩ : ∃ W9, W8.setCell ⟨D8, 524, none⟩ (.slice none 0 0) = W9 := ⟨_, rfl⟩
      have g9 : Ext W7 W9 := by rw [← hW]; exact Ext.st _ (Nat.le_of_eq hD8) g8
      have r9 : RowW W9 D8 { x with ag := fun j => if j = 1 then { x.ag 1 with p := none, xs := [], c := 0 } else x.ag j } := by
        rw [← hW]
        exact ⟨set_wdcn (i := 1) none [] 0 r8.r (by omega), by rw [frzD_setCell]; exact r8.z, by rw [Lt_setCell]; exact r8.l⟩
      have r93 : RowW W9 D3 x := by rw [← hW]; exact r83.otherC _ (by omega)
      have r91 : RowW W9 D1 x1 := by rw [← hW]; exact r81.otherC _ (by omega)
      rw [hW]
      clear hW r8 r83 r81 hc hf g8
      have a0 := r9.r
      have a1 := r9.z
      have a2 := r9.l
      have a3 := r91.r
      have a4 := r91.l
      go_upto_region 16 with (fail)
      obtain ⟨Wa, hW⟩ : ∃ Wa, setAt W9 D8 460 (mdL (x1.ag 1).md) = Wa := ⟨_, rfl⟩
      have ga : Ext W7 Wa := by rw [← hW]; exact Ext.sa _ (by omega) g9
      have hra := set_wdmds (i := 1) (x1.ag 1).md a0 (by omega)
      have ra := (⟨hra, by rw [frzD_setAt]; exact a1, by rw [Lt_setAt]; exact a2⟩ : RowW (setAt W9 D8 (391 + 1 * 67 + 2) (mdL (x1.ag 1).md)) D8 _)
      change RowW (setAt W9 D8 460 (mdL (x1.ag 1).md)) D8 _ at ra
      have rb : RowW (setAt W9 D8 460 (mdL (x1.ag 1).md)) D3 x := r93.other _ (by omega)
      have rc : RowW (setAt W9 D8 460 (mdL (x1.ag 1).md)) D1 x1 := r91.other _ (by omega)
      rw [hW] at ra rb rc ⊢
      clear hW hra r9 r93 r91 a0 a1 a2 a3 a4 g9
      have hbk : ∀ j, j < 6 → thereW x j = decide (j < 2) := HP.out.bk
      have h0 : (x.ag 0).xs = [cn7] := (HP.out.xs 0 (by omega)).1
      have hm : ∀ k, k < 16 → (x.ag 0).md k = md1 := HP.out.md 0 (by omega)
      have hs0 : ∀ W, Ext wr W → SlC W (x.ag 0).p [cn7] := fun W hW => ((HP.out.xs 0 (by omega)).2.sl).ext hW
      have hrest : ∀ j, 2 ≤ j → x.ag j = agN j 9 := HP.out.rest
      have hcl : x.cl = fun _ => clz := HP.out.cl
      have h1m : (x1.ag 1).md = fun _ => md0 := by rw [← HX.out]; rfl
      rw [h1m] at ra
      obtain ⟨x3, ra, hOne, hS3⟩ : ∃ x3, RowW Wa D8 x3 ∧ One x3 ∧ ∀ W, Ext wr W → ∀ j, j < 6 → SlC W (x3.ag j).p (x3.ag j).xs ∧ (x3.ag j).xs.length ≤ 1000 ∧ ∀ c ∈ (x3.ag j).xs, TuR c.t := by
        refine ⟨_, ra, ⟨hbk, h0, rfl, hm, fun k hk => rfl, hcl⟩, fun W hW j hj => ?_⟩
        obtain rfl | rfl | h : j = 0 ∨ j = 1 ∨ 2 ≤ j := by omega
        · exact HSL.out W hW 0 (by omega)
        · exact ⟨SlC.nil _ _, Nat.zero_le _, fun c hc => by cases hc⟩
        · dsimp only
          rw [if_neg (by omega), if_neg (by omega)]
          exact HSL.out W hW j hj
      have EW : Ext w Wa := E7.tr ga
      have T3 := Lib.hid (⟨by rw [HX.out]; exact rc.r, rb.r, ra.r, rc.l, rb.l, ra.l⟩ : Three Wa D1 D3 D8 x x3)
      have e1 := T3.out.r1
      have e3 := T3.out.r3
      have e8 := T3.out.r8
      have l1 := T3.out.l1
      have l3 := T3.out.l3
      have l8 := T3.out.l8
      rw [HX.out] at e1
      have EA : Ext wr Wa := g7.tr ga
      have HS1 := Lib.hid (show ∀ W, Ext wr W → Calls Try.prog 11 #[.agg (wdv x1)] W fun e w' => e = .returned (.bool true) ∧ Ext W w' from fun W hW => by
        have h := wsound_any (wdN 5 9) W (fun i hi => ⟨SlC.nil _ _, Nat.zero_le _, fun c hc => by cases hc⟩) (by rw [wdN_allH]; simp) (sort_small _ (by rw [wdN_allH]; simp))
        rwa [wdN_sound, HX.out] at h)
      have HSO := Lib.hid (show ∀ W, Ext wr W → Calls Try.prog 11 #[.agg (wdv x)] W fun e w' => e = .returned (.bool false) ∧ Ext W w' from fun W hW => by
        have h := wsound_any x W (HSL.out W hW) (by rw [HTW.out.once.2]; omega) (sort_small _ (by rw [HTW.out.once.2]; omega))
        rwa [soundW_once HTW.out.once.1] at h)
      have HS3 := Lib.hid (show ∀ W, Ext wr W → Calls Try.prog 11 #[.agg (wdv x3)] W fun e w' => e = .returned (.bool true) ∧ Ext W w' from fun W hW => by
        have h := wsound_any x3 W (hS3 W hW) (by rw [hOne.once.2]; omega) (sort_small _ (by rw [hOne.once.2]; omega))
        rwa [hOne.sound] at h)
      have HRS := Lib.hid (show ∀ W, Calls Try.prog 15 #[.agg (wdv x1)] W fun e w' => e = .returned (.bool true) ∧ Ext W w' from fun W => by
        have h := rest_any (wdN 5 9) [] W (SlP.nil _ _) rfl (by simp) (SlS.nil _ _) (Nat.zero_le _) (fun i hi => Int.le_refl _)
        rwa [wdN_rest, HX.out] at h)
      have HPH := Lib.hid (show ∀ W, Calls Try.prog 16 #[.agg (wdv x1)] W fun e w' => e = .returned (.agg #[.int .i64 16, .int .i64 0, .int .i64 0, .int .i64 0, .int .i64 0, .int .i64 0, .int .i64 0]) ∧ Ext W w' from fun W => by
        have h := phases_any (wdN 5 9) (fun i hi => Int.le_refl _) W
        rwa [wdN_phases, HX.out] at h)
      have HVE := Lib.hid (show ∀ W, Calls Try.prog 17 #[.agg (wdv x1)] W fun e w' => e = .returned (.agg #[.int .i64 (-1), .int .i64 (-1), .int .i64 (-1)]) ∧ Ext W w' from fun W => by
        have h := versions_any (wdN 5 9) W
        rwa [wdN_versions, HX.out] at h)
      have HTO := Lib.hid (show ∀ W, Calls Try.prog 9 #[.agg (wdv x), .int .i64 3] W fun e w' => ∃ p c, e = .returned (.slice p 2 c) ∧ SlI w' p [0, 1] ∧ Ext W w' from fun W => tk_any x 3 [0, 1] HTW.out.takers W)
      have HT3 := Lib.hid (show ∀ W, Calls Try.prog 9 #[.agg (wdv x3), .int .i64 3] W fun e w' => ∃ p c, e = .returned (.slice p 1 c) ∧ SlI w' p [0] ∧ Ext W w' from fun W => tk_any x3 3 [0] (hOne.takers 3 (by omega)) W)
      have HT16 := Lib.hid (show ∀ W, Calls Try.prog 9 #[.agg (wdv x3), .int .i64 16] W fun e w' => ∃ p c, e = .returned (.slice p 0 c) ∧ SlI w' p [] ∧ Ext W w' from fun W => tk_any x3 16 [] (by unfold thoseL; rw [if_neg (by omega)]) W)
      have HH1 := Lib.hid (show ∀ W, Ext wr W → Calls Try.prog 8 #[.agg (wdv x1), .int .i64 3] W fun e w' => ∃ p c, e = .returned (.slice p 0 c) ∧ SlI w' p [] ∧ Ext W w' from fun W hW => by
        have h := ho_any (wdN 5 9) 3 [] (wdN_those 5 9 3 _) W (fun i hi => ⟨SlC.nil _ _, Nat.zero_le _, fun c hc => by cases hc⟩)
        rwa [HX.out] at h)
      clear hbk h0 hm hs0 hrest hcl h1m ra rb rc hOne hS3 E7 s7
      go_wp2_with (first | (go_at_call 11; (with_reducible refine (HS1.out _ EA).mono ?_); rintro e Wb ⟨rfl, gb⟩; have EA := EA.tr gb; have T3 := Lib.hid (T3.out.ext gb); have e1 := T3.out.r1; have e3 := T3.out.r3; have e8 := T3.out.r8; have l1 := T3.out.l1; have l3 := T3.out.l3; have l8 := T3.out.l8; rw [HX.out] at e1) | (go_at_call 11; (with_reducible refine (HSO.out _ EA).mono ?_); rintro e Wb ⟨rfl, gb⟩; have EA := EA.tr gb; have T3 := Lib.hid (T3.out.ext gb); have e1 := T3.out.r1; have e3 := T3.out.r3; have e8 := T3.out.r8; have l1 := T3.out.l1; have l3 := T3.out.l3; have l8 := T3.out.l8; rw [HX.out] at e1) | (go_at_call 11; (with_reducible refine (HS3.out _ EA).mono ?_); rintro e Wb ⟨rfl, gb⟩; have EA := EA.tr gb; have T3 := Lib.hid (T3.out.ext gb); have e1 := T3.out.r1; have e3 := T3.out.r3; have e8 := T3.out.r8; have l1 := T3.out.l1; have l3 := T3.out.l3; have l8 := T3.out.l8; rw [HX.out] at e1) | (go_at_call 15; go_must (with_reducible refine (HRS.out _).mono ?_); rintro e Wb ⟨rfl, gb⟩; have EA := EA.tr gb; have T3 := Lib.hid (T3.out.ext gb); have e1 := T3.out.r1; have e3 := T3.out.r3; have e8 := T3.out.r8; have l1 := T3.out.l1; have l3 := T3.out.l3; have l8 := T3.out.l8; rw [HX.out] at e1) | (go_at_call 16; go_must (with_reducible refine (HPH.out _).mono ?_); rintro e Wb ⟨rfl, gb⟩; have EA := EA.tr gb; have T3 := Lib.hid (T3.out.ext gb); have e1 := T3.out.r1; have e3 := T3.out.r3; have e8 := T3.out.r8; have l1 := T3.out.l1; have l3 := T3.out.l3; have l8 := T3.out.l8; rw [HX.out] at e1) | (go_at_call 17; go_must (with_reducible refine (HVE.out _).mono ?_); rintro e Wb ⟨rfl, gb⟩; have EA := EA.tr gb; have T3 := Lib.hid (T3.out.ext gb); have e1 := T3.out.r1; have e3 := T3.out.r3; have e8 := T3.out.r8; have l1 := T3.out.l1; have l3 := T3.out.l3; have l8 := T3.out.l8; rw [HX.out] at e1) | (go_at_call 9; (with_reducible refine (HTO.out _).mono ?_); rintro e Wb ⟨pt, ct, rfl, -, gb⟩; have EA := EA.tr gb; have T3 := Lib.hid (T3.out.ext gb); have e1 := T3.out.r1; have e3 := T3.out.r3; have e8 := T3.out.r8; have l1 := T3.out.l1; have l3 := T3.out.l3; have l8 := T3.out.l8; rw [HX.out] at e1) | (go_at_call 9; (with_reducible refine (HT3.out _).mono ?_); rintro e Wb ⟨pu, cu, rfl, su, gb⟩; have SU := Lib.hid su; clear su; have EA := EA.tr gb; have T3 := Lib.hid (T3.out.ext gb); have e1 := T3.out.r1; have e3 := T3.out.r3; have e8 := T3.out.r8; have l1 := T3.out.l1; have l3 := T3.out.l3; have l8 := T3.out.l8; rw [HX.out] at e1) | (go_at_call 9; (with_reducible refine (HT16.out _).mono ?_); rintro e Wb ⟨pv, cv, rfl, -, gb⟩; have EA := EA.tr gb; have T3 := Lib.hid (T3.out.ext gb); have e1 := T3.out.r1; have e3 := T3.out.r3; have e8 := T3.out.r8; have l1 := T3.out.l1; have l3 := T3.out.l3; have l8 := T3.out.l8; rw [HX.out] at e1) | (go_at_call 8; (with_reducible refine (HH1.out _ EA).mono ?_); rintro e Wb ⟨pw, cw, rfl, -, gb⟩; have EA := EA.tr gb; have T3 := Lib.hid (T3.out.ext gb); have e1 := T3.out.r1; have e3 := T3.out.r3; have e8 := T3.out.r8; have l1 := T3.out.l1; have l3 := T3.out.l3; have l8 := T3.out.l8; rw [HX.out] at e1) | (go_at_call 18; go_must (with_reducible refine (ints_one _ _ _ _ _ (SU.out.ext (Ext.al (Ext.rf _) _)) (SlI.one0 _ _)).mono ?_); rintro e Wb ⟨rfl, gb⟩; have gb := Ext.tr (Ext.al (Ext.rf _) _) gb; have EA := EA.tr gb; have T3 := Lib.hid (T3.out.ext gb); have e1 := T3.out.r1; have e3 := T3.out.r3; have e8 := T3.out.r8; have l1 := T3.out.l1; have l3 := T3.out.l3; have l8 := T3.out.l8; rw [HX.out] at e1))
      go_ret
      exact ⟨rfl, hE.tr EA⟩

end Go.Proofs.Ytedamnocolfmlaa

/- The step from a walk of a law to its row, once for all laws: a law returns true and only new blocks are new, so every argument reads as it did. -/
namespace Go.Proofs.Ytedamnocolfmlaa
open Go.ChangeShapes Go.WideShapes Go.ChangeAt Go.RowKit

section
variable {H : Type} {enc : TypeId × Value → H} {P : Program}
theorem post_of_below {f : Func} {s : ChangeSpec} {apart fresh handsOn again : Bool} {W W' : World} {args : Array Value} {v : Value} {ds gs : List (DataW H)} {before pa pv : List MemPlace}
    (hW : DataW.Whole enc P f.params.toList s.vars apart W args.toList ds gs before)
    (hres : ∀ (b : Nat) (sp : Nat → Bool) (hd : Bool), DataW.TrodAll enc P W' b sp hd f.resultTypes.toList (v.resultList f.resultTypes.size) (s.fn H (ds ++ gs)).results [])
    (hargs : ∀ sp : Nat → Bool, (∀ p ∈ before, sp p.block = true) → DataW.TrodAll enc P W' 0 sp true f.params.toList args.toList (s.fn H (ds ++ gs)).args pa)
    (hvars : ∀ sp : Nat → Bool, (∀ p ∈ before, sp p.block = true) → DataW.TrodVars enc P W' sp s.vars (s.fn H (ds ++ gs)).vars pv)
    (hps : before = pa ++ pv) (hb : Below W.heap.size W W')
    (hok : ∀ (j : Nat) (t : TypeId) (r : Value), f.resultTypes[j]? = some t → (v.resultList f.resultTypes.size)[j]? = some r → Value.okWide P W' .any 0 t r) :
    s.post enc P f apart fresh handsOn again W args v W' := by
  have hlt : ∀ p ∈ before, p.block < W.heap.size := fun p hp => hW.lt p hp
  have hold : ∀ p ∈ before, (fun b => decide (b < W.heap.size)) p.block = true := fun p hp => by simpa using hlt p hp
  refine ⟨ds, gs, before, [], pa, pv, hW, hres _ _ _, hargs _ hold, hvars _ hold, World.keptBut_mono (fun p hp => ⟨hp, ?_⟩) (hb.frame (· ∈ before)), fun _ => ?_⟩
  · rw [hps, List.mem_append] at hp
    exact Or.inr hp
  · obtain ⟨_, _, _, _, _, hz, hn⟩ := hW
    refine ⟨hok, _, _, ([] ++ pa) ++ pv, ⟨[] ++ pa, pv, trodAll_append (hargs _ (fun _ _ => rfl)) (hres _ _ _), hvars _ (fun _ _ => rfl), rfl, ?_, ?_⟩, ?_⟩
    · intro b off hp
      have hin : MemPlace.cell b off ∈ before := by rw [hps]; simpa using hp
      rw [hb.frozen (hlt _ hin)]
      exact hz b off hin
    · intro ha
      have := hn ha
      rw [hps] at this
      simpa using this
    · intro p hp _
      rw [hps]
      simpa using hp

theorem trodAll_stays (hl : laidOutB P = true) {W W' : World} {sp' : Nat → Bool} : ∀ (ts : List TypeId) (vs : List Value) (ds : List (DataW H)) (ps : List MemPlace),
    ts.all (fun t => P.readableRec t && decide (t < P.types.size)) = true → DataW.TrodAll enc P W 0 (fun _ => true) true ts vs ds ps →
    (∀ p ∈ ps, W.sameAt W' p) → (∀ p ∈ ps, sp' p.block = true) → DataW.TrodAll enc P W' 0 sp' true ts vs ds ps
  | [], vs, ds, ps, _, h, _, _ => by
    obtain ⟨rfl, rfl, rfl⟩ := trodAll_nil h
    exact trodAll_mk0
  | t :: ts, vs, ds, ps, ht, h, hs, hp => by
    obtain ⟨v, vs', d, ds', p, q, rfl, rfl, rfl, h1, h2⟩ := trodAll_cons h
    simp only [List.all_cons, Bool.and_eq_true, decide_eq_true_eq] at ht
    refine trodAll_cons_mk (WideElems.Trod_stays hl ht.1.1 ht.1.2 h1 (fun x hx => hs x (by simp [hx])) (fun x hx => hp x (by simp [hx]))) ?_
    exact trodAll_stays hl ts vs' ds' q ht.2 h2 (fun x hx => hs x (by simp [hx])) (fun x hx => hp x (by simp [hx]))

theorem trodAll_length {W : World} {b : Nat} {sp : Nat → Bool} {hd : Bool} : ∀ (ts : List TypeId) (vs : List Value) (ds : List (DataW H)) (ps : List MemPlace),
    DataW.TrodAll enc P W b sp hd ts vs ds ps → ds.length = ts.length
  | [], vs, ds, ps, h => by obtain ⟨rfl, rfl, rfl⟩ := trodAll_nil h; rfl
  | t :: ts, vs, ds, ps, h => by
    obtain ⟨v, vs', d, ds', p, q, rfl, rfl, rfl, h1, h2⟩ := trodAll_cons h
    simp only [List.length_cons, trodAll_length ts vs' ds' q h2]
end

/-- A law's row out of its walk: it returns true, and only new blocks are new. -/
theorem law_lift {C : Checked} {f : FuncId} {fn : Func} {s : ChangeSpec} {os : Os} {H : Type} {enc : TypeId × Value → H} (tb : TypeId)
    (own : ownKnob C.prog.godebug = none) (started : os.Started) (noInit : C.prog.inits.idxOf? f = none) (hfn : C.prog.funcs[f]? = some fn)
    (witness : ∃ (w : World) (tape : Tape) (i : Input), w.os = os ∧ (w.forCall tape i).Shaped C.prog ∧ i.vars = [] ∧ Input.okWide C.prog (w.forCall tape i) .any w.heap.size f i ∧
      s.pre6 enc C.prog fn [] false (w.forCall tape i).memory i.args ∧ ({} : Assume).holds C.prog (lone (Frame.enter C.prog f i.args .normal) [] (w.forCall tape i)))
    (hl : laidOutB C.prog = true) (hvars : s.vars = []) (hrt : fn.resultTypes = #[tb]) (htb : C.prog.underlying tb = some .bool)
    (hs : ∀ ds : List (DataW H), ds.length = fn.params.toList.length → s.fn H ds = { results := [.lit (.bool true)], args := ds })
    (hread : fn.params.toList.all (fun t => C.prog.readableRec t && decide (t < C.prog.types.size)) = true)
    (walk : ∀ (W : World) (base : Nat) (args : Array Value) (ds : List (DataW H)) (p : List MemPlace),
      (∀ (j : Nat) t v, fn.params[j]? = some t → args[j]? = some v → Value.okWide C.prog W .any base t v) →
      DataW.TrodAll enc C.prog W 0 (fun _ => true) true fn.params.toList args.toList ds p → (∀ x ∈ p, x.block < W.heap.size) →
      Calls C.prog f args W fun e W' => e = .returned (.bool true) ∧ Below W.heap.size W W') :
    ReturnsInHanded {} C os f .any (s.pre6 enc C.prog fn [] false) (s.post enc C.prog fn false true false false) := by
  refine returnsInHanded_of_change (C := C) own started noInit hfn witness ?_
  intro W base args ds gs before hval hW _ _
  have hW' := hW
  obtain ⟨p, q, hA, hV, rfl, hfz, hnd⟩ := hW
  rw [hvars] at hV
  obtain ⟨rfl, rfl⟩ := trodVars_none hV
  have hlt : ∀ x ∈ p ++ [], x.block < W.heap.size := fun x hx => hW'.lt x hx
  refine (walk W base args ds p hval hA (fun x hx => hlt x (by simpa using hx))).mono fun e W' h => ?_
  obtain ⟨he, hb⟩ := h
  subst he
  have hlen := trodAll_length _ _ _ _ hA
  have hsp := hs (ds ++ []) (by simpa using hlen)
  refine ⟨_, rfl, post_of_below (pa := p) (pv := []) hW' ?_ ?_ ?_ rfl hb ?_⟩
  · intro b sp hd
    rw [hsp, hrt]
    exact trodAll_mk1 (shut_bool htb _)
  · intro sp hsp'
    rw [hsp]
    simp only [List.append_nil]
    exact trodAll_stays hl _ _ _ _ hread hA (fun x hx => hb.same (hlt x (by simpa using hx))) (fun x hx => hsp' x (by simpa using hx))
  · intro sp _
    rw [hsp, hvars]
    rfl
  · exact ok_one hrt rfl (okWide_bool_mk htb _)
end Go.Proofs.Ytedamnocolfmlaa

/- How a world is read: its parts' cells, what its slices hold. -/
namespace Go.Proofs.Ytedamnocolfmlaa
open Go.ChangeShapes Go.WideShapes Go.ChangeAt Go.RowKit Go.Joins Go.Deep

theorem ownKn : ownKnob Try.prog.godebug = none := by kernel_rfl
theorem laidOut : laidOutB Try.prog = true := by kernel_rfl
theorem cl_i : Try.prog.cellsOf 3 = 1 := by kernel_rfl
theorem cl_u8 : Try.prog.cellsOf 5 = 1 := by kernel_rfl
theorem cl_u32 : Try.prog.cellsOf 62 = 1 := by kernel_rfl
theorem cl_u16 : Try.prog.cellsOf 63 = 1 := by kernel_rfl
theorem cl_bool : Try.prog.cellsOf 4 = 1 := by kernel_rfl
theorem cl_tu : Try.prog.cellsOf 65 = 4 := by kernel_rfl
theorem cl_co : Try.prog.cellsOf 67 = 6 := by kernel_rfl
theorem cl_md : Try.prog.cellsOf 43 = 4 := by kernel_rfl
theorem cl_en : Try.prog.cellsOf 30 = 4 := by kernel_rfl
theorem cl_mo : Try.prog.cellsOf 27 = 6 := by kernel_rfl
theorem cl_tb : Try.prog.cellsOf 33 = 65 := by kernel_rfl
theorem cl_cl : Try.prog.cellsOf 40 = 66 := by kernel_rfl
theorem cl_ag : Try.prog.cellsOf 47 = 67 := by kernel_rfl
theorem cl_mb : Try.prog.cellsOf 25 = 9 := by kernel_rfl
theorem cl_st : Try.prog.cellsOf 38 = 191 := by kernel_rfl
theorem cl_wd : Try.prog.cellsOf 53 = 814 := by kernel_rfl
theorem cl_sh : Try.prog.cellsOf 150 = 2 := by kernel_rfl
theorem cl_pa : Try.prog.cellsOf 108 = 6 := by kernel_rfl
theorem cl_rows : Try.prog.cellsOf 31 = 64 := by kernel_rfl
theorem cl_mds : Try.prog.cellsOf 44 = 64 := by kernel_rfl
theorem cl_mvs : Try.prog.cellsOf 28 = 96 := by kernel_rfl
theorem cl_cls : Try.prog.cellsOf 41 = 198 := by kernel_rfl
theorem cl_ags : Try.prog.cellsOf 48 = 402 := by kernel_rfl
theorem cl_bk : Try.prog.cellsOf 22 = 6 := by kernel_rfl
theorem cl_mx : Try.prog.cellsOf 23 = 3 := by kernel_rfl
theorem cl_i16 : Try.prog.cellsOf 34 = 16 := by kernel_rfl
theorem cl_i3 : Try.prog.cellsOf 35 = 3 := by kernel_rfl
theorem cl_i19 : Try.prog.cellsOf 51 = 19 := by kernel_rfl
theorem cl_slco : Try.prog.cellsOf 45 = 1 := by kernel_rfl
theorem cl_slsh : Try.prog.cellsOf 36 = 1 := by kernel_rfl
theorem cl_slpa : Try.prog.cellsOf 49 = 1 := by kernel_rfl
theorem cl_evs : Try.prog.cellsOf 50 = 1 := by kernel_rfl
theorem cl_nd : Try.prog.cellsOf 105 = 2 := by kernel_rfl
theorem cl_by : Try.prog.cellsOf 106 = 1 := by kernel_rfl

theorem u8_of {n : Int} (h : (Lit.int .u8 n).wf = true) : 0 ≤ n := by
  have h1 : IntKind.u8.min = 0 := rfl
  simp only [Lit.wf, Bool.and_eq_true, decide_eq_true_eq] at h
  omega
theorem u32_of {n : Int} (h : (Lit.int .u32 n).wf = true) : 0 ≤ n ∧ n < 4294967296 := by
  have h1 : IntKind.u32.min = 0 := rfl
  have h2 : IntKind.u32.max = 4294967295 := rfl
  simp only [Lit.wf, Bool.and_eq_true, decide_eq_true_eq] at h
  omega
theorem u16_of {n : Int} (h : (Lit.int .u16 n).wf = true) : 0 ≤ n ∧ n < 65536 := by
  have h1 : IntKind.u16.min = 0 := rfl
  have h2 : IntKind.u16.max = 65535 := rfl
  simp only [Lit.wf, Bool.and_eq_true, decide_eq_true_eq] at h
  omega
theorem i64_of {n : Int} (h : (Lit.int .i64 n).wf = true) : -9223372036854775808 ≤ n ∧ n ≤ 9223372036854775807 := by
  have h1 : IntKind.i64.min = -9223372036854775808 := rfl
  have h2 : IntKind.i64.max = 9223372036854775807 := rfl
  simp only [Lit.wf, Bool.and_eq_true, decide_eq_true_eq] at h
  omega
theorem one_of {L : List Value} {j : Nat} {v : Value} (h : (L.drop j).take 1 = [v]) : L[j]? = some v := by
  have := congrArg (fun l => l[0]?) h
  simpa using this
theorem at_cut {L : List Value} {o n j : Nat} {v : Value} (h : ((L.drop o).take n)[j]? = some v) (hj : j < n) : L[o + j]? = some v := by
  rwa [List.getElem?_take, if_pos hj, List.getElem?_drop] at h
open Classical in
theorem choose_fn {α : Type} {p : Nat → α → Prop} {n : Nat} (h : ∀ i, i < n → ∃ x, p i x) [Nonempty α] : ∃ f : Nat → α, ∀ i, i < n → p i (f i) :=
  ⟨fun i => if q : i < n then (h i q).choose else Classical.choice inferInstance, fun i hi => by dsimp only; rw [dif_pos hi]; exact (h i hi).choose_spec⟩
instance : Nonempty Md := ⟨⟨0, 0, 0, false⟩⟩
instance : Nonempty En := ⟨⟨0, 0, 0, 0⟩⟩
instance : Nonempty Mo := ⟨⟨0, 0, 0, 0, 0, 0⟩⟩
instance : Nonempty Cl := ⟨clz⟩
instance : Nonempty Ag := ⟨agz⟩
def Tu.at (t : Tu) (j : Nat) : Value := match j with | 0 => .int .u32 t.a | 1 => .int .u32 t.b | 2 => .int .u16 t.c | _ => .int .u16 t.d
def Co.at (x : Co) (j : Nat) : Value := match j with | 0 => .int .u32 x.t.a | 1 => .int .u32 x.t.b | 2 => .int .u16 x.t.c | 3 => .int .u16 x.t.d | 4 => .int .i64 x.s | _ => .int .i64 x.l
def Sh.at (x : Sh) (j : Nat) : Value := match j with | 0 => .int .i64 x.b | _ => .int .i64 x.t
def Pa.at (x : Pa) (j : Nat) : Value := match j with | 0 => .int .u8 x.fk | 1 => .int .i64 x.fi | 2 => .int .u8 x.tk | 3 => .int .i64 x.ti | 4 => .bool x.ctl | _ => .slice x.bp x.bn x.bc
section
variable {H : Type} {enc : TypeId × Value → H} {w : World} {base b0 : Nat} {spare : Nat → Bool} {held : Bool} {fuel : Nat} {L : List Value} {y : DataW H × List MemPlace}
theorem rd_fields {T : TypeId} {fs : Array Field} (ht : Try.prog.underlying T = some (.struct fs)) (h : DataW.trod enc Try.prog w base spare held fuel T L = some y) :
    ∃ n, L.length = Try.prog.cellsOf T ∧ ∀ (i : Nat) (f : Field), fs[i]? = some f → ∃ z, DataW.trod enc Try.prog w base spare held n f.type ((L.drop f.offset).take (Try.prog.cellsOf f.type)) = some z := by
  obtain ⟨ys, n, _, _, hl, hlen, hf⟩ := DataW.trod_struct ht h
  refine ⟨n, hl, fun i f hi => ?_⟩
  have hlt : i < fs.size := (Array.getElem?_eq_some_iff.1 hi).1
  exact ⟨ys[i]'(by omega), (hf i f hi).trans (List.getElem?_eq_getElem (by omega))⟩
theorem rd_items {T e : TypeId} {n : Nat} (ht : Try.prog.underlying T = some (.array n e)) (h : DataW.trod enc Try.prog w base spare held fuel T L = some y) :
    ∃ m, L.length = Try.prog.cellsOf T ∧ ∀ (i : Nat), i < n → ∃ z, DataW.trod enc Try.prog w base spare held m e ((L.drop (i * Try.prog.cellsOf e)).take (Try.prog.cellsOf e)) = some z := by
  obtain ⟨ys, m, _, _, hl, hlen, hf⟩ := DataW.trod_array ht h
  exact ⟨m, hl, fun i hi => ⟨ys[i]'(by omega), (hf i hi).trans (List.getElem?_eq_getElem (by omega))⟩⟩
set_option maxRecDepth 100000 in
theorem rd_md (h : DataW.trod enc Try.prog w base spare held fuel 43 L = some y) : ∃ x : Md, True ∧ ∀ j, j < 4 → L[j]? = some (x.at j) := by
  obtain ⟨n, -, hf⟩ := rd_fields Try.underlying43 h
  obtain ⟨z0, (h0 : DataW.trod enc Try.prog w base spare held n 5 ((L.drop 0).take (Try.prog.cellsOf 5)) = some z0)⟩ := hf 0 _ rfl
  rw [cl_u8] at h0
  obtain ⟨a0, p0, _, w0⟩ := DataW.trod_int Try.underlying5 h0
  obtain ⟨z1, (h1 : DataW.trod enc Try.prog w base spare held n 3 ((L.drop 1).take (Try.prog.cellsOf 3)) = some z1)⟩ := hf 1 _ rfl
  rw [cl_i] at h1
  obtain ⟨a1, p1, _, w1⟩ := DataW.trod_int Try.underlying3 h1
  obtain ⟨z2, (h2 : DataW.trod enc Try.prog w base spare held n 3 ((L.drop 2).take (Try.prog.cellsOf 3)) = some z2)⟩ := hf 2 _ rfl
  rw [cl_i] at h2
  obtain ⟨a2, p2, _, w2⟩ := DataW.trod_int Try.underlying3 h2
  obtain ⟨z3, (h3 : DataW.trod enc Try.prog w base spare held n 4 ((L.drop 3).take (Try.prog.cellsOf 4)) = some z3)⟩ := hf 3 _ rfl
  rw [cl_bool] at h3
  obtain ⟨a3, p3, _⟩ := DataW.trod_bool Try.underlying4 h3
  refine ⟨⟨a0, a1, a2, a3⟩, trivial, fun j hj => ?_⟩
  obtain rfl | rfl | rfl | rfl : j = 0 ∨ j = 1 ∨ j = 2 ∨ j = 3 := by omega
  · exact one_of p0
  · exact one_of p1
  · exact one_of p2
  · exact one_of p3
set_option maxRecDepth 100000 in
theorem rd_en (h : DataW.trod enc Try.prog w base spare held fuel 30 L = some y) : ∃ x : En, True ∧ ∀ j, j < 4 → L[j]? = some (x.at j) := by
  obtain ⟨n, -, hf⟩ := rd_fields Try.underlying30 h
  obtain ⟨z0, (h0 : DataW.trod enc Try.prog w base spare held n 3 ((L.drop 0).take (Try.prog.cellsOf 3)) = some z0)⟩ := hf 0 _ rfl
  rw [cl_i] at h0
  obtain ⟨a0, p0, _, w0⟩ := DataW.trod_int Try.underlying3 h0
  obtain ⟨z1, (h1 : DataW.trod enc Try.prog w base spare held n 3 ((L.drop 1).take (Try.prog.cellsOf 3)) = some z1)⟩ := hf 1 _ rfl
  rw [cl_i] at h1
  obtain ⟨a1, p1, _, w1⟩ := DataW.trod_int Try.underlying3 h1
  obtain ⟨z2, (h2 : DataW.trod enc Try.prog w base spare held n 3 ((L.drop 2).take (Try.prog.cellsOf 3)) = some z2)⟩ := hf 2 _ rfl
  rw [cl_i] at h2
  obtain ⟨a2, p2, _, w2⟩ := DataW.trod_int Try.underlying3 h2
  obtain ⟨z3, (h3 : DataW.trod enc Try.prog w base spare held n 3 ((L.drop 3).take (Try.prog.cellsOf 3)) = some z3)⟩ := hf 3 _ rfl
  rw [cl_i] at h3
  obtain ⟨a3, p3, _, w3⟩ := DataW.trod_int Try.underlying3 h3
  refine ⟨⟨a0, a1, a2, a3⟩, trivial, fun j hj => ?_⟩
  obtain rfl | rfl | rfl | rfl : j = 0 ∨ j = 1 ∨ j = 2 ∨ j = 3 := by omega
  · exact one_of p0
  · exact one_of p1
  · exact one_of p2
  · exact one_of p3
set_option maxRecDepth 100000 in
theorem rd_mo (h : DataW.trod enc Try.prog w base spare held fuel 27 L = some y) : ∃ x : Mo, 0 ≤ x.ph ∧ ∀ j, j < 6 → L[j]? = some (x.at j) := by
  obtain ⟨n, -, hf⟩ := rd_fields Try.underlying27 h
  obtain ⟨z0, (h0 : DataW.trod enc Try.prog w base spare held n 5 ((L.drop 0).take (Try.prog.cellsOf 5)) = some z0)⟩ := hf 0 _ rfl
  rw [cl_u8] at h0
  obtain ⟨a0, p0, _, w0⟩ := DataW.trod_int Try.underlying5 h0
  obtain ⟨z1, (h1 : DataW.trod enc Try.prog w base spare held n 3 ((L.drop 1).take (Try.prog.cellsOf 3)) = some z1)⟩ := hf 1 _ rfl
  rw [cl_i] at h1
  obtain ⟨a1, p1, _, w1⟩ := DataW.trod_int Try.underlying3 h1
  obtain ⟨z2, (h2 : DataW.trod enc Try.prog w base spare held n 3 ((L.drop 2).take (Try.prog.cellsOf 3)) = some z2)⟩ := hf 2 _ rfl
  rw [cl_i] at h2
  obtain ⟨a2, p2, _, w2⟩ := DataW.trod_int Try.underlying3 h2
  obtain ⟨z3, (h3 : DataW.trod enc Try.prog w base spare held n 3 ((L.drop 3).take (Try.prog.cellsOf 3)) = some z3)⟩ := hf 3 _ rfl
  rw [cl_i] at h3
  obtain ⟨a3, p3, _, w3⟩ := DataW.trod_int Try.underlying3 h3
  obtain ⟨z4, (h4 : DataW.trod enc Try.prog w base spare held n 3 ((L.drop 4).take (Try.prog.cellsOf 3)) = some z4)⟩ := hf 4 _ rfl
  rw [cl_i] at h4
  obtain ⟨a4, p4, _, w4⟩ := DataW.trod_int Try.underlying3 h4
  obtain ⟨z5, (h5 : DataW.trod enc Try.prog w base spare held n 3 ((L.drop 5).take (Try.prog.cellsOf 3)) = some z5)⟩ := hf 5 _ rfl
  rw [cl_i] at h5
  obtain ⟨a5, p5, _, w5⟩ := DataW.trod_int Try.underlying3 h5
  refine ⟨⟨a0, a1, a2, a3, a4, a5⟩, u8_of w0, fun j hj => ?_⟩
  obtain rfl | rfl | rfl | rfl | rfl | rfl : j = 0 ∨ j = 1 ∨ j = 2 ∨ j = 3 ∨ j = 4 ∨ j = 5 := by omega
  · exact one_of p0
  · exact one_of p1
  · exact one_of p2
  · exact one_of p3
  · exact one_of p4
  · exact one_of p5
set_option maxRecDepth 100000 in
theorem rd_tu (h : DataW.trod enc Try.prog w base spare held fuel 65 L = some y) : ∃ x : Tu, TuR x ∧ ∀ j, j < 4 → L[j]? = some (x.at j) := by
  obtain ⟨n, -, hf⟩ := rd_fields Try.underlying65 h
  obtain ⟨z0, (h0 : DataW.trod enc Try.prog w base spare held n 62 ((L.drop 0).take (Try.prog.cellsOf 62)) = some z0)⟩ := hf 0 _ rfl
  rw [cl_u32] at h0
  obtain ⟨a0, p0, _, w0⟩ := DataW.trod_int Try.underlying62 h0
  obtain ⟨z1, (h1 : DataW.trod enc Try.prog w base spare held n 62 ((L.drop 1).take (Try.prog.cellsOf 62)) = some z1)⟩ := hf 1 _ rfl
  rw [cl_u32] at h1
  obtain ⟨a1, p1, _, w1⟩ := DataW.trod_int Try.underlying62 h1
  obtain ⟨z2, (h2 : DataW.trod enc Try.prog w base spare held n 63 ((L.drop 2).take (Try.prog.cellsOf 63)) = some z2)⟩ := hf 2 _ rfl
  rw [cl_u16] at h2
  obtain ⟨a2, p2, _, w2⟩ := DataW.trod_int Try.underlying63 h2
  obtain ⟨z3, (h3 : DataW.trod enc Try.prog w base spare held n 63 ((L.drop 3).take (Try.prog.cellsOf 63)) = some z3)⟩ := hf 3 _ rfl
  rw [cl_u16] at h3
  obtain ⟨a3, p3, _, w3⟩ := DataW.trod_int Try.underlying63 h3
  refine ⟨⟨a0, a1, a2, a3⟩, ⟨u32_of w0, u32_of w1, u16_of w2, u16_of w3⟩, fun j hj => ?_⟩
  obtain rfl | rfl | rfl | rfl : j = 0 ∨ j = 1 ∨ j = 2 ∨ j = 3 := by omega
  · exact one_of p0
  · exact one_of p1
  · exact one_of p2
  · exact one_of p3
set_option maxRecDepth 100000 in
theorem rd_sh (h : DataW.trod enc Try.prog w base spare held fuel 150 L = some y) : ∃ x : Sh, True ∧ ∀ j, j < 2 → L[j]? = some (x.at j) := by
  obtain ⟨n, -, hf⟩ := rd_fields Try.underlying150 h
  obtain ⟨z0, (h0 : DataW.trod enc Try.prog w base spare held n 3 ((L.drop 0).take (Try.prog.cellsOf 3)) = some z0)⟩ := hf 0 _ rfl
  rw [cl_i] at h0
  obtain ⟨a0, p0, _, w0⟩ := DataW.trod_int Try.underlying3 h0
  obtain ⟨z1, (h1 : DataW.trod enc Try.prog w base spare held n 3 ((L.drop 1).take (Try.prog.cellsOf 3)) = some z1)⟩ := hf 1 _ rfl
  rw [cl_i] at h1
  obtain ⟨a1, p1, _, w1⟩ := DataW.trod_int Try.underlying3 h1
  refine ⟨⟨a0, a1⟩, trivial, fun j hj => ?_⟩
  obtain rfl | rfl : j = 0 ∨ j = 1 := by omega
  · exact one_of p0
  · exact one_of p1
set_option maxRecDepth 100000 in
theorem rd_co (h : DataW.trod enc Try.prog w base spare held fuel 67 L = some y) : ∃ x : Co, TuR x.t ∧ ∀ j, j < 6 → L[j]? = some (x.at j) := by
  obtain ⟨n, -, hf⟩ := rd_fields Try.underlying67 h
  obtain ⟨z0, (h0 : DataW.trod enc Try.prog w base spare held n 65 ((L.drop 0).take (Try.prog.cellsOf 65)) = some z0)⟩ := hf 0 _ rfl
  obtain ⟨z1, (h1 : DataW.trod enc Try.prog w base spare held n 3 ((L.drop 4).take (Try.prog.cellsOf 3)) = some z1)⟩ := hf 1 _ rfl
  obtain ⟨z2, (h2 : DataW.trod enc Try.prog w base spare held n 3 ((L.drop 5).take (Try.prog.cellsOf 3)) = some z2)⟩ := hf 2 _ rfl
  rw [cl_tu] at h0
  rw [cl_i] at h1 h2
  obtain ⟨t, hr, ht⟩ := rd_tu h0
  obtain ⟨a1, p1, _, _⟩ := DataW.trod_int Try.underlying3 h1
  obtain ⟨a2, p2, _, _⟩ := DataW.trod_int Try.underlying3 h2
  refine ⟨⟨t, a1, a2⟩, hr, fun j hj => ?_⟩
  obtain rfl | rfl | rfl | rfl | rfl | rfl : j = 0 ∨ j = 1 ∨ j = 2 ∨ j = 3 ∨ j = 4 ∨ j = 5 := by omega
  · exact at_cut (o := 0) (ht 0 (by omega)) (by omega)
  · exact at_cut (o := 0) (ht 1 (by omega)) (by omega)
  · exact at_cut (o := 0) (ht 2 (by omega)) (by omega)
  · exact at_cut (o := 0) (ht 3 (by omega)) (by omega)
  · exact one_of p1
  · exact one_of p2
set_option maxRecDepth 100000 in
theorem rd_ptrs {T e : TypeId} (ht : Try.prog.underlying T = some (.slice e)) (h : DataW.trod enc Try.prog w base spare held fuel T L = some y) : ∃ p n c, L = [.slice p n c] := by
  rcases open_slice ht h with ⟨hcs, _⟩ | ⟨a, len, cap, k, n, D, Pl, hcs, _⟩
  · exact ⟨_, _, _, hcs⟩
  · exact ⟨_, _, _, hcs⟩
set_option maxRecDepth 100000 in
theorem rd_pa (h : DataW.trod enc Try.prog w base spare held fuel 108 L = some y) : ∃ x : Pa, True ∧ ∀ j, j < 6 → L[j]? = some (x.at j) := by
  obtain ⟨n, -, hf⟩ := rd_fields Try.underlying108 h
  obtain ⟨z0, (h0 : DataW.trod enc Try.prog w base spare held n 105 ((L.drop 0).take (Try.prog.cellsOf 105)) = some z0)⟩ := hf 0 _ rfl
  obtain ⟨z1, (h1 : DataW.trod enc Try.prog w base spare held n 105 ((L.drop 2).take (Try.prog.cellsOf 105)) = some z1)⟩ := hf 1 _ rfl
  obtain ⟨z2, (h2 : DataW.trod enc Try.prog w base spare held n 4 ((L.drop 4).take (Try.prog.cellsOf 4)) = some z2)⟩ := hf 2 _ rfl
  obtain ⟨z3, (h3 : DataW.trod enc Try.prog w base spare held n 106 ((L.drop 5).take (Try.prog.cellsOf 106)) = some z3)⟩ := hf 3 _ rfl
  have nd : ∀ (L : List Value) y n, DataW.trod enc Try.prog w base spare held n 105 L = some y → ∃ a b, L[0]? = some (.int .u8 a) ∧ L[1]? = some (.int .i64 b) := fun L y n h => by
    obtain ⟨n, -, hf⟩ := rd_fields Try.underlying105 h
    obtain ⟨z0, (h0 : DataW.trod enc Try.prog w base spare held n 5 ((L.drop 0).take (Try.prog.cellsOf 5)) = some z0)⟩ := hf 0 _ rfl
    obtain ⟨z1, (h1 : DataW.trod enc Try.prog w base spare held n 3 ((L.drop 1).take (Try.prog.cellsOf 3)) = some z1)⟩ := hf 1 _ rfl
    rw [cl_u8] at h0
    rw [cl_i] at h1
    obtain ⟨a, p0, _, _⟩ := DataW.trod_int Try.underlying5 h0
    obtain ⟨b, p1, _, _⟩ := DataW.trod_int Try.underlying3 h1
    exact ⟨a, b, one_of p0, one_of p1⟩
  rw [cl_nd] at h0 h1
  rw [cl_bool] at h2
  rw [cl_by] at h3
  obtain ⟨a0, a1, q0, q1⟩ := nd _ _ _ h0
  obtain ⟨a2, a3, q2, q3⟩ := nd _ _ _ h1
  obtain ⟨a4, p4, _⟩ := DataW.trod_bool Try.underlying4 h2
  obtain ⟨bp, bn, bc, p5⟩ := rd_ptrs Try.underlying106 h3
  refine ⟨⟨a0, a1, a2, a3, a4, bp, bn, bc⟩, trivial, fun j hj => ?_⟩
  obtain rfl | rfl | rfl | rfl | rfl | rfl : j = 0 ∨ j = 1 ∨ j = 2 ∨ j = 3 ∨ j = 4 ∨ j = 5 := by omega
  · exact at_cut (o := 0) q0 (by omega)
  · exact at_cut (o := 0) q1 (by omega)
  · exact at_cut (o := 2) q2 (by omega)
  · exact at_cut (o := 2) q3 (by omega)
  · exact one_of p4
  · exact one_of p5
set_option maxRecDepth 100000 in
theorem rd_slco (h : DataW.trod enc Try.prog w base spare held fuel 45 L = some y) :
    ∃ (q : Option Addr) (xs : List Co) (c : Nat), L = [.slice q xs.length c] ∧ SlC w q xs ∧ ∀ x ∈ xs, TuR x.t := by
  rcases open_slice Try.underlying45 h with ⟨hcs, _⟩ | ⟨a, len, cap, k, n, D, Pl, hcs, _, hl, hm, hk, _, hi⟩
  · exact ⟨none, [], 0, hcs, SlC.nil _ _, (fun x h => by cases h)⟩
  · have hkl : len ≤ k := by rw [hk]; split <;> omega
    have key : ∀ i, i < len → ∃ x : Co, (TuR x.t) ∧ ∀ j, j < 6 → w.cell? (a.add (i * 6 + j)) = some (x.at j) := by
      intro i hi'
      obtain ⟨cs', hc, ht'⟩ := hi i (by omega)
      rw [cl_co] at hc
      obtain ⟨_, hcl, hat⟩ := World.cells?_some hc
      obtain ⟨x, hr, hx⟩ := rd_co ht'
      refine ⟨x, hr, fun j hj => ?_⟩
      have h1 := hat j hj
      rw [hx j hj] at h1
      have e : (a.add (i * 6)).add j = a.add (i * 6 + j) := by
        unfold Addr.add
        repeat' split
        all_goals first | (exfalso; simp_all; omega) | (simp_all; done) | (simp_all; omega)
      rw [← e]; exact h1
    have hlen : ((List.range len).map fun i => if h : i < len then (key i h).choose else ⟨⟨0, 0, 0, 0⟩, 0, 0⟩).length = len := by simp
    refine ⟨some a, (List.range len).map fun i => if h : i < len then (key i h).choose else ⟨⟨0, 0, 0, 0⟩, 0, 0⟩, cap, by rw [hlen]; exact hcs, ?_, ?_⟩
    · intro i hi'
      have hil : i < len := by omega
      have hc := (key i hil).choose_spec
      simp only [List.getElem_map, List.getElem_range, dif_pos hil]
      generalize (key i hil).choose = x at hc
      obtain ⟨-, hx'⟩ := hc
      have hvw : a.spot = none := by
        obtain ⟨x0, _, hx0⟩ := key 0 (by omega)
        have := hx0 0 (by omega)
        simpa [Addr.add] using World.cell?_spot this
      obtain ⟨b, off, view⟩ := a
      obtain rfl : view = none := hvw
      have hx' : ∀ j, j < 6 → w.cell? ⟨b, off + i * 6 + j, none⟩ = some (x.at j) := fun j hj => by
        have := hx' j hj
        rw [add_plain] at this
        rw [Nat.add_assoc]; exact this
      exact ⟨b, off, rfl, World.block_lt_of_cell? w _ (hx' 0 (by omega)), hx' 0 (by omega), hx' 1 (by omega), hx' 2 (by omega), hx' 3 (by omega), hx' 4 (by omega), hx' 5 (by omega)⟩
    · intro x hx
      rw [List.mem_map] at hx
      obtain ⟨i, hi', rfl⟩ := hx
      have hil : i < len := List.mem_range.1 hi'
      rw [dif_pos hil]; exact (key i hil).choose_spec.1
set_option maxRecDepth 100000 in
theorem rd_slsh (h : DataW.trod enc Try.prog w base spare held fuel 36 L = some y) :
    ∃ (q : Option Addr) (xs : List Sh) (c : Nat), L = [.slice q xs.length c] ∧ SlS w q xs ∧ ∀ x ∈ xs, True := by
  rcases open_slice Try.underlying36 h with ⟨hcs, _⟩ | ⟨a, len, cap, k, n, D, Pl, hcs, _, hl, hm, hk, _, hi⟩
  · exact ⟨none, [], 0, hcs, SlS.nil _ _, (fun x h => by cases h)⟩
  · have hkl : len ≤ k := by rw [hk]; split <;> omega
    have key : ∀ i, i < len → ∃ x : Sh, (True) ∧ ∀ j, j < 2 → w.cell? (a.add (i * 2 + j)) = some (x.at j) := by
      intro i hi'
      obtain ⟨cs', hc, ht'⟩ := hi i (by omega)
      rw [cl_sh] at hc
      obtain ⟨_, hcl, hat⟩ := World.cells?_some hc
      obtain ⟨x, hr, hx⟩ := rd_sh ht'
      refine ⟨x, hr, fun j hj => ?_⟩
      have h1 := hat j hj
      rw [hx j hj] at h1
      have e : (a.add (i * 2)).add j = a.add (i * 2 + j) := by
        unfold Addr.add
        repeat' split
        all_goals first | (exfalso; simp_all; omega) | (simp_all; done) | (simp_all; omega)
      rw [← e]; exact h1
    have hlen : ((List.range len).map fun i => if h : i < len then (key i h).choose else ⟨0, 0⟩).length = len := by simp
    refine ⟨some a, (List.range len).map fun i => if h : i < len then (key i h).choose else ⟨0, 0⟩, cap, by rw [hlen]; exact hcs, ?_, ?_⟩
    · intro i hi'
      have hil : i < len := by omega
      have hc := (key i hil).choose_spec
      simp only [List.getElem_map, List.getElem_range, dif_pos hil]
      generalize (key i hil).choose = x at hc
      obtain ⟨-, hx'⟩ := hc
      have hvw : a.spot = none := by
        obtain ⟨x0, _, hx0⟩ := key 0 (by omega)
        have := hx0 0 (by omega)
        simpa [Addr.add] using World.cell?_spot this
      obtain ⟨b, off, view⟩ := a
      obtain rfl : view = none := hvw
      have hx' : ∀ j, j < 2 → w.cell? ⟨b, off + i * 2 + j, none⟩ = some (x.at j) := fun j hj => by
        have := hx' j hj
        rw [add_plain] at this
        rw [Nat.add_assoc]; exact this
      exact ⟨b, off, rfl, World.block_lt_of_cell? w _ (hx' 0 (by omega)), hx' 0 (by omega), hx' 1 (by omega)⟩
    · intro x hx
      rw [List.mem_map] at hx
      obtain ⟨i, hi', rfl⟩ := hx
      have hil : i < len := List.mem_range.1 hi'
      trivial
set_option maxRecDepth 100000 in
theorem rd_slpa (h : DataW.trod enc Try.prog w base spare held fuel 49 L = some y) :
    ∃ (q : Option Addr) (xs : List Pa) (c : Nat), L = [.slice q xs.length c] ∧ SlP w q xs ∧ ∀ x ∈ xs, True := by
  rcases open_slice Try.underlying49 h with ⟨hcs, _⟩ | ⟨a, len, cap, k, n, D, Pl, hcs, _, hl, hm, hk, _, hi⟩
  · exact ⟨none, [], 0, hcs, SlP.nil _ _, (fun x h => by cases h)⟩
  · have hkl : len ≤ k := by rw [hk]; split <;> omega
    have key : ∀ i, i < len → ∃ x : Pa, (True) ∧ ∀ j, j < 6 → w.cell? (a.add (i * 6 + j)) = some (x.at j) := by
      intro i hi'
      obtain ⟨cs', hc, ht'⟩ := hi i (by omega)
      rw [cl_pa] at hc
      obtain ⟨_, hcl, hat⟩ := World.cells?_some hc
      obtain ⟨x, hr, hx⟩ := rd_pa ht'
      refine ⟨x, hr, fun j hj => ?_⟩
      have h1 := hat j hj
      rw [hx j hj] at h1
      have e : (a.add (i * 6)).add j = a.add (i * 6 + j) := by
        unfold Addr.add
        repeat' split
        all_goals first | (exfalso; simp_all; omega) | (simp_all; done) | (simp_all; omega)
      rw [← e]; exact h1
    have hlen : ((List.range len).map fun i => if h : i < len then (key i h).choose else ⟨0, 0, 0, 0, false, none, 0, 0⟩).length = len := by simp
    refine ⟨some a, (List.range len).map fun i => if h : i < len then (key i h).choose else ⟨0, 0, 0, 0, false, none, 0, 0⟩, cap, by rw [hlen]; exact hcs, ?_, ?_⟩
    · intro i hi'
      have hil : i < len := by omega
      have hc := (key i hil).choose_spec
      simp only [List.getElem_map, List.getElem_range, dif_pos hil]
      generalize (key i hil).choose = x at hc
      obtain ⟨-, hx'⟩ := hc
      have hvw : a.spot = none := by
        obtain ⟨x0, _, hx0⟩ := key 0 (by omega)
        have := hx0 0 (by omega)
        simpa [Addr.add] using World.cell?_spot this
      obtain ⟨b, off, view⟩ := a
      obtain rfl : view = none := hvw
      have hx' : ∀ j, j < 6 → w.cell? ⟨b, off + i * 6 + j, none⟩ = some (x.at j) := fun j hj => by
        have := hx' j hj
        rw [add_plain] at this
        rw [Nat.add_assoc]; exact this
      exact ⟨b, off, rfl, World.block_lt_of_cell? w _ (hx' 0 (by omega)), hx' 0 (by omega), hx' 1 (by omega), hx' 2 (by omega), hx' 3 (by omega), hx' 4 (by omega), hx' 5 (by omega)⟩
    · intro x hx
      rw [List.mem_map] at hx
      obtain ⟨i, hi', rfl⟩ := hx
      have hil : i < len := List.mem_range.1 hi'
      trivial
set_option maxRecDepth 100000 in
theorem rd_rows (h : DataW.trod enc Try.prog w base spare held fuel 31 L = some y) : ∃ f : Nat → En, (∀ i, i < 16 → True) ∧ ∀ i j, i < 16 → j < 4 → L[i * 4 + j]? = some ((f i).at j) := by
  obtain ⟨q, -, hf⟩ := rd_items Try.underlying31 h
  rw [cl_en] at hf
  obtain ⟨f, hf⟩ := choose_fn (p := fun i (x : En) => (True) ∧ ∀ j, j < 4 → ((L.drop (i * 4)).take 4)[j]? = some (x.at j)) (n := 16) fun i hi => by
    obtain ⟨z, hz⟩ := hf i hi
    exact rd_en hz
  exact ⟨f, fun i hi => (hf i hi).1, fun i j hi hj => at_cut ((hf i hi).2 j hj) hj⟩
set_option maxRecDepth 100000 in
theorem rd_mds (h : DataW.trod enc Try.prog w base spare held fuel 44 L = some y) : ∃ f : Nat → Md, (∀ i, i < 16 → True) ∧ ∀ i j, i < 16 → j < 4 → L[i * 4 + j]? = some ((f i).at j) := by
  obtain ⟨q, -, hf⟩ := rd_items Try.underlying44 h
  rw [cl_md] at hf
  obtain ⟨f, hf⟩ := choose_fn (p := fun i (x : Md) => (True) ∧ ∀ j, j < 4 → ((L.drop (i * 4)).take 4)[j]? = some (x.at j)) (n := 16) fun i hi => by
    obtain ⟨z, hz⟩ := hf i hi
    exact rd_md hz
  exact ⟨f, fun i hi => (hf i hi).1, fun i j hi hj => at_cut ((hf i hi).2 j hj) hj⟩
set_option maxRecDepth 100000 in
theorem rd_mvs (h : DataW.trod enc Try.prog w base spare held fuel 28 L = some y) : ∃ f : Nat → Mo, (∀ i, i < 16 → 0 ≤ (f i).ph) ∧ ∀ i j, i < 16 → j < 6 → L[i * 6 + j]? = some ((f i).at j) := by
  obtain ⟨q, -, hf⟩ := rd_items Try.underlying28 h
  rw [cl_mo] at hf
  obtain ⟨f, hf⟩ := choose_fn (p := fun i (x : Mo) => (0 ≤ x.ph) ∧ ∀ j, j < 6 → ((L.drop (i * 6)).take 6)[j]? = some (x.at j)) (n := 16) fun i hi => by
    obtain ⟨z, hz⟩ := hf i hi
    exact rd_mo hz
  exact ⟨f, fun i hi => (hf i hi).1, fun i j hi hj => at_cut ((hf i hi).2 j hj) hj⟩
set_option maxRecDepth 100000 in
theorem rd_bk (h : DataW.trod enc Try.prog w base spare held fuel 22 L = some y) : ∃ f : Nat → Int, ∀ i, i < 6 → L[i]? = some (.int .u8 (f i)) := by
  obtain ⟨q, -, hf⟩ := rd_items Try.underlying22 h
  rw [cl_u8] at hf
  obtain ⟨f, hf⟩ := choose_fn (p := fun i (x : Int) => L[i]? = some (.int .u8 x)) (n := 6) fun i hi => by
    obtain ⟨z, hz⟩ := hf i hi
    obtain ⟨a, p, _, _⟩ := DataW.trod_int Try.underlying5 hz
    rw [Nat.mul_one] at p
    exact ⟨a, one_of p⟩
  exact ⟨f, hf⟩
set_option maxRecDepth 100000 in
theorem rd_mx (h : DataW.trod enc Try.prog w base spare held fuel 23 L = some y) : ∃ f : Nat → Int, ∀ i, i < 3 → L[i]? = some (.int .u8 (f i)) := by
  obtain ⟨q, -, hf⟩ := rd_items Try.underlying23 h
  rw [cl_u8] at hf
  obtain ⟨f, hf⟩ := choose_fn (p := fun i (x : Int) => L[i]? = some (.int .u8 x)) (n := 3) fun i hi => by
    obtain ⟨z, hz⟩ := hf i hi
    obtain ⟨a, p, _, _⟩ := DataW.trod_int Try.underlying5 hz
    rw [Nat.mul_one] at p
    exact ⟨a, one_of p⟩
  exact ⟨f, hf⟩
set_option maxRecDepth 100000 in
theorem rd_i16 (h : DataW.trod enc Try.prog w base spare held fuel 34 L = some y) : ∃ f : Nat → Int, ∀ i, i < 16 → L[i]? = some (.int .i64 (f i)) := by
  obtain ⟨q, -, hf⟩ := rd_items Try.underlying34 h
  rw [cl_i] at hf
  obtain ⟨f, hf⟩ := choose_fn (p := fun i (x : Int) => L[i]? = some (.int .i64 x)) (n := 16) fun i hi => by
    obtain ⟨z, hz⟩ := hf i hi
    obtain ⟨a, p, _, _⟩ := DataW.trod_int Try.underlying3 hz
    rw [Nat.mul_one] at p
    exact ⟨a, one_of p⟩
  exact ⟨f, hf⟩
set_option maxRecDepth 100000 in
theorem rd_i3 (h : DataW.trod enc Try.prog w base spare held fuel 35 L = some y) : ∃ f : Nat → Int, ∀ i, i < 3 → L[i]? = some (.int .i64 (f i)) := by
  obtain ⟨q, -, hf⟩ := rd_items Try.underlying35 h
  rw [cl_i] at hf
  obtain ⟨f, hf⟩ := choose_fn (p := fun i (x : Int) => L[i]? = some (.int .i64 x)) (n := 3) fun i hi => by
    obtain ⟨z, hz⟩ := hf i hi
    obtain ⟨a, p, _, _⟩ := DataW.trod_int Try.underlying3 hz
    rw [Nat.mul_one] at p
    exact ⟨a, one_of p⟩
  exact ⟨f, hf⟩
set_option maxRecDepth 100000 in
theorem rd_i19 (h : DataW.trod enc Try.prog w base spare held fuel 51 L = some y) : ∃ f : Nat → Int, ∀ i, i < 19 → L[i]? = some (.int .i64 (f i)) := by
  obtain ⟨q, -, hf⟩ := rd_items Try.underlying51 h
  rw [cl_i] at hf
  obtain ⟨f, hf⟩ := choose_fn (p := fun i (x : Int) => L[i]? = some (.int .i64 x)) (n := 19) fun i hi => by
    obtain ⟨z, hz⟩ := hf i hi
    obtain ⟨a, p, _, _⟩ := DataW.trod_int Try.underlying3 hz
    rw [Nat.mul_one] at p
    exact ⟨a, one_of p⟩
  exact ⟨f, hf⟩
set_option maxRecDepth 100000 in
theorem rd_tb (h : DataW.trod enc Try.prog w base spare held fuel 33 L = some y) : ∃ x : Tb, True ∧ ∀ j, j < 65 → L[j]? = some (x.at j) := by
  obtain ⟨n, -, hf⟩ := rd_fields Try.underlying33 h
  obtain ⟨z0, (h0 : DataW.trod enc Try.prog w base spare held n 3 ((L.drop 0).take (Try.prog.cellsOf 3)) = some z0)⟩ := hf 0 _ rfl
  obtain ⟨z1, (h1 : DataW.trod enc Try.prog w base spare held n 31 ((L.drop 1).take (Try.prog.cellsOf 31)) = some z1)⟩ := hf 1 _ rfl
  rw [cl_i] at h0
  rw [cl_rows] at h1
  obtain ⟨a, p0, _, _⟩ := DataW.trod_int Try.underlying3 h0
  obtain ⟨f, -, hr⟩ := rd_rows h1
  refine ⟨⟨a, f⟩, trivial, fun j hj => ?_⟩
  unfold Tb.at
  by_cases h0 : j = 0
  · subst h0; exact one_of p0
  · rw [if_neg h0]
    have h := at_cut (hr ((j - 1) / 4) ((j - 1) % 4) (by omega) (by omega)) (by omega)
    rwa [show 1 + ((j - 1) / 4 * 4 + (j - 1) % 4) = j by omega] at h
set_option maxRecDepth 100000 in
theorem rd_cl (h : DataW.trod enc Try.prog w base spare held fuel 40 L = some y) : ∃ x : Cl, True ∧ ∀ j, j < 66 → L[j]? = some (x.at j) := by
  obtain ⟨n, -, hf⟩ := rd_fields Try.underlying40 h
  obtain ⟨z0, (h0 : DataW.trod enc Try.prog w base spare held n 4 ((L.drop 0).take (Try.prog.cellsOf 4)) = some z0)⟩ := hf 0 _ rfl
  obtain ⟨z1, (h1 : DataW.trod enc Try.prog w base spare held n 33 ((L.drop 1).take (Try.prog.cellsOf 33)) = some z1)⟩ := hf 1 _ rfl
  rw [cl_bool] at h0
  rw [cl_tb] at h1
  obtain ⟨a, p0, _⟩ := DataW.trod_bool Try.underlying4 h0
  obtain ⟨t, -, hr⟩ := rd_tb h1
  refine ⟨⟨a, t⟩, trivial, fun j hj => ?_⟩
  unfold Cl.at
  by_cases h0 : j = 0
  · subst h0; exact one_of p0
  · rw [if_neg h0]
    have h := at_cut (hr (j - 1) (by omega)) (by omega)
    rwa [show 1 + (j - 1) = j by omega] at h
/-- What an agent's reading tells besides its cells. -/
def AgR (w : World) (a : Ag) : Prop := SlC w a.p a.xs ∧ ∀ c ∈ a.xs, TuR c.t
set_option maxRecDepth 100000 in
theorem rd_ag (h : DataW.trod enc Try.prog w base spare held fuel 47 L = some y) : ∃ x : Ag, AgR w x ∧ ∀ j, j < 67 → L[j]? = some (x.at j) := by
  obtain ⟨n, -, hf⟩ := rd_fields Try.underlying47 h
  obtain ⟨z0, (h0 : DataW.trod enc Try.prog w base spare held n 3 ((L.drop 0).take (Try.prog.cellsOf 3)) = some z0)⟩ := hf 0 _ rfl
  obtain ⟨z1, (h1 : DataW.trod enc Try.prog w base spare held n 3 ((L.drop 1).take (Try.prog.cellsOf 3)) = some z1)⟩ := hf 1 _ rfl
  obtain ⟨z2, (h2 : DataW.trod enc Try.prog w base spare held n 44 ((L.drop 2).take (Try.prog.cellsOf 44)) = some z2)⟩ := hf 2 _ rfl
  obtain ⟨z3, (h3 : DataW.trod enc Try.prog w base spare held n 45 ((L.drop 66).take (Try.prog.cellsOf 45)) = some z3)⟩ := hf 3 _ rfl
  rw [cl_i] at h0 h1
  rw [cl_mds] at h2
  rw [cl_slco] at h3
  obtain ⟨a, p0, _, _⟩ := DataW.trod_int Try.underlying3 h0
  obtain ⟨b, p1, _, _⟩ := DataW.trod_int Try.underlying3 h1
  obtain ⟨f, -, hr⟩ := rd_mds h2
  obtain ⟨p, xs, c, p3, hs, ht⟩ := rd_slco h3
  refine ⟨⟨a, b, f, p, xs, c⟩, ⟨hs, ht⟩, fun j hj => ?_⟩
  unfold Ag.at
  by_cases q0 : j = 0
  · subst q0; exact one_of p0
  rw [if_neg q0]
  by_cases q1 : j = 1
  · subst q1; exact one_of p1
  rw [if_neg q1]
  by_cases q2 : j < 66
  · rw [if_pos q2]
    have h := at_cut (hr ((j - 2) / 4) ((j - 2) % 4) (by omega) (by omega)) (by omega)
    rwa [show 2 + ((j - 2) / 4 * 4 + (j - 2) % 4) = j by omega] at h
  · rw [if_neg q2]
    obtain rfl : j = 66 := by omega
    exact one_of p3
set_option maxRecDepth 100000 in
theorem rd_mb (h : DataW.trod enc Try.prog w base spare held fuel 25 L = some y) : ∃ x : Mb, True ∧ ∀ j, j < 9 → L[j]? = some (x.at j) := by
  obtain ⟨n, -, hf⟩ := rd_fields Try.underlying25 h
  obtain ⟨z0, (h0 : DataW.trod enc Try.prog w base spare held n 22 ((L.drop 0).take (Try.prog.cellsOf 22)) = some z0)⟩ := hf 0 _ rfl
  obtain ⟨z1, (h1 : DataW.trod enc Try.prog w base spare held n 23 ((L.drop 6).take (Try.prog.cellsOf 23)) = some z1)⟩ := hf 1 _ rfl
  rw [cl_bk] at h0
  rw [cl_mx] at h1
  obtain ⟨f, hr⟩ := rd_bk h0
  obtain ⟨g, hs⟩ := rd_mx h1
  refine ⟨⟨f, g⟩, trivial, fun j hj => ?_⟩
  unfold Mb.at
  by_cases q : j < 6
  · rw [if_pos q]
    have h := at_cut (hr j q) q
    rwa [Nat.zero_add] at h
  · rw [if_neg q]
    have h := at_cut (hs (j - 6) (by omega)) (by omega)
    rwa [show 6 + (j - 6) = j by omega] at h
def StR (w : World) (s : St) : Prop := (∀ i, i < 16 → 0 ≤ (s.mv i).ph) ∧ SlS w s.p s.pl
set_option maxRecDepth 100000 in
theorem rd_st (h : DataW.trod enc Try.prog w base spare held fuel 38 L = some y) : ∃ x : St, StR w x ∧ ∀ j, j < 191 → L[j]? = some (x.at j) := by
  obtain ⟨n, -, hf⟩ := rd_fields Try.underlying38 h
  obtain ⟨z0, (h0 : DataW.trod enc Try.prog w base spare held n 25 ((L.drop 0).take (Try.prog.cellsOf 25)) = some z0)⟩ := hf 0 _ rfl
  obtain ⟨z1, (h1 : DataW.trod enc Try.prog w base spare held n 28 ((L.drop 9).take (Try.prog.cellsOf 28)) = some z1)⟩ := hf 1 _ rfl
  obtain ⟨z2, (h2 : DataW.trod enc Try.prog w base spare held n 33 ((L.drop 105).take (Try.prog.cellsOf 33)) = some z2)⟩ := hf 2 _ rfl
  obtain ⟨z3, (h3 : DataW.trod enc Try.prog w base spare held n 34 ((L.drop 170).take (Try.prog.cellsOf 34)) = some z3)⟩ := hf 3 _ rfl
  obtain ⟨z4, (h4 : DataW.trod enc Try.prog w base spare held n 35 ((L.drop 186).take (Try.prog.cellsOf 35)) = some z4)⟩ := hf 4 _ rfl
  obtain ⟨z5, (h5 : DataW.trod enc Try.prog w base spare held n 3 ((L.drop 189).take (Try.prog.cellsOf 3)) = some z5)⟩ := hf 5 _ rfl
  obtain ⟨z6, (h6 : DataW.trod enc Try.prog w base spare held n 36 ((L.drop 190).take (Try.prog.cellsOf 36)) = some z6)⟩ := hf 6 _ rfl
  rw [cl_mb] at h0
  rw [cl_mvs] at h1
  rw [cl_tb] at h2
  rw [cl_i16] at h3
  rw [cl_i3] at h4
  rw [cl_i] at h5
  rw [cl_slsh] at h6
  obtain ⟨m, -, r0⟩ := rd_mb h0
  obtain ⟨f, hp, r1⟩ := rd_mvs h1
  obtain ⟨t, -, r2⟩ := rd_tb h2
  obtain ⟨g, r3⟩ := rd_i16 h3
  obtain ⟨k, r4⟩ := rd_i3 h4
  obtain ⟨a, r5, _, _⟩ := DataW.trod_int Try.underlying3 h5
  obtain ⟨p, xs, c, r6, hs, -⟩ := rd_slsh h6
  refine ⟨⟨m, f, t, g, k, a, p, xs, c⟩, ⟨hp, hs⟩, fun j hj => ?_⟩
  unfold St.at
  by_cases q0 : j < 9
  · rw [if_pos q0]
    have h := at_cut (r0 j q0) q0
    rwa [Nat.zero_add] at h
  rw [if_neg q0]
  by_cases q1 : j < 105
  · rw [if_pos q1]
    have h := at_cut (r1 ((j - 9) / 6) ((j - 9) % 6) (by omega) (by omega)) (by omega)
    rwa [show 9 + ((j - 9) / 6 * 6 + (j - 9) % 6) = j by omega] at h
  rw [if_neg q1]
  by_cases q2 : j < 170
  · rw [if_pos q2]
    have h := at_cut (r2 (j - 105) (by omega)) (by omega)
    rwa [show 105 + (j - 105) = j by omega] at h
  rw [if_neg q2]
  by_cases q3 : j < 186
  · rw [if_pos q3]
    have h := at_cut (r3 (j - 170) (by omega)) (by omega)
    rwa [show 170 + (j - 170) = j by omega] at h
  rw [if_neg q3]
  by_cases q4 : j < 189
  · rw [if_pos q4]
    have h := at_cut (r4 (j - 186) (by omega)) (by omega)
    rwa [show 186 + (j - 186) = j by omega] at h
  rw [if_neg q4]
  by_cases q5 : j = 189
  · subst q5; exact one_of r5
  · rw [if_neg q5]
    obtain rfl : j = 190 := by omega
    exact one_of r6
set_option maxRecDepth 100000 in
theorem rd_cls (h : DataW.trod enc Try.prog w base spare held fuel 41 L = some y) : ∃ f : Nat → Cl, (∀ i, i < 3 → True) ∧ ∀ i j, i < 3 → j < 66 → L[i * 66 + j]? = some ((f i).at j) := by
  obtain ⟨q, -, hf⟩ := rd_items Try.underlying41 h
  rw [cl_cl] at hf
  obtain ⟨f, hf⟩ := choose_fn (p := fun i (x : Cl) => (True) ∧ ∀ j, j < 66 → ((L.drop (i * 66)).take 66)[j]? = some (x.at j)) (n := 3) fun i hi => by
    obtain ⟨z, hz⟩ := hf i hi
    exact rd_cl hz
  exact ⟨f, fun i hi => (hf i hi).1, fun i j hi hj => at_cut ((hf i hi).2 j hj) hj⟩
set_option maxRecDepth 100000 in
theorem rd_ags (h : DataW.trod enc Try.prog w base spare held fuel 48 L = some y) : ∃ f : Nat → Ag, (∀ i, i < 6 → AgR w (f i)) ∧ ∀ i j, i < 6 → j < 67 → L[i * 67 + j]? = some ((f i).at j) := by
  obtain ⟨q, -, hf⟩ := rd_items Try.underlying48 h
  rw [cl_ag] at hf
  obtain ⟨f, hf⟩ := choose_fn (p := fun i (x : Ag) => (AgR w x) ∧ ∀ j, j < 67 → ((L.drop (i * 67)).take 67)[j]? = some (x.at j)) (n := 6) fun i hi => by
    obtain ⟨z, hz⟩ := hf i hi
    exact rd_ag hz
  exact ⟨f, fun i hi => (hf i hi).1, fun i j hi hj => at_cut ((hf i hi).2 j hj) hj⟩

/-- What a world's reading tells besides its cells. -/
def WdR (w : World) (x : Wd) (ps : List Pa) : Prop := StR w x.st ∧ (∀ i, i < 6 → AgR w (x.ag i)) ∧ SlP w x.fp ps ∧ ps.length = x.fl
set_option maxRecDepth 100000 in
theorem rd_wd (h : DataW.trod enc Try.prog w base spare held fuel 53 L = some y) : ∃ (x : Wd) (ps : List Pa), WdR w x ps ∧ ∀ j, j < 814 → L[j]? = some (x.at j) := by
  obtain ⟨n, -, hf⟩ := rd_fields Try.underlying53 h
  obtain ⟨z0, (h0 : DataW.trod enc Try.prog w base spare held n 3 ((L.drop 0).take (Try.prog.cellsOf 3)) = some z0)⟩ := hf 0 _ rfl
  obtain ⟨z1, (h1 : DataW.trod enc Try.prog w base spare held n 3 ((L.drop 1).take (Try.prog.cellsOf 3)) = some z1)⟩ := hf 1 _ rfl
  obtain ⟨z2, (h2 : DataW.trod enc Try.prog w base spare held n 38 ((L.drop 2).take (Try.prog.cellsOf 38)) = some z2)⟩ := hf 2 _ rfl
  obtain ⟨z3, (h3 : DataW.trod enc Try.prog w base spare held n 41 ((L.drop 193).take (Try.prog.cellsOf 41)) = some z3)⟩ := hf 3 _ rfl
  obtain ⟨z4, (h4 : DataW.trod enc Try.prog w base spare held n 48 ((L.drop 391).take (Try.prog.cellsOf 48)) = some z4)⟩ := hf 4 _ rfl
  obtain ⟨z5, (h5 : DataW.trod enc Try.prog w base spare held n 49 ((L.drop 793).take (Try.prog.cellsOf 49)) = some z5)⟩ := hf 5 _ rfl
  obtain ⟨z6, (h6 : DataW.trod enc Try.prog w base spare held n 50 ((L.drop 794).take (Try.prog.cellsOf 50)) = some z6)⟩ := hf 6 _ rfl
  obtain ⟨z7, (h7 : DataW.trod enc Try.prog w base spare held n 51 ((L.drop 795).take (Try.prog.cellsOf 51)) = some z7)⟩ := hf 7 _ rfl
  rw [cl_i] at h0 h1
  rw [cl_st] at h2
  rw [cl_cls] at h3
  rw [cl_ags] at h4
  rw [cl_slpa] at h5
  rw [cl_evs] at h6
  rw [cl_i19] at h7
  obtain ⟨a0, r0, _, _⟩ := DataW.trod_int Try.underlying3 h0
  obtain ⟨a1, r1, _, _⟩ := DataW.trod_int Try.underlying3 h1
  obtain ⟨s, hs, r2⟩ := rd_st h2
  obtain ⟨f, -, r3⟩ := rd_cls h3
  obtain ⟨g, hg, r4⟩ := rd_ags h4
  obtain ⟨p, ps, c, r5, hp, -⟩ := rd_slpa h5
  obtain ⟨p6, n6, c6, r6⟩ := rd_ptrs Try.underlying50 h6
  obtain ⟨k, r7⟩ := rd_i19 h7
  refine ⟨⟨a0, a1, s, f, g, p, ps.length, c, p6, n6, c6, k⟩, ps, ⟨hs, hg, hp, rfl⟩, fun j hj => ?_⟩
  unfold Wd.at
  by_cases q0 : j = 0
  · subst q0; exact one_of r0
  rw [if_neg q0]
  by_cases q1 : j = 1
  · subst q1; exact one_of r1
  rw [if_neg q1]
  by_cases q2 : j < 193
  · rw [if_pos q2]
    have h := at_cut (r2 (j - 2) (by omega)) (by omega)
    rwa [show 2 + (j - 2) = j by omega] at h
  rw [if_neg q2]
  by_cases q3 : j < 391
  · rw [if_pos q3]
    have h := at_cut (r3 ((j - 193) / 66) ((j - 193) % 66) (by omega) (by omega)) (by omega)
    rwa [show 193 + ((j - 193) / 66 * 66 + (j - 193) % 66) = j by omega] at h
  rw [if_neg q3]
  by_cases q4 : j < 793
  · rw [if_pos q4]
    have h := at_cut (r4 ((j - 391) / 67) ((j - 391) % 67) (by omega) (by omega)) (by omega)
    rwa [show 391 + ((j - 391) / 67 * 67 + (j - 391) % 67) = j by omega] at h
  rw [if_neg q4]
  by_cases q5 : j = 793
  · subst q5; exact one_of r5
  rw [if_neg q5]
  by_cases q6 : j = 794
  · subst q6; exact one_of r6
  rw [if_neg q6]
  have h := at_cut (r7 (j - 795) (by omega)) (by omega)
  rwa [show 795 + (j - 795) = j by omega] at h
set_option maxRecDepth 100000 in
theorem open_wd {v : Value} {d : DataW H} {p : List MemPlace} (hv : Value.okWide Try.prog w .any b0 53 v) (h : DataW.Trod enc Try.prog w base spare held 53 v d p) : ∃ (x : Wd) (ps : List Pa), v = .agg (wdv x) ∧ WdR w x ps := by
  simp only [Value.okWide, Try.underlying53] at hv
  obtain ⟨cs, rfl, hn, _⟩ := hv
  rw [cl_wd] at hn
  obtain ⟨fuel, hf⟩ := h
  obtain ⟨x, ps, hR, hx⟩ := rd_wd hf
  refine ⟨x, ps, congrArg Value.agg (Array.ext_getElem? fun j => ?_), hR⟩
  by_cases hj : j < 814
  · have h1 := hx j hj
    have h2 : cs[j]? = some (x.at j) := by simpa [Value.cells] using h1
    rw [h2]
    unfold wdv
    rw [get_rowv, if_pos hj]
  · rw [Array.getElem?_eq_none (by omega), Array.getElem?_eq_none (by rw [size_wdv]; omega)]
end

end Go.Proofs.Ytedamnocolfmlaa

/- A region that draws, whose operations turn blocks of C alone; what is done are the bits of a number. (My own law; any program.) -/
namespace Go.Proofs.Ytedamnocolfmlaa
open Go.RowKit

section
variable {P : Program} {ops : Array Oper} {C : Nat → Prop}
/-- Those are done whose bits are set. -/
def msk (n m : Nat) : Array Bool := ((List.range n).map fun j => m.testBit j).toArray
theorem msk_set (n k m : Nat) : (msk n m).setIfInBounds k true = msk n (m ||| (1 <<< k)) := by
  unfold msk
  refine Array.ext_getElem? fun i => ?_
  rw [Array.getElem?_setIfInBounds]
  by_cases hi : i < n
  · by_cases h : k = i
    · subst h; simp [hi, Nat.testBit_or, Nat.testBit_shiftLeft]
    · have h' : ¬ i = k := fun e => h e.symm
      by_cases hki : k ≤ i
      · have : ¬ i - k = 0 := by omega
        simp [h, h', hi, Nat.testBit_or, Nat.testBit_shiftLeft, hki, Nat.testBit_one_eq_true_iff_self_eq_zero, this]
      · simp [h, h', hi, Nat.testBit_or, Nat.testBit_shiftLeft, hki]
  · by_cases h : k = i
    · subst h; simp [hi]
    · simp [h, hi]
theorem msk_zero (n : Nat) : Array.replicate n false = msk n 0 := by
  unfold msk
  refine Array.ext_getElem? fun i => ?_
  by_cases hi : i < n <;> simp [hi, Array.getElem?_replicate]
/-- These may be taken one behind the other. -/
def stepsM (ops : Array Oper) (n : Nat) : List Nat → Nat → Bool
  | [], _ => true
  | k :: rest, m => Region.free .any ops (msk n m) k && upX ops (msk n m) k && stepsM ops n rest (m ||| (1 <<< k))
theorem stepsM_one {N k m m' : Nat} {rest : List Nat} (ht : stepsM ops N (k :: rest) m = true) (hm : m ||| (1 <<< k) = m') : Region.free .any ops (msk N m) k = true ∧ upX ops (msk N m) k = true ∧ (msk N m).setIfInBounds k true = msk N m' ∧ stepsM ops N rest m' = true := by
  unfold stepsM at ht
  simp only [Bool.and_eq_true] at ht
  obtain ⟨⟨t1, t2⟩, t5⟩ := ht
  exact ⟨t1, t2, by rw [msk_set, hm], by rw [← hm]; exact t5⟩
theorem takeM {Q : Act → World → Prop} {N k m m' : Nat} {rest : List Nat} {oi : Oper} {v : Value} {fuel : Nat} {a : Act} {w : World} (hs : Region.noSelect ops = true) (ht : stepsM ops N (k :: rest) m = true) (hm : m ||| (1 <<< k) = m')
    (hi : ops[k]? = some oi) (hw : Region.wanted oi (yielded ops a.tmps) = true) (hy : ∀ w', Mv C w w' → (execOp a.eval oi).run P w' = .ok (.value v) w')
    (H : stepsM ops N rest m' = true → wpAnyK C P .any ops Q fuel (msk N m') (a.put oi.dst v) w) : wpAnyK C P .any ops Q (fuel + 1) (msk N m) a w := by
  obtain ⟨t1, t2, t3, t4⟩ := stepsM_one ht hm
  refine takeK hi hs t1 (upX_ready t2) hw hy ?_
  rw [t3]
  exact H t4
/-- What is not wanted. -/
theorem takeU {Q : Act → World → Prop} {N k m m' : Nat} {rest : List Nat} {oi : Oper} {fuel : Nat} {a : Act} {w : World} (hs : Region.noSelect ops = true) (ht : stepsM ops N (k :: rest) m = true) (hm : m ||| (1 <<< k) = m')
    (hi : ops[k]? = some oi) (hw : Region.wanted oi (yielded ops a.tmps) = false)
    (H : stepsM ops N rest m' = true → wpAnyK C P .any ops Q fuel (msk N m') (a.put oi.dst undef) w) : wpAnyK C P .any ops Q (fuel + 1) (msk N m) a w := by
  obtain ⟨t1, t2, t3, t4⟩ := stepsM_one ht hm
  refine wpAnyK_first hi (Region.noSelect_spec hs) fuel _ a w (Region.free_spec hi t1) (by simpa using upX_ready t2) (.inr (.inl ⟨hw, rfl⟩)) ?_
  rw [t3]
  exact H t4
/-- A call that leaves the world as it was. -/
theorem takeP {Q : Act → World → Prop} {N k m m' : Nat} {rest : List Nat} {oi : Oper} {v : Value} {fuel : Nat} {a : Act} {w : World} {f : FuncId} {args : Array Value} (hs : Region.noSelect ops = true) (ht : stepsM ops N (k :: rest) m = true) (hm : m ||| (1 <<< k) = m')
    (hi : ops[k]? = some oi) (hw : Region.wanted oi (yielded ops a.tmps) = true) (he : ∀ w', Mv C w w' → (execOp a.eval oi).run P w' = .ok (.enter f args) w') (hc : ∀ w', Mv C w w' → Calls P f args w' fun e w'' => e = .returned v ∧ w'' = w')
    (H : stepsM ops N rest m' = true → wpAnyK C P .any ops Q fuel (msk N m') (a.put oi.dst v) w) : wpAnyK C P .any ops Q (fuel + 1) (msk N m) a w := by
  obtain ⟨t1, t2, t3, t4⟩ := stepsM_one ht hm
  refine wpAnyK_first hi (Region.noSelect_spec hs) fuel _ a w (Region.free_spec hi t1) (by simpa using upX_ready t2) (.inr (.inr ⟨hw, f, args, fun w' h => ⟨he w' h, hc w' h⟩⟩)) ?_
  rw [t3]
  exact H t4
/-- One operation, and then the others. -/
structure StepM (C : Nat → Prop) (P : Program) (ops : Array Oper) (Q : Act → World → Prop) (fuel N k m : Nat) (a : Act) (w : World) : Prop where
  h : xOpK P ops k (fun a' w' => Mv C w w' ∧ wpAnyK C P .any ops Q fuel (msk N (m ||| (1 <<< k))) a' w') a w
theorem soleM {Q : Act → World → Prop} {N k m : Nat} {fuel : Nat} {a : Act} {w : World} (hr : Region.ready .any ops (msk N m) = [k]) (H : StepM C P ops Q fuel N k m a w) : wpAnyK C P .any ops Q (fuel + 1) (msk N m) a w := by
  refine ⟨fun h0 => ?_, fun j hj => ?_⟩
  · rw [hr] at h0; cases h0
  · rw [hr] at hj
    obtain rfl : j = k := by simpa using hj
    rw [msk_set]
    exact H.h
theorem twoM {Q : Act → World → Prop} {N i j m : Nat} {fuel : Nat} {a : Act} {w : World} (hr : Region.ready .any ops (msk N m) = [i, j]) (Hi : StepM C P ops Q fuel N i m a w) (Hj : StepM C P ops Q fuel N j m a w) : wpAnyK C P .any ops Q (fuel + 1) (msk N m) a w := by
  refine ⟨fun h0 => ?_, fun k hk => ?_⟩
  · rw [hr] at h0; cases h0
  · rw [hr] at hk
    have hk' : k = i ∨ k = j := by simpa using hk
    rw [msk_set]
    rcases hk' with rfl | rfl
    · exact Hi.h
    · exact Hj.h
theorem makeM {Q : Act → World → Prop} {N k m m' : Nat} {oi : Oper} {v : Value} {fuel : Nat} {a : Act} {w w1 : World} (hm : m ||| (1 <<< k) = m') (hi : ops[k]? = some oi) (hw : Region.wanted oi (yielded ops a.tmps) = true)
    (he : (execOp a.eval oi).run P w = .ok (.value v) w1) (hE : Mv C w w1) (H : wpAnyK C P .any ops Q fuel (msk N m') (a.put oi.dst v) w1) : StepM C P ops Q fuel N k m a w := by
  refine ⟨?_⟩
  unfold xOpK
  simp only [hi, hw, if_true, he, hm]
  exact ⟨hE, H⟩
theorem callM {R : Value → World → Prop} {Q : Act → World → Prop} {N k m m' : Nat} {oi : Oper} {f : FuncId} {args : Array Value} {fuel : Nat} {a : Act} {w : World} (hm : m ||| (1 <<< k) = m') (hi : ops[k]? = some oi) (hw : Region.wanted oi (yielded ops a.tmps) = true)
    (he : (execOp a.eval oi).run P w = .ok (.enter f args) w) (hc : Calls P f args w fun e w' => ∃ v, e = .returned v ∧ R v w' ∧ Ext w w')
    (H : ∀ v w', Ext w w' → R v w' → wpAnyK C P .any ops Q fuel (msk N m') (a.put oi.dst v) w') : StepM C P ops Q fuel N k m a w := by
  refine ⟨?_⟩
  unfold xOpK
  simp only [hi, hw, if_true, he, hm]
  exact hc.mono fun e w' ⟨v, h1, h2, h3⟩ => ⟨v, h1, Mv.of_ext h3, H v w' h3 h2⟩
theorem callMv {R : Value → World → Prop} {Q : Act → World → Prop} {N k m m' : Nat} {oi : Oper} {f : FuncId} {args : Array Value} {fuel : Nat} {a : Act} {w : World} (hm : m ||| (1 <<< k) = m') (hi : ops[k]? = some oi) (hw : Region.wanted oi (yielded ops a.tmps) = true)
    (he : (execOp a.eval oi).run P w = .ok (.enter f args) w) (hc : Calls P f args w fun e w' => ∃ v, e = .returned v ∧ R v w' ∧ Mv C w w')
    (H : ∀ v w', Mv C w w' → R v w' → wpAnyK C P .any ops Q fuel (msk N m') (a.put oi.dst v) w') : StepM C P ops Q fuel N k m a w := by
  refine ⟨?_⟩
  unfold xOpK
  simp only [hi, hw, if_true, he, hm]
  exact hc.mono fun e w' ⟨v, h1, h2, h3⟩ => ⟨v, h1, h3, H v w' h3 h2⟩
/-- A call, and a row that is made: in either order. -/
theorem forkMM {R : Value → World → Prop} {Q : Act → World → Prop} {N i j m m' : Nat} {oi oj : Oper} {f : FuncId} {xa : Array Value} {fuel : Nat} {a : Act} {w : World} {V : Nat → Value} {o : Obj}
    (r0 : Region.ready .any ops (msk N m) = [i, j]) (r1 : Region.ready .any ops (msk N (m ||| (1 <<< i))) = [j]) (r2 : Region.ready .any ops (msk N (m ||| (1 <<< j))) = [i]) (h1 : (m ||| (1 <<< i)) ||| (1 <<< j) = m') (h2 : (m ||| (1 <<< j)) ||| (1 <<< i) = m') (hi : ops[i]? = some oi) (hj : ops[j]? = some oj)
    (wi : Region.wanted oi (yielded ops a.tmps) = true) (wi' : ∀ v, Region.wanted oi (yielded ops (a.put oj.dst v).tmps) = true) (wj : Region.wanted oj (yielded ops a.tmps) = true) (wj' : ∀ v, Region.wanted oj (yielded ops (a.put oi.dst v).tmps) = true)
    (ei : ∀ w', (execOp a.eval oi).run P w' = .ok (.enter f xa) w') (ei' : ∀ v w', (execOp (a.put oj.dst v).eval oi).run P w' = .ok (.enter f xa) w')
    (ej : ∀ w' : World, (execOp a.eval oj).run P w' = .ok (.value (V w'.heap.size)) (w'.alloc o)) (ej' : ∀ v (w' : World), (execOp (a.put oi.dst v).eval oj).run P w' = .ok (.value (V w'.heap.size)) (w'.alloc o))
    (ci : ∀ w', Ext w w' → Calls P f xa w' fun e w'' => ∃ v, e = .returned v ∧ R v w'' ∧ Ext w' w'') (s1 : ∀ v w1 w2, R v w1 → Ext w1 w2 → R v w2)
    (hpc : ∀ v1 v2, (a.put oi.dst v1).put oj.dst v2 = (a.put oj.dst v2).put oi.dst v1)
    (H : ∀ v1 b w', Ext w w' → R v1 w' → w'.heap[b]? = some o → wpAnyK C P .any ops Q fuel (msk N m') ((a.put oi.dst v1).put oj.dst (V b)) w') : wpAnyK C P .any ops Q (fuel + 2) (msk N m) a w := by
  refine twoM r0 ?_ ?_
  · refine callM (R := R) rfl hi wi (ei w) (ci w (Ext.rf _)) fun v1 w1 h3 h2 => ?_
    have hE := Ext.al (Ext.rf w1) o
    refine soleM r1 (makeM h1 hj (wj' _) (ej' v1 w1) (Mv.of_ext hE) ?_)
    exact H v1 w1.heap.size _ (h3.tr hE) (s1 _ _ _ h2 hE) (World.alloc_heap_new _ _)
  · have hE := Ext.al (Ext.rf w) o
    refine makeM rfl hj wj (ej w) (Mv.of_ext hE) ?_
    refine soleM r2 (callM (R := R) h2 hi (wi' _) (ei' _ _) (ci _ hE) fun v1 w2 g3 g2 => ?_)
    rw [← hpc]
    exact H v1 w.heap.size w2 (hE.tr g3) g2 ((g3.block _ (by simp)).trans (World.alloc_heap_new _ _))
theorem withM {Q : Act → World → Prop} {E : Array Oper} {N : Nat} {a : Act} {w : World} {R : Array Oper → Prop} (h : ops = E) (hR : R E) (hf : ops.size = N)
    (H : R ops → wpAnyK C P .any ops Q N (msk N 0) a w) : wpAnyK C P .any ops Q ops.size (Array.replicate ops.size false) a w := by
  rw [hf, msk_zero]; exact H (h ▸ hR)
end

end Go.Proofs.Ytedamnocolfmlaa

/- The document's Of and Without. -/
namespace Go.Proofs.Ytedamnocolfmlaa
open Go.RowKit

set_option maxRecDepth 20000 in
set_option maxHeartbeats 4000000 in
theorem rcof_any (p : Option Addr) (xs : List Co) (c : Nat) (k : Int) (w : World) (hs : SlC w p xs) (hl : xs.length ≤ 1000) (hr : ∀ x ∈ xs, TuR x.t) :
    Calls Try.prog 10 #[.slice p xs.length c, .int .i64 k] w fun e w' => ∃ v, e = .returned v ∧ w'.ownsRow w.heap.size 67 6 v (xs.filter (inB k)).length (flC (xs.filter (inB k))) ∧ Ext w w' := by
  obtain ⟨i0, hi, hz0, hz1, hz2⟩ := info_parts info_C
  have HRR := Lib.hid hr
  clear hr
  go_enter Try.func10, Try.ntmps10
  go_wp2
  go_loopw [5, 6] (fun v a wr => ∃ q : Nat, q ≤ xs.length ∧ a = .int .i64 q ∧ wr.ownsRow w.heap.size 67 6 v (yesN (inB k) xs q).length (flC (yesN (inB k) xs q)) ∧ Ext w wr) (fun _ a _ => xs.length - (intOf a).toNat)
  case atStart => exact ⟨0, Nat.zero_le _, rfl, World.ownsRow_nil _ _ _ _, Ext.rf _⟩
  case round =>
    obtain ⟨q, hq, rfl, hy, hE⟩ := hrel
    by_cases hlt : q < xs.length
    · have hil : (q : Int) < xs.length := by omega
      obtain ⟨b, off, rfl, hb, c0, c1, c2, c3, c4, c5⟩ := (hs.ext hE) q hlt
      have lbb : Lt b wr := hb
      obtain ⟨x, hx⟩ : ∃ x, xs[q] = x := ⟨_, rfl⟩
      have hmem : x ∈ xs := by rw [← hx]; exact List.getElem_mem hlt
      have HX := Lib.hid (HRR.out x hmem)
      rw [hx] at c0 c1 c2 c3 c4 c5
      have HY := Lib.hid hy
      have HSS := Lib.hid hs
      have hlen := yesN_len (inB k) xs q
      have hbw := hE.size
      clear hy hb hs
      by_cases hk : ofT x.t = k
      · have hkd : (ofT x.t == k) = true := by simp [hk]
        have hkn : (ofT x.t != k) = false := by simp [hk]
        have hso : (inB k) x = true := by show (ofT x.t == k) = _; rw [hkd]
        clear hk
        obtain ⟨n1, n2⟩ := yesN_yes (inB k) xs q x hlt hx hso
        have HN1 := Lib.hid n1
        clear n1 n2 hx hso hmem
        go_wp2_with (first | (at_builtin; go_must (refine wpList_append_own_at _ rfl _ _ 45 rfl w.heap.size 67 i0 (.agg #[.int .u32 0, .int .u32 0, .int .u16 0, .int .u16 0, .int .i64 0, .int .i64 0]) 6 32 Try.underlying45 hi hz0 hz1 hz2 rfl (by decide) _ _ _ rfl (HOY.out.alloc _) ⟨W2.heap.size, 0, none⟩ 1 1 x.cl rfl rfl (cell_co_new _ _ _) (co_one x) (by unfold maxLen; omega) (by omega) (by simp; omega) ?_); intro v' w3 hown' hgrow _ hat; have HOW := Lib.hid hown'; have HG := Lib.hid hgrow; have HAT := Lib.hid hat; clear hown' hgrow hat) | (go_at_call 24; (with_reducible refine (rof_any x.t HX.out _).mono ?_); rintro e W2 ⟨rfl, g2⟩; obtain ⟨hc2, hf2, hl2, hz2', -⟩ := kept g2; (try simp at hz2'); have HOY := Lib.hid (own_ext HY.out g2); have hsz2 := (hE.tr g2).size))
        go_roundw
        case rel =>
          have gX : Ext w (W2.alloc (.cells #[.int .u32 x.t.a, .int .u32 x.t.b, .int .u16 x.t.c, .int .u16 x.t.d, .int .i64 x.s, .int .i64 x.l] 67)) := Ext.al (hE.tr g2) _
          refine ⟨q + 1, by omega, by go_num, ?_, Mv.ext_of gX (Mv.of_grown (C := fun k => w.heap.size ≤ k) HG.out fun r e => .inl (ownBlock_ge HOY.out r e)) (fun k h => h)⟩
          rw [HN1.out, List.length_append, flC_snoc]; exact HOW.out
        case measure => simp [intOf]; omega
      · have hkd : (ofT x.t == k) = false := by simp [hk]
        have hkn : (ofT x.t != k) = true := by simp [hk]
        have hso : (inB k) x = false := by show (ofT x.t == k) = _; rw [hkd]
        clear hk
        obtain ⟨n1, n2⟩ := yesN_no (inB k) xs q x hlt hx hso
        have HN1 := Lib.hid n1
        clear n1 n2 hx hso hmem
        go_wp2_with (go_at_call 24; (with_reducible refine (rof_any x.t HX.out _).mono ?_); rintro e W2 ⟨rfl, g2⟩; obtain ⟨hc2, hf2, hl2, hz2', -⟩ := kept g2; (try simp at hz2'))
        go_roundw
        case rel => exact ⟨q + 1, by omega, by go_num, by rw [HN1.out]; exact own_ext HY.out g2, hE.tr g2⟩
        case measure => simp [intOf]; omega
    · have hil : ¬ ((q : Int) < xs.length) := by omega
      have HY := Lib.hid hy
      have HE := Lib.hid (show yesN (inB k) xs q = xs.filter (inB k) by unfold yesN; rw [List.take_of_length_le (by omega)])
      clear hy
      go_wp2
      refine bodyPost_ret (v := u5) (by simp [results, Try.results10, go_sem]) rfl ⟨u5, rfl, ?_, hE⟩
      rw [← HE.out]; exact HY.out

end Go.Proofs.Ytedamnocolfmlaa

/- WatchHolds: the walk. -/
namespace Go.Proofs.Ytedamnocolfmlaa
open Go.RowKit
def SchH5 (ops : Array Oper) : Prop := Region.noSelect ops = true ∧ stepsM ops 8 [0, 1, 3, 4] 0 = true ∧ Region.ready .any ops (msk 8 27) = [2] ∧ Region.ready .any ops (msk 8 31) = [5] ∧ stepsM ops 8 [6, 7] 63 = true ∧ Region.ready .any ops (msk 8 255) = []
theorem SchH5_0 : Region.noSelect ((Try.f3.body.bind (findR 5)).getD #[]) = true := by kernel_rfl
theorem SchH5_1 : stepsM ((Try.f3.body.bind (findR 5)).getD #[]) 8 [0, 1, 3, 4] 0 = true := by kernel_rfl
theorem SchH5_2 : Region.ready .any ((Try.f3.body.bind (findR 5)).getD #[]) (msk 8 27) = [2] := by kernel_rfl
theorem SchH5_3 : Region.ready .any ((Try.f3.body.bind (findR 5)).getD #[]) (msk 8 31) = [5] := by kernel_rfl
theorem SchH5_4 : stepsM ((Try.f3.body.bind (findR 5)).getD #[]) 8 [6, 7] 63 = true := by kernel_rfl
theorem SchH5_5 : Region.ready .any ((Try.f3.body.bind (findR 5)).getD #[]) (msk 8 255) = [] := by kernel_rfl
theorem SchH5_all : SchH5 ((Try.f3.body.bind (findR 5)).getD #[]) := ⟨SchH5_0, SchH5_1, SchH5_2, SchH5_3, SchH5_4, SchH5_5⟩

theorem thoseL_any (x : Wd) (q n : Nat) (hq : q < 16) (hn : n < 6) (pr : Ag → Bool) : ((thoseL x (q : Int) pr).any fun a => a == (n : Int)) = (thereW x n && pr (x.ag n)) := by
  unfold thoseL agsL pickN
  rw [if_pos (by omega), List.any_map, List.any_filter, List.any_map, List.any_filter]
  refine Bool.eq_iff_iff.2 ⟨fun h => ?_, fun h => ?_⟩
  · obtain ⟨i, -, h⟩ := List.any_eq_true.1 h
    simp only [Function.comp, Bool.and_eq_true, beq_iff_eq] at h
    obtain ⟨h1, h2, h3⟩ := h
    obtain rfl : i = n := by omega
    rw [h1, h2]; rfl
  · rw [Bool.and_eq_true] at h
    exact List.any_eq_true.2 ⟨n, List.mem_range.2 hn, by simp [h.1, h.2]⟩
theorem any_take {l : List Int} (p : Int → Bool) {k : Nat} (h : k < l.length) : (l.take (k + 1)).any p = ((l.take k).any p || p l[k]) := by
  rw [List.take_succ_eq_append_getElem h, List.any_append]
  simp
theorem bit_setN (f : Nat → Bool) (n : Nat) (hn : n < 6) : (bits BinOp.and IntKind.u8 (setN f 6 / 2 ^ n) 1 == 1) = f n := by
  unfold setN setN setN setN setN setN setN
  obtain rfl | rfl | rfl | rfl | rfl | rfl : n = 0 ∨ n = 1 ∨ n = 2 ∨ n = 3 ∨ n = 4 ∨ n = 5 := by omega
  all_goals (cases f 0 <;> cases f 1 <;> cases f 2 <;> cases f 3 <;> cases f 4 <;> cases f 5 <;> rfl)
set_option maxRecDepth 100000 in
set_option maxHeartbeats 8000000 in
theorem holds_any (x : Wd) (b i : Int) (w : World) (hx : ∀ i, i < 6 → AgR w (x.ag i)) :
    Calls Try.prog 3 #[.agg (wdv x), .int .i64 b, .int .i64 i] w fun e w' => e = .returned (.bool true) ∧ Ext w w' := by
  go_enter Try.func3, Try.ntmps3
  go_upto_region 1 with (fail)
  obtain ⟨W0, hW⟩ : ∃ W0, w.alloc (.cells (wdv x) 53) = W0 := ⟨_, rfl⟩
  have g0 : Ext w W0 := by rw [← hW]; exact Ext.al (Ext.rf _) _
  have rx0 : rowD W0 w.heap.size = wdv x := by rw [← hW]; simp [go_sem]
  have lx0 : Lt w.heap.size W0 := by rw [← hW]; simp [go_sem]
  rw [hW]
  clear hW
  have HG := Lib.hid (fun W => great30_any x W)
  cases hg : greatW x
  case true =>
    rw [hg] at HG
    go_wp2_with (first | (go_at_call 5; (with_reducible refine (HG.out _).mono ?_); rintro e w1 ⟨rfl, g1⟩) | (go_at_call 6; (with_reducible refine (wakes30_any _).mono ?_); rintro e w2 ⟨rfl, g2⟩))
    go_ret
    exact ⟨rfl, (g0.tr g1).tr g2⟩
  rw [hg] at HG
  cases h1 : decide (0 ≤ b)
  · have h1' := of_decide_eq_false h1
    go_wp2_with (first | (go_at_call 5; (with_reducible refine (HG.out _).mono ?_); rintro e w1 ⟨rfl, g1⟩) | (go_at_call 6; (with_reducible refine (wakes30_any _).mono ?_); rintro e w2 ⟨rfl, g2⟩))
    go_ret
    exact ⟨rfl, (g0.tr g1).tr g2⟩
  have h1' := of_decide_eq_true h1
  cases h2 : decide (b < 16)
  · have h2' := of_decide_eq_false h2
    go_wp2_with (first | (go_at_call 5; (with_reducible refine (HG.out _).mono ?_); rintro e w1 ⟨rfl, g1⟩) | (go_at_call 6; (with_reducible refine (wakes30_any _).mono ?_); rintro e w2 ⟨rfl, g2⟩))
    go_ret
    exact ⟨rfl, (g0.tr g1).tr g2⟩
  have h2' := of_decide_eq_true h2
  cases h3 : decide (0 ≤ i)
  · have h3' := of_decide_eq_false h3
    go_wp2_with (first | (go_at_call 5; (with_reducible refine (HG.out _).mono ?_); rintro e w1 ⟨rfl, g1⟩) | (go_at_call 6; (with_reducible refine (wakes30_any _).mono ?_); rintro e w2 ⟨rfl, g2⟩))
    go_ret
    exact ⟨rfl, (g0.tr g1).tr g2⟩
  have h3' := of_decide_eq_true h3
  cases h4 : decide (i < 6)
  · have h4' := of_decide_eq_false h4
    go_wp2_with (first | (go_at_call 5; (with_reducible refine (HG.out _).mono ?_); rintro e w1 ⟨rfl, g1⟩) | (go_at_call 6; (with_reducible refine (wakes30_any _).mono ?_); rintro e w2 ⟨rfl, g2⟩))
    go_ret
    exact ⟨rfl, (g0.tr g1).tr g2⟩
  have h4' := of_decide_eq_true h4
  obtain ⟨q, rfl⟩ := Int.eq_ofNat_of_zero_le h1'
  obtain ⟨n, rfl⟩ := Int.eq_ofNat_of_zero_le h3'
  go_upto_region 3 with (go_at_call 5; (with_reducible refine (HG.out _).mono ?_); rintro e w1 ⟨rfl, g1⟩)
  have E1 := g0.tr g1
  have rx1 := row_ext' g1 lx0 rx0
  have lx1 : Lt w.heap.size w1 := Nat.lt_of_lt_of_le lx0 g1.size
  clear g0 rx0 lx0 g1 h1 h2 h3 h4
  go_upto_region 4 with (go_at_call 7; (with_reducible refine (rbacks_any x.st.mb _).mono ?_); rintro e w2 ⟨rfl, g2⟩)
  have E2 := E1.tr g2
  have rx2 := row_ext' g2 lx1 rx1
  have lx2 : Lt w.heap.size w2 := Nat.lt_of_lt_of_le lx1 g2.size
  clear E1 rx1 lx1 g2
  have hq16 : q < 16 := by omega
  have hn6 : n < 6 := by omega
  rw [bit_setN _ n hn6]
  obtain ⟨t, ht⟩ : ∃ t, thereB (x.st.mb.bk n) = t := ⟨_, rfl⟩
  rw [ht]
  have HTH := Lib.hid (show thereW x n = t from ht)
  clear ht
  have hAg : ∀ i, i < 6 → (x.ag i).xs.length ≤ 40 := fun i hi => Nat.le_of_not_lt fun h => by rw [greatW_ag i hi h] at hg; cases hg
  have HXX := Lib.hid (show ∀ W, Ext w W → ∀ i, i < 6 → SlC W (x.ag i).p (x.ag i).xs ∧ (x.ag i).xs.length ≤ 1000 ∧ ∀ c ∈ (x.ag i).xs, TuR c.t from fun W hW i hi => ⟨(hx i hi).1.ext hW, Nat.le_trans (hAg i hi) (by omega), (hx i hi).2⟩)
  obtain ⟨hs, hhs⟩ : ∃ hs, thoseL x q (holdB q) = hs := ⟨_, rfl⟩
  obtain ⟨ts, hts⟩ : ∃ ts, thoseL x q (fun a => takesM (a.md (q : Int).toNat)) = ts := ⟨_, rfl⟩
  have HH := Lib.hid (fun W (hW : Ext w W) => ho_any x q hs hhs W (HXX.out W hW))
  have HT := Lib.hid (fun W => tk_any x q ts hts W)
  have HHA := Lib.hid (show (hs.any fun a => a == (n : Int)) = (t && holdB q (x.ag n)) by rw [← hhs, thoseL_any x q n hq16 hn6, HTH.out])
  have HTA := Lib.hid (show (ts.any fun a => a == (n : Int)) = (t && takesM ((x.ag n).md q)) by rw [← hts, thoseL_any x q n hq16 hn6, HTH.out, Int.toNat_natCast])
  have hll : hs.length ≤ 6 := by rw [← hhs]; exact thoseL_len x q _
  have htl : ts.length ≤ 6 := by rw [← hts]; exact thoseL_len x q _
  clear hx hhs hts
  go_upto_region 5 with (fail)
  refine wp_region_K (fun _ => False) (by kernel_rfl) ?_
  obtain ⟨W5, hW⟩ : ∃ W, World.drew w2 = W := ⟨_, rfl⟩
  have g5 : Ext w2 W5 := by rw [← hW]; exact Ext.dr (Ext.rf _)
  rw [hW]
  clear hW
  have E5 := E2.tr g5
  have rx5 := row_ext' g5 lx2 rx2
  have lx5 : Lt w.heap.size W5 := Nat.lt_of_lt_of_le lx2 g5.size
  clear rx2 lx2 E2 g5
  refine withM (N := 8) (R := SchH5) (E := ((Try.f3.body.bind (findR 5)).getD #[])) (by kernel_rfl) SchH5_all (by kernel_rfl) fun hS => ?_
  have hT := hS.2.1
  refine takeM (N := 8) (k := 0) (m' := 1) (v := .agg (wdv x)) hS.1 hT rfl rfl (by kernel_rfl) (ldwd_K rx5 lx5 (fun h => h) _ _ _ _ _ _ _ (by kernel_rfl)) fun hT => ?_
  refine takeM (N := 8) (k := 1) (m' := 3) (v := .int .i64 q) hS.1 hT rfl rfl (by kernel_rfl) (fun _ _ => by kernel_rfl) fun hT => ?_
  refine takeM (N := 8) (k := 3) (m' := 11) (v := .agg (wdv x)) hS.1 hT rfl rfl (by kernel_rfl) (ldwd_K rx5 lx5 (fun h => h) _ _ _ _ _ _ _ (by kernel_rfl)) fun hT => ?_
  refine takeM (N := 8) (k := 4) (m' := 27) (v := .int .i64 q) hS.1 hT rfl rfl (by kernel_rfl) (fun _ _ => by kernel_rfl) fun hT => ?_
  refine soleM hS.2.2.1 (callM (m' := 31) (R := fun v w' => ∃ p c, v = .slice p hs.length c ∧ SlI w' p hs) rfl rfl (by kernel_rfl) (by kernel_rfl) ((HH.out W5 E5).mono fun e w' ⟨p, c, h1, h2, h3⟩ => ⟨_, h1, ⟨p, c, rfl, h2⟩, h3⟩) ?_)
  rintro _ V1 gV1 ⟨ph, ch, rfl, sh⟩
  have E5 := E5.tr gV1
  refine soleM hS.2.2.2.1 (callM (m' := 63) (R := fun v w' => ∃ p c, v = .slice p ts.length c ∧ SlI w' p ts) rfl rfl (by kernel_rfl) (by kernel_rfl) ((HT.out V1).mono fun e w' ⟨p, c, h1, h2, h3⟩ => ⟨_, h1, ⟨p, c, rfl, h2⟩, h3⟩) ?_)
  rintro _ V2 gV2 ⟨pt, ct, rfl, st⟩
  have E5 := E5.tr gV2
  have sh := sh.ext gV2
  have hT := hS.2.2.2.2.1
  refine takeM (N := 8) (k := 6) (m' := 127) (v := .slice ph hs.length ch) hS.1 hT rfl rfl (by kernel_rfl) (fun _ _ => by kernel_rfl) fun hT => ?_
  refine takeM (N := 8) (k := 7) (m' := 255) (v := .slice pt ts.length ct) hS.1 hT rfl rfl (by kernel_rfl) (fun _ _ => by kernel_rfl) fun hT => ?_
  refine doneK hS.2.2.2.2.2 ?_
  clear hS
  clear hT
  have g25 := gV1.tr gV2
  have rxV := row_ext' g25 lx5 rx5
  have lxV : Lt w.heap.size V2 := Nat.lt_of_lt_of_le lx5 g25.size
  clear rx5 lx5 gV1 gV2 g25
  go_simp
  go_wp2
  go_loop [8, 12] (fun h a => ∃ k : Nat, k ≤ hs.length ∧ a = .int .i64 k ∧ h = .bool ((hs.take k).any fun a => a == (n : Int))) (fun _ a => hs.length - (intOf a).toNat)
  case atStart => exact ⟨0, Nat.zero_le _, rfl, rfl⟩
  case round =>
    obtain ⟨k, hk, rfl, rfl⟩ := hrel
    by_cases hlt : k < hs.length
    · have hlt' : (k : Int) < hs.length := by omega
      obtain ⟨b, off, rfl, lb, h0⟩ := sh k hlt
      obtain ⟨z, hz⟩ : ∃ z, hs[k] = z := ⟨_, rfl⟩
      rw [hz] at h0
      have HNX := Lib.hid (show ((hs.take (k + 1)).any fun a => a == (n : Int)) = (((hs.take k).any fun a => a == (n : Int)) || z == (n : Int)) by rw [any_take _ hlt, hz])
      have hlb : Lt b V2 := lb
      obtain ⟨u, hu⟩ : ∃ u, ((hs.take k).any fun a => a == (n : Int)) = u := ⟨_, rfl⟩
      rw [hu] at HNX ⊢
      clear hz hu lb
      cases u
      · go_wp2
        go_round
        case rel => exact ⟨k + 1, by omega, by go_num, by rw [HNX.out]; simp⟩
        case measure => simp [intOf]; omega
      · go_wp2
        refine ⟨⟨k + 1, by omega, by go_num, by rw [HNX.out]; simp⟩, by simp [intOf]; omega⟩
    · obtain rfl : k = hs.length := by omega
      rw [List.take_length, HHA.out]
      obtain ⟨a8, ha8⟩ : ∃ a8, (t && holdB q (x.ag n)) = a8 := ⟨_, rfl⟩
      rw [ha8]
      have HA8 := Lib.hid ha8
      clear ha8
      rw [show ((hs.length : Nat) : Int) = (hs.length : Int) from rfl]
      go_wp2
      go_loop [9, 13] (fun h a => ∃ k : Nat, k ≤ ts.length ∧ a = .int .i64 k ∧ h = .bool ((ts.take k).any fun a => a == (n : Int))) (fun _ a => ts.length - (intOf a).toNat)
      case atStart => exact ⟨0, Nat.zero_le _, rfl, rfl⟩
      case round =>
        obtain ⟨k, hk, rfl, rfl⟩ := hrel
        by_cases hlt : k < ts.length
        · have hlt' : (k : Int) < ts.length := by omega
          obtain ⟨b, off, rfl, lb, h0⟩ := st k hlt
          obtain ⟨z, hz⟩ : ∃ z, ts[k] = z := ⟨_, rfl⟩
          rw [hz] at h0
          have HNX := Lib.hid (show ((ts.take (k + 1)).any fun a => a == (n : Int)) = (((ts.take k).any fun a => a == (n : Int)) || z == (n : Int)) by rw [any_take _ hlt, hz])
          have hlb : Lt b V2 := lb
          obtain ⟨u, hu⟩ : ∃ u, ((ts.take k).any fun a => a == (n : Int)) = u := ⟨_, rfl⟩
          rw [hu] at HNX ⊢
          clear hz hu lb
          cases u
          · go_wp2
            go_round
            case rel => exact ⟨k + 1, by omega, by go_num, by rw [HNX.out]; simp⟩
            case measure => simp [intOf]; omega
          · go_wp2
            refine ⟨⟨k + 1, by omega, by go_num, by rw [HNX.out]; simp⟩, by simp [intOf]; omega⟩
        · obtain rfl : k = ts.length := by omega
          rw [List.take_length, HTA.out]
          obtain ⟨a9, ha9⟩ : ∃ a9, (t && takesM ((x.ag n).md q)) = a9 := ⟨_, rfl⟩
          rw [ha9]
          have HA9 := Lib.hid ha9
          clear ha9
          have hfit : 391 + n * 67 + 2 + q * 4 + 4 ≤ 814 := by omega
          go_upto_region 15 with (fail)
          obtain ⟨W6, hW⟩ : ∃ W6, setAt (V2.alloc (.cells #[.int .u8 0, .int .i64 0, .int .i64 0, .bool false] 43)) V2.heap.size 0 (mdv ((x.ag n).md q)) = W6 := ⟨_, rfl⟩
          have g6 : Ext V2 W6 := by rw [← hW]; exact Ext.sa _ (Nat.le_refl _) (Ext.al (Ext.rf _) _)
          have r6 : rowD W6 V2.heap.size = mdv ((x.ag n).md q) := by rw [← hW]; exact setAt_all _ _ _ (by rw [rowD_new, size_mdv]; rfl)
          have l6 : Lt V2.heap.size W6 := by rw [← hW]; simp [go_sem]
          have rx6 := row_ext' g6 lxV rxV
          have lx6 : Lt w.heap.size W6 := Nat.lt_of_lt_of_le lxV g6.size
          have E6 := E5.tr g6
          rw [hW]
          clear hW g6 rxV lxV E5 sh st
          generalize V2.heap.size = M at *
          obtain ⟨kd, hkd⟩ : ∃ kd, ((x.ag n).md q).kind = kd := ⟨_, rfl⟩
          have c0 : W6.cell? ⟨M, 0, none⟩ = some (.int .u8 kd) := by rw [cell_rowD, r6, get_md0, hkd]
          have cc : W6.cell? ⟨w.heap.size, 391 + n * 67 + 66, none⟩ = some (.slice (x.ag n).p (x.ag n).xs.length (x.ag n).c) := by rw [cell_rowD, rx6, get_wd_conns x n hn6]
          have HT9 := Lib.hid (show a9 = (t && (kd == 1 || kd == 2)) by rw [← HA9.out, ← hkd]; rfl)
          have HT8 := Lib.hid (show a8 = (t && decide (0 < ((x.ag n).xs.filter (inB q)).length)) by rw [← HA8.out]; rfl)
          have HC := Lib.hid (show ∀ W, Ext w W → Calls Try.prog 10 #[.slice (x.ag n).p (x.ag n).xs.length (x.ag n).c, .int .i64 q] W fun e w' => ∃ p c, e = .returned (.slice p ((x.ag n).xs.filter (inB q)).length c) ∧ Ext W w' from fun W hW => (rcof_any (x.ag n).p (x.ag n).xs (x.ag n).c q W (HXX.out W hW n hn6).1 (HXX.out W hW n hn6).2.1 (HXX.out W hW n hn6).2.2).mono fun e w' ⟨v, h1, h2, h3⟩ => by
            obtain ⟨p, m, c, rfl⟩ := ownsRow_slice h2
            have := ownsRow_num h2
            subst this
            exact ⟨p, c, h1, h3⟩)
          generalize ((x.ag n).xs.filter (inB q)).length = fl at *
          clear r6 rx6 hkd HA8 HA9
          have wArm : True := trivial
          cases t
          · have h8 : a8 = false := HT8.out
            have h9 : a9 = false := HT9.out
            subst h8 h9
            go_wp2_with (go_at_call 6; (with_reducible refine (wakes30_any _).mono ?_); rintro e w2 ⟨rfl, g2⟩)
            go_ret
            exact ⟨rfl, E6.tr g2⟩
          cases f8 : decide (0 < fl)
          all_goals
            have h8 := HT8.out
            rw [f8] at h8
            have f8' : decide ((0 : Int) < (fl : Int)) = decide (0 < fl) := decide_eq_decide.2 (by omega)
            rw [f8] at f8'
            cases k1 : (kd == 1)
            all_goals
              cases k2 : (kd == 2)
              all_goals
                have h9 := HT9.out
                rw [k1, k2] at h9
                simp only [Bool.true_and, Bool.or_true, Bool.or_false, Bool.true_or, Bool.false_or] at h8 h9
                subst h8 h9
                go_wp2_with (first | (go_at_call 10; (with_reducible refine (HC.out _ E6).mono ?_); rintro e w3 ⟨p3, c3, rfl, g3⟩; have c0 : w3.cell? ⟨M, 0, none⟩ = some (.int .u8 kd) := (g3.cell (p := ⟨M, 0, none⟩) l6).trans c0) | (go_at_call 6; (with_reducible refine (wakes30_any _).mono ?_); rintro e w2 ⟨rfl, g2⟩))
                go_ret
                exact ⟨rfl, (E6.tr g3).tr g2⟩

end Go.Proofs.Ytedamnocolfmlaa
