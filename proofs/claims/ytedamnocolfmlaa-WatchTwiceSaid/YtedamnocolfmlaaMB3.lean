/- Lemmas of this claim, put together out of: B7, SR, SR2, SR3, SR4, SR5, I1, XK, I2, I3, I4, J2, J3, PC, OW1, OW2, OW3, SD1. -/
import Derived.Test.YtedamnocolfmlaaMB2
import Derived.Laws.BitsLemmas
set_option linter.unusedSimpArgs false
set_option linter.unusedVariables false
/- Watch: versions, phases, what is too great. -/
namespace Go.Proofs.Ytedamnocolfmlaa
open Go.RowKit

theorem info_i3 : (Try.prog.info? 35).map (·.size) = some 3 := by kernel_rfl
theorem loadAt_i3 {w : World} {b o : Nat} (h : o + 3 ≤ (rowD w b).size) : (Instr.loadAt 35 (.pointer (some ⟨b, o, none⟩))).run Try.prog w = .ok (.agg ((rowD w b).extract o (o + 3))) w := by
  have := run_loadAt_mid w b o 35 ((rowD w b).extract o (o + 3)).toList _ (range_rowD w b o (o + 3)) Try.underlying35 rfl (by rw [info_i3]; simp; omega)
  rwa [Array.toArray_toList] at this
theorem loadVar_i3 {w : World} {b o : Nat} (h : o + 3 ≤ (rowD w b).size) : (loadVar 35 ⟨b, o, none⟩).run Try.prog w = .ok (.agg ((rowD w b).extract o (o + 3))) w := by
  have := run_loadVar_mid w b o 35 ((rowD w b).extract o (o + 3)).toList _ (range_rowD w b o (o + 3)) Try.underlying35 rfl (by rw [info_i3]; simp; omega)
  rwa [Array.toArray_toList] at this
@[go_sem ↓ high] theorem exec_load_i3 (ρ : Operand → Value) (dst : Option Tmp) (x : Operand) (ty : TypeId) (pos : String) (after : Array Edge) (g : Option (Nat × Bool)) (w : World)
    (hx : ρ x = .pointer (some ⟨blkOf (ρ x), offOf (ρ x), none⟩)) (h : Fits (offOf (ρ x)) 3 (rowD w (blkOf (ρ x)))) :
    (execOp ρ ⟨dst, .load 35 x, ty, pos, after, g⟩).run Try.prog w = .ok (.value (.agg (cutD (rowD w (blkOf (ρ x))) (offOf (ρ x)) 3))) w := by
  unfold Fits at h
  generalize hB : blkOf (ρ x) = B at *
  generalize hO : offOf (ρ x) = O at *
  simp only [execOp, hx, Sem.run_bind, loadAt_i3 h, Result.andThen_ok, Sem.run_pure, cutD]
@[go_sem ↓ high] theorem sem_load_i3 (l : Option Nat) (ρ : Operand → Value) (dst : Option Tmp) (x : Operand) (ty : TypeId) (pos : String) (after : Array Edge) (g : Option (Nat × Bool)) (w : World)
    (hx : ρ x = .pointer (some ⟨blkOf (ρ x), offOf (ρ x), none⟩)) (h : Fits (offOf (ρ x)) 3 (rowD w (blkOf (ρ x)))) :
    (Oper.semAt l ρ ⟨dst, .load 35 x, ty, pos, after, g⟩).run Try.prog w = .ok (.value (.agg (cutD (rowD w (blkOf (ρ x))) (offOf (ρ x)) 3))) w := by rw [Oper.semAt_eq _ _ _ (fun c h => by cases h)]; exact exec_load_i3 ρ dst x ty pos after g w hx h
@[go_sem ↓ high] theorem exec_store_i3 (ρ : Operand → Value) (dst : Option Tmp) (x y : Operand) (ty : TypeId) (pos : String) (after : Array Edge) (g : Option (Nat × Bool)) (w : World)
    (hx : ρ x = .pointer (some ⟨blkOf (ρ x), offOf (ρ x), none⟩)) (hy : ρ y = .agg (ρ y).cells) (hs : SizeIs (ρ y).cells 3) (h : Fits (offOf (ρ x)) 3 (rowD w (blkOf (ρ x)))) (hz : frzD w (blkOf (ρ x)) = (0, 0)) (h1 : oneC (ρ y).cells) :
    (execOp ρ ⟨dst, .store 35 x y, ty, pos, after, g⟩).run Try.prog w = .ok .skip (setAt w (blkOf (ρ x)) (offOf (ρ x)) (ρ y).cells) := by
  unfold Fits at h
  unfold SizeIs at hs
  generalize hB : blkOf (ρ x) = B at *
  generalize hO : offOf (ρ x) = O at *
  generalize hC : (ρ y).cells = C at *
  have hst : (Instr.storeAt 35 (.pointer (some ⟨B, O, none⟩)) (.agg C)).run Try.prog w = .ok () (setAt w B O C) :=
    run_storeAt_mid w B O 35 C (fun j hj => ⟨by rw [cell_rowD, Array.getElem?_eq_getElem (by omega)]; rfl, frozen_of_frz hz _⟩) (by rw [info_i3, hs]) h1
  simp only [execOp, hx, hy, Sem.run_bind, hst, Result.andThen_ok, Sem.run_pure]
@[go_sem ↓ high] theorem sem_store_i3 (l : Option Nat) (ρ : Operand → Value) (dst : Option Tmp) (x y : Operand) (ty : TypeId) (pos : String) (after : Array Edge) (g : Option (Nat × Bool)) (w : World)
    (hx : ρ x = .pointer (some ⟨blkOf (ρ x), offOf (ρ x), none⟩)) (hy : ρ y = .agg (ρ y).cells) (hs : SizeIs (ρ y).cells 3) (h : Fits (offOf (ρ x)) 3 (rowD w (blkOf (ρ x)))) (hz : frzD w (blkOf (ρ x)) = (0, 0)) (h1 : oneC (ρ y).cells) :
    (Oper.semAt l ρ ⟨dst, .store 35 x y, ty, pos, after, g⟩).run Try.prog w = .ok .skip (setAt w (blkOf (ρ x)) (offOf (ρ x)) (ρ y).cells) := by rw [Oper.semAt_eq _ _ _ (fun c h => by cases h)]; exact exec_store_i3 ρ dst x y ty pos after g w hx hy hs h hz h1

theorem info_i7 : (Try.prog.info? 77).map (·.size) = some 7 := by kernel_rfl
theorem loadAt_i7 {w : World} {b o : Nat} (h : o + 7 ≤ (rowD w b).size) : (Instr.loadAt 77 (.pointer (some ⟨b, o, none⟩))).run Try.prog w = .ok (.agg ((rowD w b).extract o (o + 7))) w := by
  have := run_loadAt_mid w b o 77 ((rowD w b).extract o (o + 7)).toList _ (range_rowD w b o (o + 7)) Try.underlying77 rfl (by rw [info_i7]; simp; omega)
  rwa [Array.toArray_toList] at this
theorem loadVar_i7 {w : World} {b o : Nat} (h : o + 7 ≤ (rowD w b).size) : (loadVar 77 ⟨b, o, none⟩).run Try.prog w = .ok (.agg ((rowD w b).extract o (o + 7))) w := by
  have := run_loadVar_mid w b o 77 ((rowD w b).extract o (o + 7)).toList _ (range_rowD w b o (o + 7)) Try.underlying77 rfl (by rw [info_i7]; simp; omega)
  rwa [Array.toArray_toList] at this
@[go_sem ↓ high] theorem exec_load_i7 (ρ : Operand → Value) (dst : Option Tmp) (x : Operand) (ty : TypeId) (pos : String) (after : Array Edge) (g : Option (Nat × Bool)) (w : World)
    (hx : ρ x = .pointer (some ⟨blkOf (ρ x), offOf (ρ x), none⟩)) (h : Fits (offOf (ρ x)) 7 (rowD w (blkOf (ρ x)))) :
    (execOp ρ ⟨dst, .load 77 x, ty, pos, after, g⟩).run Try.prog w = .ok (.value (.agg (cutD (rowD w (blkOf (ρ x))) (offOf (ρ x)) 7))) w := by
  unfold Fits at h
  generalize hB : blkOf (ρ x) = B at *
  generalize hO : offOf (ρ x) = O at *
  simp only [execOp, hx, Sem.run_bind, loadAt_i7 h, Result.andThen_ok, Sem.run_pure, cutD]
@[go_sem ↓ high] theorem sem_load_i7 (l : Option Nat) (ρ : Operand → Value) (dst : Option Tmp) (x : Operand) (ty : TypeId) (pos : String) (after : Array Edge) (g : Option (Nat × Bool)) (w : World)
    (hx : ρ x = .pointer (some ⟨blkOf (ρ x), offOf (ρ x), none⟩)) (h : Fits (offOf (ρ x)) 7 (rowD w (blkOf (ρ x)))) :
    (Oper.semAt l ρ ⟨dst, .load 77 x, ty, pos, after, g⟩).run Try.prog w = .ok (.value (.agg (cutD (rowD w (blkOf (ρ x))) (offOf (ρ x)) 7))) w := by rw [Oper.semAt_eq _ _ _ (fun c h => by cases h)]; exact exec_load_i7 ρ dst x ty pos after g w hx h
@[go_sem ↓ high] theorem exec_store_i7 (ρ : Operand → Value) (dst : Option Tmp) (x y : Operand) (ty : TypeId) (pos : String) (after : Array Edge) (g : Option (Nat × Bool)) (w : World)
    (hx : ρ x = .pointer (some ⟨blkOf (ρ x), offOf (ρ x), none⟩)) (hy : ρ y = .agg (ρ y).cells) (hs : SizeIs (ρ y).cells 7) (h : Fits (offOf (ρ x)) 7 (rowD w (blkOf (ρ x)))) (hz : frzD w (blkOf (ρ x)) = (0, 0)) (h1 : oneC (ρ y).cells) :
    (execOp ρ ⟨dst, .store 77 x y, ty, pos, after, g⟩).run Try.prog w = .ok .skip (setAt w (blkOf (ρ x)) (offOf (ρ x)) (ρ y).cells) := by
  unfold Fits at h
  unfold SizeIs at hs
  generalize hB : blkOf (ρ x) = B at *
  generalize hO : offOf (ρ x) = O at *
  generalize hC : (ρ y).cells = C at *
  have hst : (Instr.storeAt 77 (.pointer (some ⟨B, O, none⟩)) (.agg C)).run Try.prog w = .ok () (setAt w B O C) :=
    run_storeAt_mid w B O 77 C (fun j hj => ⟨by rw [cell_rowD, Array.getElem?_eq_getElem (by omega)]; rfl, frozen_of_frz hz _⟩) (by rw [info_i7, hs]) h1
  simp only [execOp, hx, hy, Sem.run_bind, hst, Result.andThen_ok, Sem.run_pure]
@[go_sem ↓ high] theorem sem_store_i7 (l : Option Nat) (ρ : Operand → Value) (dst : Option Tmp) (x y : Operand) (ty : TypeId) (pos : String) (after : Array Edge) (g : Option (Nat × Bool)) (w : World)
    (hx : ρ x = .pointer (some ⟨blkOf (ρ x), offOf (ρ x), none⟩)) (hy : ρ y = .agg (ρ y).cells) (hs : SizeIs (ρ y).cells 7) (h : Fits (offOf (ρ x)) 7 (rowD w (blkOf (ρ x)))) (hz : frzD w (blkOf (ρ x)) = (0, 0)) (h1 : oneC (ρ y).cells) :
    (Oper.semAt l ρ ⟨dst, .store 77 x y, ty, pos, after, g⟩).run Try.prog w = .ok .skip (setAt w (blkOf (ρ x)) (offOf (ρ x)) (ρ y).cells) := by rw [Oper.semAt_eq _ _ _ (fun c h => by cases h)]; exact exec_store_i7 ρ dst x y ty pos after g w hx hy hs h hz h1

/-- An array of n ints. -/
def iv (n : Nat) (f : Nat → Int) : Array Value := rowv n fun i => .int .i64 (f i)
theorem size_iv (n : Nat) (f : Nat → Int) : (iv n f).size = n := size_rowv _ _
@[go_sem] theorem fits_iv {n : Nat} {f : Nat → Int} {o m : Nat} : Fits o m (iv n f) = (o + m ≤ n) := by unfold Fits; rw [size_iv]
@[go_sem] theorem sizeIs_iv {n : Nat} {f : Nat → Int} : SizeIs (iv n f) n := size_iv n f
@[go_sem] theorem cut_all_iv {n : Nat} {f : Nat → Int} : cutD (iv n f) 0 n = iv n f := cut_all _ _ (size_iv n f)
@[go_sem] theorem all_iv {n : Nat} {f : Nat → Int} : oneC (iv n f) := all_rowv _ _ fun _ => rfl
@[go_sem ↓ high] theorem cells_iv {n : Nat} {f : Nat → Int} : (Value.agg (iv n f)).cells = iv n f := cells_agg' _
theorem get_iv {n : Nat} {f : Nat → Int} {k : Nat} (h : k < n) : (iv n f)[k]? = some (.int .i64 (f k)) := by unfold iv; rw [get_rowv, if_pos h]
theorem set_iv (n : Nat) (f : Nat → Int) (k : Nat) (x : Int) : (iv n f).setIfInBounds k (.int .i64 x) = iv n (fun i => if i = k then x else f i) := by
  unfold iv; rw [set_rowv]; congr 1; funext i; unfold upd; by_cases h : i = k <;> simp [h]
theorem iv_congr {n : Nat} {f g : Nat → Int} (h : ∀ i, i < n → f i = g i) : iv n f = iv n g := rowv_congr _ _ _ fun i hi => by rw [h i hi]
theorem zero3 : (#[.int .i64 0, .int .i64 0, .int .i64 0] : Array Value) = iv 3 (fun _ => 0) := rfl
theorem zero7 : (#[.int .i64 0, .int .i64 0, .int .i64 0, .int .i64 0, .int .i64 0, .int .i64 0, .int .i64 0] : Array Value) = iv 7 (fun _ => 0) := rfl
@[go_sem] theorem get_cl_has (c : Cl) : (clv c)[0]? = some (.bool c.has) := by unfold clv; rw [get_rowv, if_pos (by omega)]; unfold Cl.at; simp
@[go_sem] theorem get_cl_ver (c : Cl) : (clv c)[1]? = some (.int .i64 c.t.ver) := by unfold clv; rw [get_rowv, if_pos (by omega)]; unfold Cl.at Tb.at; simp
theorem loadVar_iv3 {w : World} {b : Nat} {f : Nat → Int} (h : rowD w b = iv 3 f) : (loadVar 35 ⟨b, 0, none⟩).run Try.prog w = .ok (.agg (iv 3 f)) w := by
  have e := loadVar_i3 (w := w) (b := b) (o := 0) (by rw [h, size_iv]; exact Nat.le_refl _)
  have c := @cut_all_iv 3 f
  unfold cutD at c
  rw [h, c] at e
  exact e
theorem loadVar_iv7 {w : World} {b : Nat} {f : Nat → Int} (h : rowD w b = iv 7 f) : (loadVar 77 ⟨b, 0, none⟩).run Try.prog w = .ok (.agg (iv 7 f)) w := by
  have e := loadVar_i7 (w := w) (b := b) (o := 0) (by rw [h, size_iv]; exact Nat.le_refl _)
  have c := @cut_all_iv 7 f
  unfold cutD at c
  rw [h, c] at e
  exact e
def hasC (c : Cl) : Int := if c.has then c.t.ver else -1
set_option maxRecDepth 100000 in
set_option maxHeartbeats 1000000 in
theorem has_any (c : Cl) (w : World) : Calls Try.prog 26 #[.agg (clv c)] w fun e w' => e = .returned (.int .i64 (hasC c)) ∧ Ext w w' := by
  cases hc : c.has
  all_goals
    go_enter Try.func26, Try.ntmps26
    go_wp2
    go_ret
    exact ⟨by unfold hasC; rw [hc]; rfl, by (repeat (first | with_reducible exact Ext.rf _ | with_reducible assumption | with_reducible refine Ext.al ?_ _ | with_reducible refine Ext.dr ?_ | with_reducible refine Ext.dn ?_ _ | ((with_reducible refine Ext.st _ ?_ ?_); focus (first | omega | (simp; omega) | simp)) | with_reducible refine Ext.tr ?_ (by assumption) | with_reducible refine Ext.tr ?_ (up_ext (by assumption)) | with_reducible refine Ext.of (by assumption) ?_))⟩
theorem zsize_cl : (Try.zeroCells40).size = 66 := by kernel_rfl
@[go_sem] theorem fits_zcl {o m : Nat} : Fits o m Try.zeroCells40 = (o + m ≤ 66) := by unfold Fits; rw [zsize_cl]
theorem isAgg_cl (w : World) : (isAgg 40).run Try.prog w = .ok true w := by kernel_rfl
theorem size_clt (w : World) : (sizeOf 40).run Try.prog w = .ok 66 w := by kernel_rfl
@[go_sem ↓ high] theorem index_cls (l : Nat → Cl) (k : Nat) (w : World) (h1 : (k : Int) < 3) : (Instr.index 41 (.agg (clL l)) (.int .i64 k)).run Try.prog w = .ok (.agg (clv (l k))) w := by
  have hu : (underlying 41).run Try.prog w = .ok (.array 3 40) w := run_underlying Try.underlying41 w
  have h2 : ¬ (3 : Int) ≤ (k : Int) := by omega
  have h3 : k < 3 := by omega
  have hx : (clL l).extract (k * 66) (k * 66 + 66) = clv (l k) := cut_cls_cl l k h3
  simp [Instr.index, asIntOf, Sem.run_bind, hu, h2, h3, part, isAgg_cl, size_clt, hx]
set_option maxRecDepth 100000 in
set_option maxHeartbeats 4000000 in
theorem versions_any (x : Wd) (w : World) : Calls Try.prog 17 #[.agg (wdv x)] w fun e w' => e = .returned (.agg (iv 3 (fun i => hasC (x.cl i)))) ∧ Ext w w' := by
  go_enter Try.func17, Try.ntmps17
  go_wp2
  go_loopw [3, 4, 7] (fun _ _ a wr => ∃ k : Nat, k ≤ 3 ∧ a = .int .i64 k ∧ rowD wr (w.heap.size + 1) = iv 3 (fun i => if i < k then hasC (x.cl i) else 0) ∧ frzD wr (w.heap.size + 1) = (0, 0) ∧ Lt (w.heap.size + 1) wr ∧ Ext w wr) (fun _ _ a _ => 3 - (intOf a).toNat)
  case atStart => exact ⟨0, Nat.zero_le _, rfl, by rw [rowD_alloc, if_pos (by simp)]; exact zero3, by simp [go_sem], by simp [go_sem], by (repeat (first | with_reducible exact Ext.rf _ | with_reducible assumption | with_reducible refine Ext.al ?_ _ | with_reducible refine Ext.dr ?_ | with_reducible refine Ext.dn ?_ _ | ((with_reducible refine Ext.st _ ?_ ?_); focus (first | omega | (simp; omega) | simp)) | with_reducible refine Ext.tr ?_ (by assumption) | with_reducible refine Ext.tr ?_ (up_ext (by assumption)) | with_reducible refine Ext.of (by assumption) ?_))⟩
  case round =>
    obtain ⟨k, hk, rfl, hR, hZ, hL, hE⟩ := hrel
    by_cases hlt : k < 3
    · have hlt' : (k : Int) < 3 := by omega
      have HZ := Lib.hid hZ
      have HR := Lib.hid hR
      clear hR hZ
      have hE' := hE.size
      have hLs : w.heap.size + 1 < wr.heap.size := hL
      go_upto_region 4 with (fail)
      obtain ⟨W1, hW1⟩ : ∃ W1, setAt (wr.alloc (.cells Try.zeroCells40 40)) wr.heap.size 0 (clv (x.cl k)) = W1 := ⟨_, rfl⟩
      have g1 : Ext wr W1 := by rw [← hW1]; exact Ext.sa _ (Nat.le_refl _) (Ext.al (Ext.rf _) _)
      have hC : rowD W1 wr.heap.size = clv (x.cl k) := by
        rw [← hW1]; exact setAt_all _ _ _ (by rw [rowD_new, zsize_cl, size_clv])
      rw [hW1]
      clear hW1
      go_wp2_with (go_at_call 26; (with_reducible refine (has_any _ _).mono ?_); rintro e W2 ⟨rfl, g2⟩; have g12 := g1.tr g2; have hR2 := row_ext' g12 hL HR.out; have hZ2 : frzD W2 (w.heap.size + 1) = (0, 0) := (by unfold frzD; rw [g12.block _ hL]; exact HZ.out); have hc2 := cell_row hR2 k hlt; have hf2 := frozen_of_frz hZ2 k; have HR2 := Lib.hid hR2; have HZ2 := Lib.hid hZ2; clear hC hR2 hZ2)
      go_roundw
      case rel =>
        refine ⟨k + 1, by omega, by go_num, ?_, by rw [frzD_setCell]; exact HZ2.out, by rw [Lt_setCell]; exact Nat.lt_of_lt_of_le hL g12.size, Ext.st _ (by simp) (hE.tr g12)⟩
        rw [rowD_setCell, if_pos rfl, HR2.out, set_iv]
        refine iv_congr fun i hi => ?_
        by_cases h : i = k
        · subst h; simp
        · rw [if_neg h]
          by_cases h2 : i < k
          · rw [if_pos h2, if_pos (by omega)]
          · rw [if_neg h2, if_neg (by omega)]
      case measure => simp [intOf]; omega
    · obtain rfl : k = 3 := by omega
      have hR3 : rowD wr (w.heap.size + 1) = iv 3 (fun i => hasC (x.cl i)) := hR.trans (iv_congr fun i hi => by rw [if_pos hi])
      clear hR
      have HE := Lib.hid hE
      clear hE
      have hZ1 : frzD (setAt wr (w.heap.size + 1) 0 (iv 3 fun i => hasC (x.cl i))) (w.heap.size + 1) = (0, 0) := by rw [frzD_setAt]; exact hZ
      go_wp2
      have hr : rowD (setAt wr (w.heap.size + 1) 0 (iv 3 fun i => hasC (x.cl i))) (w.heap.size + 1) = iv 3 fun i => hasC (x.cl i) := setAt_all _ _ _ (by rw [hR3])
      refine bodyPost_ret (results_of rfl _ _ (w.heap.size + 1) rfl (loadVar_iv3 hr)) rfl ⟨rfl, Ext.sa _ (by omega) HE.out⟩
def phN (mv : Nat → Mo) (p : Nat) : Nat → Int
  | 0 => 0
  | k + 1 => phN mv p k + if (mv k).ph = p then 1 else 0
theorem phN_succ (mv : Nat → Mo) (p k : Nat) : phN mv p (k + 1) = phN mv p k + if (mv k).ph = p then 1 else 0 := rfl
theorem phN_bd (mv : Nat → Mo) (p : Nat) : ∀ k, 0 ≤ phN mv p k ∧ phN mv p k ≤ k
  | 0 => by simp [phN]
  | k + 1 => by
    have := phN_bd mv p k
    rw [phN]
    split <;> omega
set_option maxRecDepth 100000 in
set_option maxHeartbeats 4000000 in
theorem phases_any (x : Wd) (h0 : ∀ i, i < 16 → 0 ≤ (x.st.mv i).ph) (w : World) : Calls Try.prog 16 #[.agg (wdv x)] w fun e w' => e = .returned (.agg (iv 7 (fun p => phN x.st.mv p 16))) ∧ Ext w w' := by
  have H0 := Lib.hid h0
  clear h0
  go_enter Try.func16, Try.ntmps16
  go_wp2
  go_loopw [4, 8] (fun _ a wr => ∃ k : Nat, k ≤ 16 ∧ a = .int .i64 k ∧ rowD wr (w.heap.size + 1) = iv 7 (fun p => phN x.st.mv p k) ∧ frzD wr (w.heap.size + 1) = (0, 0) ∧ Lt (w.heap.size + 1) wr ∧ Ext w wr) (fun _ a _ => 16 - (intOf a).toNat)
  case atStart => exact ⟨0, Nat.zero_le _, rfl, by rw [rowD_alloc, if_pos (by simp)]; exact zero7, by simp [go_sem], by simp [go_sem], by (repeat (first | with_reducible exact Ext.rf _ | with_reducible assumption | with_reducible refine Ext.al ?_ _ | with_reducible refine Ext.dr ?_ | with_reducible refine Ext.dn ?_ _ | ((with_reducible refine Ext.st _ ?_ ?_); focus (first | omega | (simp; omega) | simp)) | with_reducible refine Ext.tr ?_ (by assumption) | with_reducible refine Ext.tr ?_ (up_ext (by assumption)) | with_reducible refine Ext.of (by assumption) ?_))⟩
  case round =>
    obtain ⟨k, hk, rfl, hR, hZ, hL, hE⟩ := hrel
    by_cases hlt : k < 16
    · have hlt' : (k : Int) < 16 := by omega
      have h0k := H0.out k hlt
      have hLs : w.heap.size + 1 < wr.heap.size := hL
      by_cases h7 : (x.st.mv k).ph < 7
      · obtain ⟨p, hp⟩ : ∃ p, (x.st.mv k).ph.toNat = p := ⟨_, rfl⟩
        have hp7 : p < 7 := by omega
        obtain ⟨y, hy⟩ : ∃ y, phN x.st.mv p k = y := ⟨_, rfl⟩
        have hc : wr.cell? ⟨w.heap.size + 1, (x.st.mv k).ph.toNat, none⟩ = some (.int .i64 y) := by rw [hp, ← hy]; exact cell_row hR p hp7
        have hf : wr.frozen? ⟨w.heap.size + 1, (x.st.mv k).ph.toNat, none⟩ = false := frozen_of_frz hZ _
        have hbd := phN_bd x.st.mv p k
        rw [hy] at hbd
        have hbd2 : y ≤ 16 := by omega
        have hbd1 := hbd.1
        have HS := Lib.hid (fun q => phN_succ x.st.mv q k)
        have HZ := Lib.hid hZ
        have HR := Lib.hid hR
        have HP := Lib.hid (show (x.st.mv k).ph = p by omega)
        have HY := Lib.hid hy
        have HPP := Lib.hid hp
        clear hR hZ hbd hy hp
        go_wp2
        go_roundw
        case rel =>
          refine ⟨k + 1, by omega, by go_num, ?_, by simpa [go_sem] using fun _ => HZ.out, by rw [Lt_alloc, Lt_setCell]; exact .inr hL, Ext.al (Ext.st _ (Nat.le_succ _) hE) _⟩
          rw [rowD_alloc, if_neg (by simp; omega), rowD_setCell, if_pos rfl, HR.out, HPP.out, set_iv]
          refine iv_congr fun i hi => ?_
          rw [HS.out i, HP.out]
          by_cases h : i = p
          · subst h; rw [if_pos rfl, if_pos rfl, HY.out]
          · rw [if_neg h, if_neg (by omega), Int.add_zero]
        case measure => simp [intOf]; omega
      · have HS := Lib.hid (fun q => phN_succ x.st.mv q k)
        have HZ := Lib.hid hZ
        have HR := Lib.hid hR
        clear hR hZ
        go_wp2
        go_roundw
        case rel =>
          refine ⟨k + 1, by omega, by go_num, ?_, by simpa [go_sem] using fun _ => HZ.out, by simp [go_sem]; exact .inr hL, by (repeat (first | with_reducible exact Ext.rf _ | with_reducible assumption | with_reducible refine Ext.al ?_ _ | with_reducible refine Ext.dr ?_ | with_reducible refine Ext.dn ?_ _ | ((with_reducible refine Ext.st _ ?_ ?_); focus (first | omega | (simp; omega) | simp)) | with_reducible refine Ext.tr ?_ (by assumption) | with_reducible refine Ext.tr ?_ (up_ext (by assumption)) | with_reducible refine Ext.of (by assumption) ?_))⟩
          rw [rowD_alloc, if_neg (by omega), HR.out]
          refine iv_congr fun i hi => ?_
          rw [HS.out i, if_neg (by omega), Int.add_zero]
        case measure => simp [intOf]; omega
    · obtain rfl : k = 16 := by omega
      have HE := Lib.hid hE
      have hZ1 : frzD (setAt wr (w.heap.size + 1) 0 (iv 7 fun p => phN x.st.mv p 16)) (w.heap.size + 1) = (0, 0) := by rw [frzD_setAt]; exact hZ
      clear hE
      go_wp2
      have hr : rowD (setAt wr (w.heap.size + 1) 0 (iv 7 fun p => phN x.st.mv p 16)) (w.heap.size + 1) = iv 7 fun p => phN x.st.mv p 16 := setAt_all _ _ _ (by rw [hR])
      refine bodyPost_ret (results_of rfl _ _ (w.heap.size + 1) rfl (loadVar_iv7 hr)) rfl ⟨rfl, Ext.sa _ (by omega) HE.out⟩

end Go.Proofs.Ytedamnocolfmlaa

/- Rows of holders that are turned in place. -/
namespace Go.Proofs.Ytedamnocolfmlaa
open Go.RowKit

section
variable {α : Type}
/-- A total order of values, by 'less'. -/
structure Tot (lt : α → α → Prop) : Prop where
  irr : ∀ x, ¬ lt x x
  tr : ∀ x y z, ¬ lt y x → ¬ lt z y → ¬ lt z x
  tot : ∀ x y, lt x y → ¬ lt y x
/-- No later one is less than an earlier one. -/
def Srt (lt : α → α → Prop) (xs : List α) : Prop := xs.Pairwise fun x y => ¬ lt y x
theorem Srt.app {lt : α → α → Prop} {xs ys : List α} : Srt lt (xs ++ ys) ↔ Srt lt xs ∧ Srt lt ys ∧ ∀ x ∈ xs, ∀ y ∈ ys, ¬ lt y x := List.pairwise_append
theorem Srt.nil {lt : α → α → Prop} : Srt lt [] := List.Pairwise.nil
theorem Srt.one {lt : α → α → Prop} (x : α) : Srt lt [x] := List.pairwise_singleton _ _
/-- One is put behind those that are not greater. -/
theorem Srt.put {lt : α → α → Prop} (T : Tot lt) {A B : List α} {x : α} (h : Srt lt (A ++ B)) (ha : ∀ y, A.getLast? = some y → ¬ lt x y) (hb : ∀ y ∈ B, lt x y) : Srt lt (A ++ x :: B) := by
  obtain ⟨h1, h2, h3⟩ := Srt.app.1 h
  refine Srt.app.2 ⟨h1, List.pairwise_cons.2 ⟨fun y hy => T.tot _ _ (hb y hy), h2⟩, fun y hy z hz => ?_⟩
  rcases List.mem_cons.1 hz with rfl | hz
  · rcases List.eq_nil_or_concat A with rfl | ⟨A', l, rfl⟩
    · cases hy
    · have hl := ha l (by simp)
      rw [List.concat_eq_append] at hy h1
      rcases List.mem_append.1 hy with hy | hy
      · exact T.tr y l z ((Srt.app.1 h1).2.2 y hy l (by simp)) hl
      · obtain rfl := List.mem_singleton.1 hy; exact hl
  · exact h3 y hy z hz
/-- symMerge: both halves merged are the whole merged. -/
theorem merge_cut {lt : α → α → Prop} {A1 A2 B1 B2 C1 C2 : List α} (hA : Srt lt (A1 ++ A2)) (hB : Srt lt (B1 ++ B2)) (h1 : ∀ x ∈ A1, ∀ y ∈ B2, ¬ lt y x) (h2 : ∀ x ∈ B1, ∀ y ∈ A2, ¬ lt y x)
    (p1 : C1.Perm (A1 ++ B1)) (s1 : Srt lt C1) (p2 : C2.Perm (A2 ++ B2)) (s2 : Srt lt C2) : (C1 ++ C2).Perm ((A1 ++ A2) ++ (B1 ++ B2)) ∧ Srt lt (C1 ++ C2) := by
  refine ⟨?_, Srt.app.2 ⟨s1, s2, fun x hx y hy => ?_⟩⟩
  · refine (List.Perm.append p1 p2).trans ?_
    rw [List.append_assoc, List.append_assoc]
    refine List.Perm.append_left A1 ?_
    rw [← List.append_assoc, ← List.append_assoc]
    exact List.Perm.append_right B2 List.perm_append_comm
  · rcases List.mem_append.1 (p1.mem_iff.1 hx) with hx | hx <;> rcases List.mem_append.1 (p2.mem_iff.1 hy) with hy | hy
    · exact (Srt.app.1 hA).2.2 x hx y hy
    · exact h1 x hx y hy
    · exact h2 x hx y hy
    · exact (Srt.app.1 hB).2.2 x hx y hy
/-- What is not greater than the first of a sorted row is so of all; what is not less than the last, too. -/
theorem Srt.head_le {lt : α → α → Prop} (T : Tot lt) {x y : α} {B : List α} (h : Srt lt (y :: B)) (hx : ¬ lt y x) : ∀ z ∈ y :: B, ¬ lt z x := fun z hz => by
  rcases List.mem_cons.1 hz with rfl | hz
  · exact hx
  · exact T.tr x y z hx ((List.pairwise_cons.1 h).1 z hz)
theorem Srt.last_le {lt : α → α → Prop} (T : Tot lt) {x y : α} {A : List α} (h : Srt lt (A ++ [x])) (hx : ¬ lt y x) : ∀ z ∈ A ++ [x], ¬ lt y z := fun z hz => by
  rcases List.mem_append.1 hz with hz | hz
  · exact T.tr z x y ((Srt.app.1 h).2.2 z hz x (by simp)) hx
  · obtain rfl := List.mem_singleton.1 hz; exact hx
/-- Two places change what they hold. -/
def swp (xs : List α) (i j : Nat) (x y : α) : List α := (xs.set i y).set j x
theorem swp_app (P M S : List α) (x y : α) : swp (P ++ x :: M ++ y :: S) P.length (P.length + 1 + M.length) x y = P ++ y :: M ++ x :: S := by
  unfold swp
  have h1 : (P ++ x :: M ++ y :: S).set P.length y = P ++ y :: M ++ y :: S := by
    rw [List.append_assoc, List.set_append_right _ _ (Nat.le_refl _), Nat.sub_self]
    simp
  rw [h1, List.set_append_right _ _ (by simp; omega)]
  have e : P.length + 1 + M.length - (P ++ y :: M).length = 0 := by simp; omega
  rw [e]
  rfl
theorem swp_next (P S : List α) (x y : α) : swp (P ++ x :: y :: S) P.length (P.length + 1) x y = P ++ y :: x :: S := by
  have := swp_app P [] S x y
  simpa using this
/-- Two rows of k change places, the first m of them: swapRange. -/
def SwpR (xs : List α) (a b k m : Nat) (ys : List α) : Prop := ∃ P A1 A2 M B1 B2 S : List α, xs = P ++ (A1 ++ A2) ++ M ++ (B1 ++ B2) ++ S ∧ P.length = a ∧ A1.length = m ∧ B1.length = m ∧ A2.length = k - m ∧ B2.length = k - m ∧ P.length + (A1 ++ A2).length + M.length = b ∧ ys = P ++ (B1 ++ A2) ++ M ++ (A1 ++ B2) ++ S
theorem SwpR.done {xs ys P A M B S : List α} {k : Nat} (h : SwpR xs P.length (P.length + A.length + M.length) k k ys) (hx : xs = P ++ A ++ M ++ B ++ S) (hA : A.length = k) (hB : B.length = k) : ys = P ++ B ++ M ++ A ++ S := by
  obtain ⟨P', A1, A2, M', B1, B2, S', h1, h2, h3, h4, h5, h6, h7, h8⟩ := h
  have a2 : A2 = [] := List.length_eq_zero_iff.1 (by omega)
  have b2 : B2 = [] := List.length_eq_zero_iff.1 (by omega)
  subst a2 b2
  simp only [List.append_nil] at *
  rw [hx] at h1
  simp only [List.append_assoc] at h1
  obtain ⟨e1, h1⟩ := List.append_inj h1 h2.symm
  obtain ⟨e2, h1⟩ := List.append_inj h1 (by omega)
  obtain ⟨e3, h1⟩ := List.append_inj h1 (by subst e1 e2; omega)
  obtain ⟨e4, e5⟩ := List.append_inj h1 (by omega)
  subst e1 e2 e3 e4 e5
  exact h8
/-- rotate: what it does, round by round. -/
structure RotAt (P A B S : List α) (i j : Nat) (xs : List α) : Prop where
  at_ : ∃ P' A' B' S' : List α, xs = P' ++ A' ++ B' ++ S' ∧ A'.length = i ∧ B'.length = j ∧ P'.length + i = P.length + A.length ∧ P' ++ B' ++ A' ++ S' = P ++ B ++ A ++ S
theorem RotAt.start (P A B S : List α) : RotAt P A B S A.length B.length (P ++ A ++ B ++ S) := ⟨P, A, B, S, rfl, rfl, rfl, rfl, rfl⟩
theorem cutl (l : List α) (k : Nat) (h : k ≤ l.length) : ∃ a b, l = a ++ b ∧ a.length = k ∧ b.length = l.length - k := ⟨l.take k, l.drop k, (List.take_append_drop k l).symm, by rw [List.length_take]; omega, List.length_drop⟩
/-- The first part is the longer one. -/
theorem RotAt.left {P A B S xs : List α} {i j : Nat} (h : RotAt P A B S i j xs) (hij : j < i) : ∃ Q X M Y R : List α, xs = Q ++ X ++ M ++ Y ++ R ∧ X.length = j ∧ Y.length = j ∧ Q.length = P.length + A.length - i ∧ M.length = i - j ∧ RotAt P A B S (i - j) j (Q ++ Y ++ M ++ X ++ R) := by
  obtain ⟨P', A', B', S', h1, h2, h3, h4, h5⟩ := h.at_
  obtain ⟨a, b, rfl, h6, h7⟩ := cutl A' j (by omega)
  refine ⟨P', a, b, B', S', by rw [h1]; simp, h6, h3, by omega, by omega, ⟨P' ++ B', b, a, S', by simp, by omega, h6, ?_, ?_⟩⟩
  · simp at h2 ⊢; omega
  · rw [← h5]; simp
theorem RotAt.right {P A B S xs : List α} {i j : Nat} (h : RotAt P A B S i j xs) (hij : i < j) : ∃ Q X M Y R : List α, xs = Q ++ X ++ M ++ Y ++ R ∧ X.length = i ∧ Y.length = i ∧ Q.length = P.length + A.length - i ∧ M.length = j - i ∧ RotAt P A B S i (j - i) (Q ++ Y ++ M ++ X ++ R) := by
  obtain ⟨P', A', B', S', h1, h2, h3, h4, h5⟩ := h.at_
  obtain ⟨a, b, rfl, h6, h7⟩ := cutl B' (j - i) (by omega)
  refine ⟨P', A', a, b, S', by rw [h1]; simp, h2, by omega, by omega, h6, ⟨P', b, a, A' ++ S', by simp, by omega, h6, by omega, ?_⟩⟩
  rw [← h5]; simp
theorem RotAt.last {P A B S xs : List α} {i : Nat} (h : RotAt P A B S i i xs) : ∃ Q X Y R : List α, xs = Q ++ X ++ [] ++ Y ++ R ∧ X.length = i ∧ Y.length = i ∧ Q.length = P.length + A.length - i ∧ Q ++ Y ++ [] ++ X ++ R = P ++ B ++ A ++ S := by
  obtain ⟨P', A', B', S', h1, h2, h3, h4, h5⟩ := h.at_
  exact ⟨P', A', B', S', by rw [h1]; simp, h2, h3, by omega, by rw [← h5]; simp⟩
/-- symMerge's search: what is known at its two ends. -/
structure SymAt (lt : α → α → Prop) (A B : List α) (h lo hi s r : Nat) : Prop where
  lo_ : lo ≤ s
  mid_ : s ≤ r
  hi_ : r ≤ hi
  left : s = lo ∨ ∀ x y, A[s - 1]? = some x → B[h - s]? = some y → ¬ lt y x
  right : r = hi ∨ ∀ x y, A[r]? = some x → B[h - 1 - r]? = some y → lt y x
/-- .. and where it ends both parts may be merged apart. -/
theorem sym_cut {lt : α → α → Prop} (T : Tot lt) {A B : List α} {h lo hi s : Nat} (hA : Srt lt A) (hB : Srt lt B) (hL : h = (A.length + B.length) / 2) (hlh : (h < A.length ∧ lo = h - B.length ∧ hi = h ∧ B.length ≤ h) ∨ (A.length ≤ h ∧ lo = 0 ∧ hi = A.length))
    (S : SymAt lt A B h lo hi s s) : s ≤ A.length ∧ h - s ≤ B.length ∧ s ≤ h ∧ (∀ x ∈ A.take s, ∀ y ∈ B.drop (h - s), ¬ lt y x) ∧ (∀ x ∈ B.take (h - s), ∀ y ∈ A.drop s, ¬ lt y x) := by
  have hb := S.lo_
  have hc := S.hi_
  have k1 : s ≤ A.length := by omega
  have k2 : h - s ≤ B.length := by omega
  have k3 : s ≤ h := by omega
  refine ⟨k1, k2, k3, fun x hx y hy => ?_, fun x hx y hy => ?_⟩
  · obtain ⟨i, hi', rfl⟩ := List.getElem_of_mem hx
    obtain ⟨j, hj, rfl⟩ := List.getElem_of_mem hy
    rw [List.length_take] at hi'
    rw [List.length_drop] at hj
    rw [List.getElem_take, List.getElem_drop]
    have h0 : ¬ s = lo := by omega
    have hl := (S.left.resolve_left h0) (A[s - 1]'(by omega)) (B[h - s]'(by omega)) (List.getElem?_eq_getElem _) (List.getElem?_eq_getElem _)
    have e1 : ¬ lt (A[s - 1]'(by omega)) (A[i]'(by omega)) := by
      by_cases e : i = s - 1
      · subst e; exact T.irr _
      · exact List.pairwise_iff_getElem.1 hA i (s - 1) (by omega) (by omega) (by omega)
    have e2 : ¬ lt (B[h - s + j]'(by omega)) (B[h - s]'(by omega)) := by
      by_cases e : j = 0
      · subst e; exact T.irr _
      · exact List.pairwise_iff_getElem.1 hB (h - s) (h - s + j) (by omega) (by omega) (by omega)
    exact T.tr _ _ _ (T.tr _ _ _ e1 hl) e2
  · obtain ⟨i, hi', rfl⟩ := List.getElem_of_mem hx
    obtain ⟨j, hj, rfl⟩ := List.getElem_of_mem hy
    rw [List.length_take] at hi'
    rw [List.length_drop] at hj
    rw [List.getElem_take, List.getElem_drop]
    have h0 : ¬ s = hi := by omega
    have hl := T.tot _ _ ((S.right.resolve_left h0) (A[s]'(by omega)) (B[h - 1 - s]'(by omega)) (List.getElem?_eq_getElem _) (List.getElem?_eq_getElem _))
    have e1 : ¬ lt (B[h - 1 - s]'(by omega)) (B[i]'(by omega)) := by
      by_cases e : i = h - 1 - s
      · subst e; exact T.irr _
      · exact List.pairwise_iff_getElem.1 hB i (h - 1 - s) (by omega) (by omega) (by omega)
    have e2 : ¬ lt (A[s + j]'(by omega)) (A[s]'(by omega)) := by
      by_cases e : j = 0
      · subst e; exact T.irr _
      · exact List.pairwise_iff_getElem.1 hA s (s + j) (by omega) (by omega) (by omega)
    exact T.tr _ _ _ (T.tr _ _ _ e1 hl) e2
/-- The search goes on. -/
theorem SymAt.yes {lt : α → α → Prop} {A B : List α} {h lo hi s r c : Nat} (S : SymAt lt A B h lo hi s r) (h1 : s ≤ c) (h2 : c < r) (hy : ∀ x y, A[c]? = some x → B[h - 1 - c]? = some y → ¬ lt y x) : SymAt lt A B h lo hi (c + 1) r :=
  ⟨by have := S.lo_; omega, by omega, S.hi_, .inr fun x y hx hy' => hy x y (by simpa using hx) (by rw [show h - 1 - c = h - (c + 1) by omega]; exact hy'), S.right⟩
theorem SymAt.no {lt : α → α → Prop} {A B : List α} {h lo hi s r c : Nat} (S : SymAt lt A B h lo hi s r) (h1 : s ≤ c) (h2 : c < r) (hy : ∀ x y, A[c]? = some x → B[h - 1 - c]? = some y → lt y x) : SymAt lt A B h lo hi s c :=
  ⟨S.lo_, h1, by have := S.hi_; omega, S.left, .inr hy⟩
theorem Srt.ins {lt : α → α → Prop} {A B : List α} {x : α} (h : Srt lt (A ++ B)) (ha : ∀ y ∈ A, ¬ lt x y) (hb : ∀ y ∈ B, ¬ lt y x) : Srt lt (A ++ x :: B) := by
  obtain ⟨h1, h2, h3⟩ := Srt.app.1 h
  refine Srt.app.2 ⟨h1, List.pairwise_cons.2 ⟨hb, h2⟩, fun y hy z hz => ?_⟩
  rcases List.mem_cons.1 hz with rfl | hz
  · exact ha y hy
  · exact h3 y hy z hz
/-- A search for the place of x among sorted ones: those ahead of i are not greater, those from j on are not less (low: x goes ahead of its equals, or behind them). -/
structure PutAt (lt : α → α → Prop) (x : α) (B : List α) (i j : Nat) : Prop where
  le : i ≤ j
  top : j ≤ B.length
  left : i = 0 ∨ ∀ y, B[i - 1]? = some y → ¬ lt x y
  right : j = B.length ∨ ∀ y, B[j]? = some y → ¬ lt y x
theorem PutAt.start (lt : α → α → Prop) (x : α) (B : List α) : PutAt lt x B 0 B.length := ⟨Nat.zero_le _, Nat.le_refl _, .inl rfl, .inl rfl⟩
theorem PutAt.yes {lt : α → α → Prop} {x : α} {B : List α} {i j h : Nat} (S : PutAt lt x B i j) (h2 : h < j) (hy : ∀ y, B[h]? = some y → ¬ lt x y) : PutAt lt x B (h + 1) j :=
  ⟨h2, S.top, .inr fun y e => hy y (by simpa using e), S.right⟩
theorem PutAt.no {lt : α → α → Prop} {x : α} {B : List α} {i j h : Nat} (S : PutAt lt x B i j) (h1 : i ≤ h) (h2 : h < j) (hy : ∀ y, B[h]? = some y → ¬ lt y x) : PutAt lt x B i h :=
  ⟨h1, by have := S.top; omega, S.left, .inr hy⟩
theorem PutAt.done {lt : α → α → Prop} (T : Tot lt) {x : α} {B : List α} {i : Nat} (hB : Srt lt B) (S : PutAt lt x B i i) : Srt lt (B.take i ++ x :: B.drop i) := by
  have ht := S.top
  refine Srt.ins (by rw [List.take_append_drop]; exact hB) (fun y hy => ?_) (fun y hy => ?_)
  · obtain ⟨k, hk, rfl⟩ := List.getElem_of_mem hy
    rw [List.length_take] at hk
    rw [List.getElem_take]
    have hl := (S.left.resolve_left (by omega)) (B[i - 1]'(by omega)) (List.getElem?_eq_getElem _)
    by_cases e : k = i - 1
    · subst e; exact hl
    · exact T.tr _ _ _ (List.pairwise_iff_getElem.1 hB k (i - 1) (by omega) (by omega) (by omega)) hl
  · obtain ⟨k, hk, rfl⟩ := List.getElem_of_mem hy
    rw [List.length_drop] at hk
    rw [List.getElem_drop]
    have hl := (S.right.resolve_left (by omega)) (B[i]'(by omega)) (List.getElem?_eq_getElem _)
    by_cases e : k = 0
    · subst e; exact hl
    · exact T.tr _ _ _ hl (List.pairwise_iff_getElem.1 hB i (i + k) (by omega) (by omega) (by omega))
/-- insertionSort: the element that goes down stands between A and B; what is behind it is greater. -/
structure InsAt (lt : α → α → Prop) (P W S : List α) (j : Nat) (xs : List α) : Prop where
  at_ : ∃ (A B : List α) (x : α), xs = P ++ A ++ x :: B ++ S ∧ P.length + A.length = j ∧ Srt lt (A ++ B) ∧ (∀ y ∈ B, lt x y) ∧ (A ++ x :: B).Perm W
theorem InsAt.start {lt : α → α → Prop} {P A S : List α} {x : α} (h : Srt lt A) : InsAt lt P (A ++ [x]) S (P.length + A.length) (P ++ A ++ x :: S) := ⟨A, [], x, by simp, rfl, by simpa using h, (fun y h => by cases h), List.Perm.refl _⟩
theorem InsAt.step {lt : α → α → Prop} {P W S xs : List α} {j : Nat} (h : InsAt lt P W S (j + 1) xs) (hj : P.length ≤ j) : ∃ (Q R : List α) (y x : α), xs = Q ++ y :: x :: R ∧ Q.length = j ∧ (lt x y → InsAt lt P W S j (Q ++ x :: y :: R)) := by
  obtain ⟨A, B, x, h1, h2, h3, h4, h5⟩ := h.at_
  rcases List.eq_nil_or_concat A with rfl | ⟨A', y, rfl⟩
  · simp at h2; omega
  · rw [List.concat_eq_append] at *
    refine ⟨P ++ A', B ++ S, y, x, by rw [h1]; simp, by simp at h2 ⊢; omega, fun hl => ⟨A', y :: B, x, by simp, by simp at h2; omega, by simpa using h3, fun z hz => ?_, ?_⟩⟩
    · rcases List.mem_cons.1 hz with rfl | hz
      · exact hl
      · exact h4 z hz
    · refine List.Perm.trans ?_ h5
      rw [List.append_assoc]
      exact List.Perm.append_left A' (List.Perm.swap _ _ _)
/-- It stops: at the start, or where the one ahead is not greater. -/
theorem InsAt.done {lt : α → α → Prop} (T : Tot lt) {P W S xs : List α} {j : Nat} (h : InsAt lt P W S j xs) (hd : j = P.length ∨ ∀ y x, xs[j - 1]? = some y → xs[j]? = some x → ¬ lt x y) : ∃ C, xs = P ++ C ++ S ∧ Srt lt C ∧ C.Perm W := by
  obtain ⟨A, B, x, h1, h2, h3, h4, h5⟩ := h.at_
  refine ⟨A ++ x :: B, by rw [h1]; simp, Srt.put T h3 (fun y hy => ?_) h4, h5⟩
  rcases hd with hd | hd
  · have : A = [] := List.length_eq_zero_iff.1 (by omega)
    subst this; cases hy
  · rcases List.eq_nil_or_concat A with rfl | ⟨A', l, rfl⟩
    · cases hy
    · rw [List.concat_eq_append] at *
      have e : l = y := by simpa using hy
      subst e
      refine hd l x ?_ ?_
      · rw [h1]
        simp only [List.length_append, List.length_cons, List.length_nil] at h2
        rw [List.append_assoc, List.append_assoc, List.getElem?_append_right (by omega), List.append_assoc, List.getElem?_append_right (by omega)]
        rw [show j - 1 - P.length - A'.length = 0 by omega]; rfl
      · rw [h1]
        simp only [List.length_append, List.length_cons, List.length_nil] at h2
        rw [List.append_assoc, List.append_assoc, List.getElem?_append_right (by omega), List.append_assoc, List.getElem?_append_right (by omega), List.getElem?_append_right (by simp; omega)]
        rw [show j - P.length - A'.length - [l].length = 0 by simp; omega]; rfl
end
theorem flH_set (ys : List Ho) (i : Nat) (x : Ho) (hi : i < ys.length) : setL (flH ys) (i * 5) x.cl = flH (ys.set i x) := by
  have hc : ∀ z : Ho, z.cl.length = 5 := fun _ => rfl
  refine List.ext_getElem? fun j => ?_
  by_cases hj : j < ys.length * 5
  · rw [setL_get _ _ _ _ (by rw [flH_len]; exact hj), hc]
    have hq : j / 5 < ys.length := by omega
    have h2 := flH_get (ys.set i x) (j / 5) (j % 5) (by rw [List.length_set]; exact hq) (Nat.mod_lt _ (by omega))
    have h3 := flH_get ys (j / 5) (j % 5) hq (Nat.mod_lt _ (by omega))
    rw [show j / 5 * 5 + j % 5 = j by omega] at h2 h3
    rw [h2]
    by_cases he : i = j / 5
    · rw [if_pos (by omega)]
      have e : (ys.set i x)[j / 5]'(by rw [List.length_set]; exact hq) = x := by rw [List.getElem_set, if_pos he]
      rw [e, show j - i * 5 = j % 5 by omega]
    · rw [if_neg (by omega), h3]
      have e : (ys.set i x)[j / 5]'(by rw [List.length_set]; exact hq) = ys[j / 5] := by rw [List.getElem_set, if_neg he]
      rw [e]
  · rw [List.getElem?_eq_none (by rw [setL_len, flH_len]; omega), List.getElem?_eq_none (by rw [flH_len, List.length_set]; omega)]
theorem own_frz {w : World} {base g n cap : Nat} {l : List Value} (h : w.ownsRow base 97 5 (.slice (some ⟨g, 0, none⟩) n cap) n l) : frzD w g = (0, 0) ∧ g < w.heap.size := by
  rcases h.2 with ⟨e, _⟩ | ⟨g', cap', cur, e, h1, h2, _⟩
  · cases e
  · cases e
    exact ⟨by unfold frzD; rw [h2], (Array.getElem?_eq_some_iff.1 h2).1⟩
theorem own_cells {w : World} {base g n cap : Nat} {ys : List Ho} (h : w.ownsRow base 97 5 (.slice (some ⟨g, 0, none⟩) n cap) n (flH ys)) (hn : ys.length = n) (i : Nat) (hi : i < ys.length) :
    w.cell? ⟨g, i * 5, none⟩ = some (.int .u32 ys[i].t.a) ∧ w.cell? ⟨g, i * 5 + 1, none⟩ = some (.int .u32 ys[i].t.b) ∧ w.cell? ⟨g, i * 5 + 2, none⟩ = some (.int .u16 ys[i].t.c) ∧ w.cell? ⟨g, i * 5 + 3, none⟩ = some (.int .u16 ys[i].t.d) ∧ w.cell? ⟨g, i * 5 + 4, none⟩ = some (.int .i64 ys[i].n) := by
  subst hn
  obtain ⟨p, c, e, -, hs⟩ := SlH.own h
  cases e
  obtain ⟨b, off, e2, hb, c0, c1, c2, c3, c4⟩ := hs i hi
  cases e2
  rw [Nat.zero_add] at c0 c1 c2 c3 c4
  exact ⟨c0, c1, c2, c3, c4⟩

theorem cut5 {α : Type} (xs : List α) (a b k : Nat) (hab : a + k ≤ b) (hb : b + k ≤ xs.length) : ∃ P A M B S : List α, xs = P ++ A ++ M ++ B ++ S ∧ P.length = a ∧ A.length = k ∧ B.length = k ∧ P.length + A.length + M.length = b := by
  obtain ⟨P, R1, rfl, h1, h2⟩ := cutl xs a (by omega)
  simp only [List.length_append] at hb
  obtain ⟨A, R2, rfl, h3, h4⟩ := cutl R1 k (by omega)
  simp only [List.length_append] at hb
  obtain ⟨M, R3, rfl, h5, h6⟩ := cutl R2 (b - (a + k)) (by omega)
  simp only [List.length_append] at hb
  obtain ⟨B, S, rfl, h7, h8⟩ := cutl R3 k (by omega)
  exact ⟨P, A, M, B, S, by simp, h1, h3, h7, by omega⟩
theorem SwpR.start {α : Type} (xs : List α) (a b k : Nat) (hab : a + k ≤ b) (hb : b + k ≤ xs.length) : SwpR xs a b k 0 xs := by
  obtain ⟨P, A, M, B, S, h1, h2, h3, h4, h5⟩ := cut5 xs a b k hab hb
  exact ⟨P, [], A, M, [], B, S, by rw [h1]; simp, h2, rfl, rfl, by omega, by omega, by simpa using h5, by rw [h1]; simp⟩
theorem SwpR.step {α : Type} {xs ys : List α} {a b k m : Nat} (h : SwpR xs a b k m ys) (hm : m < k) : ∃ x y, ys[a + m]? = some x ∧ ys[b + m]? = some y ∧ SwpR xs a b k (m + 1) (swp ys (a + m) (b + m) x y) ∧ ys.length = xs.length := by
  obtain ⟨P, A1, A2, M, B1, B2, S, h1, h2, h3, h4, h5, h6, h7, h8⟩ := h
  match A2, h5 with
  | [], h5 => simp at h5; omega
  | x :: A2, h5 =>
  match B2, h6 with
  | [], h6 => simp at h6; omega
  | y :: B2, h6 =>
  have e : ys = (P ++ B1) ++ x :: (A2 ++ M ++ A1) ++ y :: (B2 ++ S) := by rw [h8]; simp
  have l1 : (P ++ B1).length = a + m := by simp; omega
  have l2 : (P ++ B1).length + 1 + (A2 ++ M ++ A1).length = b + m := by simp at h7 h5 ⊢; omega
  have hs := swp_app (P ++ B1) (A2 ++ M ++ A1) (B2 ++ S) x y
  rw [← e, l1] at hs
  have l3 : a + m + 1 + (A2 ++ M ++ A1).length = b + m := by omega
  rw [l3] at hs
  refine ⟨x, y, ?_, ?_, ?_, ?_⟩
  · rw [e, ← l1]; simp
  · rw [e, List.getElem?_append_right (by simp at l2 ⊢; omega)]
    have : b + m - (P ++ B1 ++ x :: (A2 ++ M ++ A1)).length = 0 := by simp at l2 ⊢; omega
    rw [this]; rfl
  · rw [hs]
    refine ⟨P, A1 ++ [x], A2, M, B1 ++ [y], B2, S, by rw [h1]; simp, h2, by simp; omega, by simp; omega, by simp at h5; omega, by simp at h6; omega, by simp at h7 ⊢; omega, by simp⟩
  · rw [h8, h1]; simp; omega
/-- A row of holders of one's own, at g. -/
structure RowH (W : World) (g cap : Nat) (ys : List Ho) : Prop where
  own : W.ownsRow 0 97 5 (.slice (some ⟨g, 0, none⟩) ys.length cap) ys.length (flH ys)
theorem RowH.lt {W : World} {g cap : Nat} {ys : List Ho} (h : RowH W g cap ys) : g < W.heap.size := (own_frz h.own).2
theorem RowH.ext {W W' : World} {g cap : Nat} {ys : List Ho} (h : RowH W g cap ys) (e : Ext W W') : RowH W' g cap ys := ⟨own_ext h.own e⟩
theorem RowH.cells {W : World} {g cap : Nat} {ys : List Ho} (h : RowH W g cap ys) {i : Nat} {x : Ho} (hx : ys[i]? = some x) :
    W.cell? ⟨g, i * 5, none⟩ = some (.int .u32 x.t.a) ∧ W.cell? ⟨g, i * 5 + 1, none⟩ = some (.int .u32 x.t.b) ∧ W.cell? ⟨g, i * 5 + 2, none⟩ = some (.int .u16 x.t.c) ∧ W.cell? ⟨g, i * 5 + 3, none⟩ = some (.int .u16 x.t.d) ∧ W.cell? ⟨g, i * 5 + 4, none⟩ = some (.int .i64 x.n) := by
  obtain ⟨hi, rfl⟩ := List.getElem?_eq_some_iff.1 hx
  exact own_cells h.own rfl i hi
theorem RowH.set {W : World} {g cap : Nat} {ys : List Ho} (h : RowH W g cap ys) (i : Nat) (hi : i < ys.length) (x : Ho) : RowH (W.setCells g (i * 5) x.cl) g cap (ys.set i x) := by
  have := own_setCells x.cl (i * 5) W _ h.own
  rw [flH_set ys i x hi] at this
  exact ⟨by rw [List.length_set]; exact this⟩
/-- Two places of the row change what they hold. -/
def swW (W : World) (g i j : Nat) (x y : Ho) : World := (W.setCells g (i * 5) y.cl).setCells g (j * 5) x.cl
theorem RowH.swap {W : World} {g cap : Nat} {ys : List Ho} (h : RowH W g cap ys) {i j : Nat} (x y : Ho) (hi : i < ys.length) (hj : j < ys.length) : RowH (swW W g i j x y) g cap (swp ys i j x y) := (h.set i hi y).set j (by rw [List.length_set]; exact hj) x
theorem set5 (w : World) (g o : Nat) (v0 v1 v2 v3 v4 : Value) : (((((w.setCell ⟨g, o, none⟩ v0).setCell ⟨g, o + 1, none⟩ v1).setCell ⟨g, o + 2, none⟩ v2).setCell ⟨g, o + 3, none⟩ v3).setCell ⟨g, o + 4, none⟩ v4) = w.setCells g o [v0, v1, v2, v3, v4] := rfl
theorem swW_eq (w : World) (g i j : Nat) (x y : Ho) : (w.setCells g (i * 5) [.int .u32 y.t.a, .int .u32 y.t.b, .int .u16 y.t.c, .int .u16 y.t.d, .int .i64 y.n]).setCells g (j * 5) [.int .u32 x.t.a, .int .u32 x.t.b, .int .u16 x.t.c, .int .u16 x.t.d, .int .i64 x.n] = swW w g i j x y := rfl
theorem swW_mv {A W : World} {C : Nat → Prop} {g : Nat} (hg : C g) (i j : Nat) (x y : Ho) (h : Mv C A W) : Mv C A (swW W g i j x y) := Mv.sc hg _ _ _ _ (Mv.sc hg _ _ _ _ h)

end Go.Proofs.Ytedamnocolfmlaa

/- swapRange. -/
namespace Go.Proofs.Ytedamnocolfmlaa
open Go.RowKit

set_option maxRecDepth 100000 in
set_option maxHeartbeats 8000000 in
theorem swapRange_any (g cap : Nat) (xs : List Ho) (a b k : Nat) (hab : a + k ≤ b) (hb : b + k ≤ xs.length) (hl : xs.length ≤ 1000) (f : Value) (w : World) (hr : RowH w g cap xs) :
    Calls Try.prog 95 #[.slice (some ⟨g, 0, none⟩) xs.length cap, .int .i64 a, .int .i64 b, .int .i64 k, f] w fun e w' => (∃ v, e = .returned v) ∧ (∃ ys, SwpR xs a b k k ys ∧ RowH w' g cap ys) ∧ Mv (fun q => q = g) w w' := by
  go_enter Try.func95, Try.ntmps95
  go_wp2
  go_loopw [10] (fun q wr => ∃ (m : Nat) (ys : List Ho), m ≤ k ∧ q = .int .i64 m ∧ SwpR xs a b k m ys ∧ RowH wr g cap ys ∧ Mv (fun q => q = g) w wr) (fun q _ => k - (intOf q).toNat)
  case atStart => exact ⟨0, xs, Nat.zero_le _, rfl, SwpR.start xs a b k hab hb, hr, Mv.refl _ _⟩
  case round =>
    obtain ⟨m, ys, hm, rfl, hS, hR, hM⟩ := hrel
    by_cases hlt : m < k
    · have hlt' : (m : Int) < k := by omega
      obtain ⟨x, y, hx, hy, hS', hyl⟩ := hS.step hlt
      obtain ⟨c0, c1, c2, c3, c4⟩ := hR.cells hx
      obtain ⟨d0, d1, d2, d3, d4⟩ := hR.cells hy
      obtain ⟨hfz, hgl⟩ := own_frz hR.own
      have f0 := fun i => frozen_of_frz hfz i
      have lg : Lt g wr := hgl
      have hia : (a : Int) + m < xs.length := by omega
      have hib : (b : Int) + m < xs.length := by omega
      have ha0 : (0 : Int) ≤ (a : Int) + m := by omega
      have hb0 : (0 : Int) ≤ (b : Int) + m := by omega
      have wa : IntKind.i64.wrap ((a : Int) + m) = (a : Int) + m := by rw [IntKind.wrap_i64]; omega
      have wb : IntKind.i64.wrap ((b : Int) + m) = (b : Int) + m := by rw [IntKind.wrap_i64]; omega
      have ta : ((a : Int) + m).toNat = a + m := by omega
      have tb : ((b : Int) + m).toNat = b + m := by omega
      have hab' : a + m < b + m := by omega
      go_wp2_with (fail)
      have HS := Lib.hid hS'
      have HR := Lib.hid hR
      have HM := Lib.hid hM
      have HL := Lib.hid hyl
      clear hS' hS hR hM hyl hx hy hr
      go_region
      rw [set5, set5, swW_eq]
      have HR2 := Lib.hid ((HR.out.swap x y (i := a + m) (j := b + m) (by rw [HL.out]; omega) (by rw [HL.out]; omega)).ext (Ext.dr (Ext.rf _)))
      have HM2 := Lib.hid (Mv.dr (swW_mv (C := fun q => q = g) rfl (a + m) (b + m) x y HM.out))
      generalize (swW wr g (a + m) (b + m) x y).drew = W1 at *
      clear c0 c1 c2 c3 c4 d0 d1 d2 d3 d4 f0 hfz
      go_wp2
      go_roundw
      case rel => exact ⟨m + 1, _, hlt, by go_num, HS.out, HR2.out, HM2.out⟩
      case measure => simp [intOf]; omega
    · obtain rfl : m = k := by omega
      go_wp2
      go_end0
      exact ⟨⟨_, rfl⟩, ⟨ys, hS, hR⟩, hM⟩

end Go.Proofs.Ytedamnocolfmlaa

/- rotate. -/
namespace Go.Proofs.Ytedamnocolfmlaa
open Go.RowKit

theorem swapRange_i {g cap : Nat} {xs : List Ho} (qa qb qk : Int) (a b k : Nat) (ea : qa = a) (eb : qb = b) (ek : qk = k) (n : Nat) (hn : n = xs.length) (hab : a + k ≤ b) (hb : b + k ≤ n) (hl : n ≤ 1000) (f : Value) (w : World) (hr : RowH w g cap xs) :
    Calls Try.prog 95 #[.slice (some ⟨g, 0, none⟩) n cap, .int .i64 qa, .int .i64 qb, .int .i64 qk, f] w fun e w' => (∃ v, e = .returned v) ∧ (∃ ys, SwpR xs a b k k ys ∧ RowH w' g cap ys) ∧ Mv (fun q => q = g) w w' := by
  subst ea eb ek hn
  exact swapRange_any g cap xs a b k hab hb hl f w hr
set_option maxRecDepth 100000 in
set_option maxHeartbeats 8000000 in
theorem rotate_any (g cap : Nat) (P A B S : List Ho) (hA : 0 < A.length) (hB : 0 < B.length) (hl : (P ++ A ++ B ++ S).length ≤ 1000) (f : Value) (w : World) (hr : RowH w g cap (P ++ A ++ B ++ S)) (n pa pm pb : Nat) (hn : n = (P ++ A ++ B ++ S).length) (ea : pa = P.length) (em : pm = P.length + A.length) (eb : pb = P.length + A.length + B.length) :
    Calls Try.prog 86 #[.slice (some ⟨g, 0, none⟩) n cap, .int .i64 pa, .int .i64 pm, .int .i64 pb, f] w fun e w' => (∃ v, e = .returned v) ∧ RowH w' g cap (P ++ B ++ A ++ S) ∧ Mv (fun q => q = g) w w' := by
  have HN := Lib.hid hn
  have HA := Lib.hid ea
  have HM := Lib.hid em
  have HB := Lib.hid eb
  have hpm : pm ≤ 1000 := by rw [em]; simp at hl; omega
  have hpb : (pb : Int) ≤ 1000 := by rw [eb]; simp at hl; omega
  have hpam : (pa : Int) ≤ pm := by omega
  have hpmb : (pm : Int) ≤ pb := by omega
  have hpm' : (pm : Int) ≤ 1000 := by omega
  have hd1 : (pm : Int) - pa = (A.length : Nat) := by omega
  have hd2 : (pb : Int) - pm = (B.length : Nat) := by omega
  have HD1 := Lib.hid hd1
  have HD2 := Lib.hid hd2
  have hAm : A.length ≤ pm := by omega
  have hnl : n ≤ 1000 := by rw [hn]; exact hl
  clear hn ea em eb hd1 hd2
  go_enter Try.func86, Try.ntmps86
  go_wp2
  go_loopw [10, 11] (fun qi qj wr => ∃ (i j : Nat) (ys : List Ho), qi = .int .i64 i ∧ qj = .int .i64 j ∧ 0 < i ∧ 0 < j ∧ RotAt P A B S i j ys ∧ i ≤ A.length ∧ j ≤ B.length ∧ ys.length = n ∧ RowH wr g cap ys ∧ Mv (fun q => q = g) w wr) (fun qi qj _ => (intOf qi).toNat + (intOf qj).toNat)
  case atStart => exact ⟨A.length, B.length, _, by rw [HD1.out], by rw [HD2.out], hA, hB, RotAt.start P A B S, Nat.le_refl _, Nat.le_refl _, HN.out.symm, hr, Mv.refl _ _⟩
  case round =>
    clear hr
    obtain ⟨i, j, ys, rfl, rfl, hi, hj, hR, hiA, hjB, hyn, hrow, hM⟩ := hrel
    have HRT := Lib.hid hR
    have HR := Lib.hid hrow
    have HMM := Lib.hid hM
    have HYN := Lib.hid hyn
    have hBb := HB.out
    have hMm := HM.out
    have HPL := Lib.hid hMm
    by_cases hij : j < i
    · obtain ⟨Q, X, M, Y, R, h1, h2, h3, h4, h5, h6⟩ := hR.left hij
      have hne : ((i : Int) == j) = false := by rw [beq_eq_false_iff_ne]; omega
      have hgt : (j : Int) < i := by omega
      have hq : Q.length = pm - i := by omega
      have hlen : ys.length = Q.length + X.length + M.length + Y.length + R.length := by rw [h1]; simp; omega
      have hjn : pm + j ≤ n := by omega
      clear hM hrow hR hyn hMm hBb
      go_wp2_with ((go_at_call 95; go_must (with_reducible refine (swapRange_i _ _ _ (pm - i) pm j (by omega) (by omega) (by omega) n HYN.out.symm (by omega) (by omega) (by omega) f _ HR.out).mono ?_); rintro e W2 ⟨⟨v, rfl⟩, ⟨zs, hz, hr2⟩, hm2⟩))
      have hzs : zs = Q ++ Y ++ M ++ X ++ R := by
        have e2 : Q.length + X.length + M.length = pm := by omega
        rw [← hq, ← e2] at hz
        exact hz.done h1 h2 h3
      rw [hzs] at hr2
      have HR2 := Lib.hid hr2
      have HM2 := Lib.hid (HMM.out.trans hm2)
      go_roundw
      case rel => exact ⟨i - j, j, _, by first | rfl | (congr 1; omega), rfl, by omega, hj, h6, by omega, hjB, by rw [← HYN.out, hlen]; simp; omega, HR2.out, HM2.out⟩
      case measure => simp [intOf]; omega
    · by_cases hji : i < j
      · obtain ⟨Q, X, M, Y, R, h1, h2, h3, h4, h5, h6⟩ := hR.right hji
        have hne : ((i : Int) == j) = false := by rw [beq_eq_false_iff_ne]; omega
        have hgt : ¬ (j : Int) < i := by omega
        have hq : Q.length = pm - i := by omega
        have hlen : ys.length = Q.length + X.length + M.length + Y.length + R.length := by rw [h1]; simp; omega
        have hjn : pm + j - i + i ≤ n := by omega
        clear hM hrow hR hyn hMm hBb
        go_wp2_with ((go_at_call 95; go_must (with_reducible refine (swapRange_i _ _ _ (pm - i) (pm + j - i) i (by omega) (by omega) (by omega) n HYN.out.symm (by omega) (by omega) (by omega) f _ HR.out).mono ?_); rintro e W2 ⟨⟨v, rfl⟩, ⟨zs, hz, hr2⟩, hm2⟩))
        have hzs : zs = Q ++ Y ++ M ++ X ++ R := by
          have e2 : Q.length + X.length + M.length = pm + j - i := by omega
          rw [← hq, ← e2] at hz
          exact hz.done h1 h2 h3
        rw [hzs] at hr2
        have HR2 := Lib.hid hr2
        have HM2 := Lib.hid (HMM.out.trans hm2)
        go_roundw
        case rel => exact ⟨i, j - i, _, rfl, by first | rfl | (congr 1; omega), hi, by omega, h6, hiA, by omega, by rw [← HYN.out, hlen]; simp; omega, HR2.out, HM2.out⟩
        case measure => simp [intOf]; omega
      · obtain rfl : i = j := by omega
        obtain ⟨Q, X, Y, R, h1, h2, h3, h4, h5⟩ := hR.last
        have hne : ((i : Int) == i) = true := by rw [beq_iff_eq]
        have hq : Q.length = pm - i := by omega
        have hlen : ys.length = Q.length + X.length + Y.length + R.length := by rw [h1]; simp; omega
        have hjn : pm + i ≤ n := by omega
        clear hM hrow hR hyn hMm hBb
        go_wp2_with ((go_at_call 95; go_must (with_reducible refine (swapRange_i _ _ _ (pm - i) pm i (by omega) (by omega) (by omega) n HYN.out.symm (by omega) (by omega) (by omega) f _ HR.out).mono ?_); rintro e W2 ⟨⟨v, rfl⟩, ⟨zs, hz, hr2⟩, hm2⟩))
        have hzs : zs = Q ++ Y ++ [] ++ X ++ R := by
          have e2 : Q.length + X.length + ([] : List Ho).length = pm := by simp; omega
          rw [← hq, ← e2] at hz
          exact hz.done h1 h2 h3
        rw [hzs, h5] at hr2
        have HR2 := Lib.hid hr2
        have HM2 := Lib.hid (HMM.out.trans hm2)
        go_end0
        exact ⟨⟨_, rfl⟩, HR2.out, HM2.out⟩

end Go.Proofs.Ytedamnocolfmlaa

/- insertionSort. -/
namespace Go.Proofs.Ytedamnocolfmlaa
open Go.RowKit

theorem swp_prev {α : Type} (P S : List α) (x y : α) : swp (P ++ x :: y :: S) (P.length + 1) P.length y x = P ++ y :: x :: S := by
  unfold swp
  rw [List.set_append_right _ _ (by omega), show P.length + 1 - P.length = 1 by omega]
  simp
theorem insH_len {α : Type} {lt : α → α → Prop} {P W S xs : List α} {j : Nat} (h : InsAt lt P W S j xs) : xs.length = P.length + W.length + S.length := by
  obtain ⟨A, B, x, h1, h2, h3, h4, h5⟩ := h.at_
  have := h5.length_eq
  rw [h1]
  simp at this ⊢
  omega
theorem insH_mem {α : Type} {lt : α → α → Prop} {P W S xs : List α} {j : Nat} (h : InsAt lt P W S j xs) {R : α → Prop} (hR : ∀ y ∈ W, R y) {i : Nat} {y : α} (hi : P.length ≤ i) (hi2 : i < P.length + W.length) (hy : xs[i]? = some y) : R y := by
  obtain ⟨A, B, x, h1, h2, h3, h4, h5⟩ := h.at_
  have hl := h5.length_eq
  rw [h1, List.append_assoc, List.append_assoc, List.getElem?_append_right hi, ← List.append_assoc, List.getElem?_append_left (by simp at hl ⊢; omega)] at hy
  exact hR y (h5.mem_iff.1 (List.mem_of_getElem? hy))
set_option maxRecDepth 100000 in
set_option maxHeartbeats 8000000 in
theorem insertion_any (R : Ho → Prop) (lt : Ho → Ho → Prop) (cm : Ho → Ho → Int) (hcm : ∀ x y, R x → R y → (lt x y ↔ cm x y < 0)) (g0 : Nat) (lb : Array Value) (eg : ∀ args w, (callFunc g0 args).run Try.prog w = .ok (.enter g0 args) w)
    (hf : ∀ x y W, R x → R y → Calls Try.prog g0 (#[.agg #[.int .u32 x.t.a, .int .u32 x.t.b, .int .u16 x.t.c, .int .u16 x.t.d, .int .i64 x.n], .agg #[.int .u32 y.t.a, .int .u32 y.t.b, .int .u16 y.t.c, .int .u16 y.t.d, .int .i64 y.n]] ++ lb) W fun e w' => e = .returned (.int .i64 (cm x y)) ∧ Ext W w')
    (T : Tot lt) (g cap : Nat) (P W S : List Ho) (hR : ∀ x ∈ W, R x) (hl : (P ++ W ++ S).length ≤ 1000) (w : World) (hr : RowH w g cap (P ++ W ++ S)) (n pa pb : Nat) (hn : n = (P ++ W ++ S).length) (ea : pa = P.length) (eb : pb = P.length + W.length) :
    Calls Try.prog 69 #[.slice (some ⟨g, 0, none⟩) n cap, .int .i64 pa, .int .i64 pb, .func (.func g0) #[] lb] w fun e w' => (∃ v, e = .returned v) ∧ (∃ C, RowH w' g cap (P ++ C ++ S) ∧ Srt lt C ∧ C.Perm W) ∧ Mv (fun q => q = g) w w' := by
  have HN := Lib.hid hn
  have HA := Lib.hid ea
  have HB := Lib.hid eb
  have HF := Lib.hid hf
  have HC := Lib.hid hcm
  have HRR := Lib.hid hR
  have hpb : (pb : Int) ≤ 1000 := by rw [eb]; simp at hl; omega
  have hpa : (pa : Int) ≤ pb := by omega
  have hnl : n ≤ 1000 := by rw [hn]; exact hl
  have hpn : pb ≤ n := by rw [eb, hn]; simp
  clear hn ea eb hf hcm hR
  go_enter Try.func69, Try.ntmps69
  go_wp2
  go_loopw [8, 9] (fun q _ wr => ∃ (k : Nat) (C : List Ho), k ≤ W.length ∧ q = .int .i64 ((pa + 1 + k : Nat) : Int) ∧ Srt lt C ∧ C.Perm (W.take (k + 1)) ∧ RowH wr g cap (P ++ C ++ (W.drop (k + 1) ++ S)) ∧ Mv (fun q => q = g) w wr) (fun q _ _ => pb - (intOf q).toNat)
  case atStart =>
    refine ⟨0, W.take 1, Nat.zero_le _, by go_num, ?_, List.Perm.refl _, ?_, Mv.refl _ _⟩
    · rcases W with _ | ⟨x, W'⟩
      · exact Srt.nil
      · exact Srt.one x
    · rw [show P ++ W.take (0 + 1) ++ (W.drop (0 + 1) ++ S) = P ++ W ++ S by rw [← List.append_assoc, List.append_assoc P, List.take_append_drop]]
      exact hr
  case round =>
    clear hr
    obtain ⟨k, C, hk, rfl, hS, hP, hrow, hM⟩ := hrel
    have hAA := HA.out
    have hBB := HB.out
    by_cases hlt : k + 1 < W.length
    · have hlt' : (((pa + 1 + k : Nat) : Int)) < pb := by omega
      obtain ⟨x, hx⟩ : ∃ x, W[k + 1] = x := ⟨_, rfl⟩
      have hdr : W.drop (k + 1) = x :: W.drop (k + 2) := by rw [List.drop_eq_getElem_cons hlt, hx]
      have htk : W.take (k + 1 + 1) = W.take (k + 1) ++ [x] := by rw [List.take_succ_eq_append_getElem hlt, hx]
      have hCl : C.length = k + 1 := by rw [hP.length_eq, List.length_take]; omega
      rw [hdr] at hrow
      have h0 := InsAt.start (P := P) (S := W.drop (k + 2) ++ S) (x := x) hS
      have e0 : P ++ C ++ (x :: W.drop (k + 2) ++ S) = P ++ C ++ x :: (W.drop (k + 2) ++ S) := by simp
      rw [e0] at hrow
      have HI := Lib.hid h0
      have HRow := Lib.hid hrow
      have HM := Lib.hid hM
      have HTK := Lib.hid htk
      have HPP := Lib.hid hP
      have HCL := Lib.hid hCl
      have hjj : P.length + C.length = pa + 1 + k := by omega
      have HJJ := Lib.hid hjj
      have HBB := Lib.hid hBB
      have HAA := Lib.hid hAA
      clear hS hP hrow hM hdr htk h0 e0 hCl hx hjj hAA hBB
      go_wp2
      go_loopw [9] (fun q wr => ∃ (j : Nat) (ys : List Ho), q = .int .i64 j ∧ pa ≤ j ∧ j ≤ pa + 1 + k ∧ InsAt lt P (C ++ [x]) (W.drop (k + 2) ++ S) j ys ∧ RowH wr g cap ys ∧ Mv (fun q => q = g) w wr) (fun q _ => (intOf q).toNat)
      case atStart => exact ⟨pa + 1 + k, _, rfl, by omega, Nat.le_refl _, by rw [← HJJ.out]; exact HI.out, HRow.out, HM.out⟩
      case round =>
        clear HI HRow HM
        obtain ⟨j, ys, rfl, hj, hjk, hI, hrow, hM⟩ := hrel
        have HI := Lib.hid hI
        have HRow := Lib.hid hrow
        have HM := Lib.hid hM
        have hb2 : pa + 1 + k < pb := by have := HBB.out; have := HAA.out; omega
        have hyl : ys.length = n := by
          rw [insH_len HI.out, HN.out]
          have hc := HCL.out
          simp
          omega
        have HYL := Lib.hid hyl
        clear hI hrow hM hyl
        by_cases hja : j = pa
        · have hg : ¬ ((pa : Int) < j) := by omega
          subst hja
          obtain ⟨C', h1, h2, h3⟩ := HI.out.done T (.inl HA.out)
          have hrow' := HRow.out
          rw [h1] at hrow'
          have HR2 := Lib.hid hrow'
          have HS2 := Lib.hid h2
          have HP2 : Hid (C'.Perm (W.take (k + 1 + 1))) := Lib.hid (h3.trans (by rw [HTK.out]; exact HPP.out.append_right [x]))
          clear h1 h2 h3 hrow'
          go_wp2_with (fail)
          refine wp_region_later (by kernel_rfl) (by kernel_rfl) ?_; (repeat (go_big_quiet_step (fail))); refine wpQuiet_nil ?_; intro d
          have hd := later_ext d
          have HR3 := Lib.hid (HR2.out.ext hd)
          have HM3 := Lib.hid (HM.out.tr hd)
          generalize later d = W3 at *
          clear hd HR2 HM
          go_wp2
          go_roundw
          case rel => exact ⟨k + 1, C', by omega, by go_num, HS2.out, HP2.out, HR3.out, HM3.out⟩
          case measure => simp [intOf]; omega
        · obtain ⟨j', rfl⟩ : ∃ j', j = j' + 1 := ⟨j - 1, by omega⟩
          obtain ⟨Q, R', y, x', hys, hQ, hnext⟩ := HI.out.step (by rw [← HA.out]; omega)
          have hx1 : ys[j' + 1]? = some x' := by rw [hys, List.getElem?_append_right (by omega), show j' + 1 - Q.length = 1 by omega]; rfl
          have hy1 : ys[j']? = some y := by rw [hys, List.getElem?_append_right (by omega), show j' - Q.length = 0 by omega]; rfl
          have hW : (C ++ [x]).length = k + 2 := by have := HCL.out; simp; omega
          have hmem : ∀ z ∈ C ++ [x], R z := fun z hz => HRR.out z (List.mem_of_mem_take (i := k + 1 + 1) (by rw [HTK.out]; exact (HPP.out.append_right [x]).mem_iff.1 hz))
          have hRx : R x' := insH_mem HI.out hmem (by have := HA.out; omega) (by have := HA.out; omega) hx1
          have hRy : R y := insH_mem HI.out hmem (by have := HA.out; omega) (by have := HA.out; omega) hy1
          have hcall := HF.out x' y
          obtain ⟨c0, c1, c2, c3, c4⟩ := HRow.out.cells hx1
          obtain ⟨d0, d1, d2, d3, d4⟩ := HRow.out.cells hy1
          have lg : Lt g wr := HRow.out.lt
          have hgt : (pa : Int) < ((j' + 1 : Nat) : Int) := by omega
          have hgt1 : decide (pa < j' + 1) = true := decide_eq_true (by omega)
          have hgt2 : decide (pa ≤ j') = true := decide_eq_true (by omega)
          have hgt3 : decide ((pa : Int) < (j' : Int) + 1) = true := decide_eq_true (by omega)
          have hjn : ((j' + 1 : Nat) : Int) < n := by omega
          have hjn2 : (j' : Int) < n := by omega
          have hjw : IntKind.i64.wrap (((j' + 1 : Nat) : Int) - 1) = j' := by rw [IntKind.wrap_i64]; omega
          have HX1 := Lib.hid hx1
          have HY1 := Lib.hid hy1
          have HCMP := Lib.hid (HC.out x' y hRx hRy)
          have HNX := Lib.hid hnext
          have HYS := Lib.hid hys
          have HQ := Lib.hid hQ
          have HCL2 := Lib.hid (fun W => hcall W hRx hRy)
          clear hx1 hy1 hcall hnext hys hQ hmem
          cases hlc : decide (cm x' y < 0)
          · have hno : ¬ lt x' y := fun h => by have := HCMP.out.1 h; exact absurd this (of_decide_eq_false hlc)
            obtain ⟨C', h1, h2, h3⟩ := HI.out.done T (.inr fun y2 x2 e2 e1 => by
              rw [HX1.out] at e1
              rw [show j' + 1 - 1 = j' by omega, HY1.out] at e2
              cases e1; cases e2; exact hno)
            have hrow' := HRow.out
            rw [h1] at hrow'
            have HR2 := Lib.hid hrow'
            have HS2 := Lib.hid h2
            have HP2 : Hid (C'.Perm (W.take (k + 1 + 1))) := Lib.hid (h3.trans (by rw [HTK.out]; exact HPP.out.append_right [x]))
            clear h1 h2 h3 hrow' hno
            go_wp2_with (fail)
            refine wp_region_later (by kernel_rfl) (by kernel_rfl) ?_; (repeat (go_big_quiet_step (exact calls_later (HCL2.out _)))); refine wpQuiet_nil ?_; intro d
            have hd := later_ext d
            have HR3 := Lib.hid (HR2.out.ext hd)
            have HM3 := Lib.hid (HM.out.tr hd)
            generalize later d = W3 at *
            clear hd HR2 HM HRow c0 c1 c2 c3 c4 d0 d1 d2 d3 d4
            go_wp2
            go_roundw
            case rel => exact ⟨k + 1, C', by omega, by go_num, HS2.out, HP2.out, HR3.out, HM3.out⟩
            case measure => simp [intOf]; omega
          · have hyes : lt x' y := HCMP.out.2 (of_decide_eq_true hlc)
            have HN2 := Lib.hid (HNX.out hyes)
            clear hyes
            go_wp2_with (fail)
            refine wp_region_later (by kernel_rfl) (by kernel_rfl) ?_; (repeat (go_big_quiet_step (exact calls_later (HCL2.out _)))); refine wpQuiet_nil ?_; intro d
            have hd := later_ext d
            have HR3 := Lib.hid (HRow.out.ext hd)
            have HM3 := Lib.hid (HM.out.tr hd)
            generalize later d = W3 at *
            clear hd HM HRow c0 c1 c2 c3 c4 d0 d1 d2 d3 d4
            obtain ⟨c0, c1, c2, c3, c4⟩ := HR3.out.cells HX1.out
            obtain ⟨d0, d1, d2, d3, d4⟩ := HR3.out.cells HY1.out
            obtain ⟨hfz, hgl⟩ := own_frz HR3.out.own
            have f0 := fun i => frozen_of_frz hfz i
            have lg3 : Lt g W3 := hgl
            have hlt2 : j' < j' + 1 := by omega
            have HY3 := Lib.hid (show swp ys (j' + 1) j' x' y = Q ++ x' :: y :: R' by rw [HYS.out, ← HQ.out]; exact swp_prev Q R' y x')
            have hj2 : ((j' + 1 : Nat) : Int) = (j' : Int) + 1 := by omega
            have HJ2 := Lib.hid hj2
            clear hj2
            go_wp2_with (fail)
            go_region
            rw [set5, set5, swW_eq]
            have HR4 := Lib.hid ((HR3.out.swap x' y (i := j' + 1) (j := j') (by rw [HYL.out]; omega) (by rw [HYL.out]; omega)).ext (Ext.dr (Ext.rf _)))
            have HM4 := Lib.hid (Mv.dr (swW_mv (C := fun q => q = g) rfl (j' + 1) j' x' y HM3.out))
            generalize (swW W3 g (j' + 1) j' x' y).drew = W4 at *
            clear c0 c1 c2 c3 c4 d0 d1 d2 d3 d4 f0 hfz HR3 HM3
            have hjw2 : IntKind.i64.wrap (((j' + 1 : Nat) : Int) - 1) = j' := by rw [IntKind.wrap_i64]; omega
            go_wp2
            go_roundw
            case rel => exact ⟨j', _, by first | rfl | go_num, by omega, by omega, HN2.out, by rw [← HY3.out]; exact HR4.out, HM4.out⟩
            case measure => first | (simp [intOf]; done) | (simp [intOf]; omega)
    · have hk1 : W.length ≤ k + 1 := by omega
      have HRow := Lib.hid (show RowH wr g cap (P ++ C ++ S) by rw [List.drop_eq_nil_of_le hk1] at hrow; simpa using hrow)
      have HPP := Lib.hid (show C.Perm W by rw [List.take_of_length_le hk1] at hP; exact hP)
      have hge : ¬ (((pa + 1 + k : Nat) : Int) < pb) := by omega
      clear hrow hP
      go_wp2
      go_end0
      exact ⟨⟨_, rfl⟩, ⟨C, by simpa using HRow.out, hS, HPP.out⟩, hM⟩

end Go.Proofs.Ytedamnocolfmlaa

/- SortStableFunc of less than twenty. -/
namespace Go.Proofs.Ytedamnocolfmlaa
open Go.RowKit

/-- SortStableFunc sorts so many. -/
def SortOk (n : Nat) : Prop := ∀ (R : Ho → Prop) (lt : Ho → Ho → Prop) (cm : Ho → Ho → Int), (∀ x y, R x → R y → (lt x y ↔ cm x y < 0)) → ∀ (g0 : Nat) (lb : Array Value), (∀ args w, (callFunc g0 args).run Try.prog w = .ok (.enter g0 args) w) →
  (∀ x y W, R x → R y → Calls Try.prog g0 (#[.agg #[.int .u32 x.t.a, .int .u32 x.t.b, .int .u16 x.t.c, .int .u16 x.t.d, .int .i64 x.n], .agg #[.int .u32 y.t.a, .int .u32 y.t.b, .int .u16 y.t.c, .int .u16 y.t.d, .int .i64 y.n]] ++ lb) W fun e w' => e = .returned (.int .i64 (cm x y)) ∧ Ext W w') → Tot lt → ∀ (g cap : Nat) (xs : List Ho), (∀ x ∈ xs, R x) → xs.length = n → ∀ w, RowH w g cap xs →
    Calls Try.prog 31 #[.slice (some ⟨g, 0, none⟩) n cap, .func (.func g0) #[] lb] w fun e w' => (∃ v, e = .returned v) ∧ (∃ C, RowH w' g cap C ∧ Srt lt C ∧ C.Perm xs) ∧ Mv (fun q => q = g) w w'
set_option maxRecDepth 100000 in
set_option maxHeartbeats 2000000 in
theorem stable_small (R : Ho → Prop) (lt : Ho → Ho → Prop) (cm : Ho → Ho → Int) (hcm : ∀ x y, R x → R y → (lt x y ↔ cm x y < 0)) (g0 : Nat) (lb : Array Value) (eg : ∀ args w, (callFunc g0 args).run Try.prog w = .ok (.enter g0 args) w)
    (hf : ∀ x y W, R x → R y → Calls Try.prog g0 (#[.agg #[.int .u32 x.t.a, .int .u32 x.t.b, .int .u16 x.t.c, .int .u16 x.t.d, .int .i64 x.n], .agg #[.int .u32 y.t.a, .int .u32 y.t.b, .int .u16 y.t.c, .int .u16 y.t.d, .int .i64 y.n]] ++ lb) W fun e w' => e = .returned (.int .i64 (cm x y)) ∧ Ext W w')
    (T : Tot lt) (g cap : Nat) (xs : List Ho) (hR : ∀ x ∈ xs, R x) (n : Nat) (hn : xs.length = n) (hl : n < 20) (w : World) (hr : RowH w g cap xs) :
    Calls Try.prog 51 #[.slice (some ⟨g, 0, none⟩) n cap, .int .i64 n, .func (.func g0) #[] lb] w fun e w' => (∃ v, e = .returned v) ∧ (∃ C, RowH w' g cap C ∧ Srt lt C ∧ C.Perm xs) ∧ Mv (fun q => q = g) w w' := by
  have H := Lib.hid (fun q (hq : q = (n : Int)) => (show Calls Try.prog 69 #[.slice (some ⟨g, 0, none⟩) n cap, .int .i64 0, .int .i64 q, .func (.func g0) #[] lb] w fun e w' => (∃ v, e = .returned v) ∧ (∃ C, RowH w' g cap C ∧ Srt lt C ∧ C.Perm xs) ∧ Mv (fun q => q = g) w w' from by
    subst hq
    have h := insertion_any R lt cm hcm g0 lb eg hf T g cap [] xs [] hR (by simp; omega) w (by simpa using hr) n 0 n (by simpa using hn.symm) rfl (by simp; exact hn.symm)
    refine h.mono ?_
    rintro e w' ⟨h1, ⟨C, h2, h3, h4⟩, h5⟩
    exact ⟨h1, ⟨C, by simpa using h2, h3, h4⟩, h5⟩))
  have h1 : ¬ ((20 : Int) ≤ n) := by omega
  have h2 : ¬ ((20 : Int) < n) := by omega
  clear hf hcm hR hn hr
  go_enter Try.func51, Try.ntmps51
  go_wp2
  go_loop [7, 8] (fun a b => a = .int .i64 0 ∧ b = .int .i64 20) (fun _ _ => 0)
  case atStart => exact ⟨rfl, rfl⟩
  case round =>
    obtain ⟨rfl, rfl⟩ := hrel
    go_wp2_with (go_at_call 69; go_must (with_reducible refine (H.out _ rfl).mono ?_); rintro e w2 ⟨⟨v, rfl⟩, ⟨C, c1, c2, c3⟩, m2⟩)
    have H1 := Lib.hid c1
    have H2 := Lib.hid c2
    have H3 := Lib.hid c3
    have H4 := Lib.hid m2
    clear c1 c2 c3 m2
    go_loop [6, 7, 8, 9] (fun q _ _ _ => q = .int .i64 20) (fun _ _ _ _ => 0)
    case atStart => rfl
    case round =>
      subst hrel
      go_wp2
      go_end0
      exact ⟨⟨_, rfl⟩, ⟨C, H1.out, H2.out, H3.out⟩, H4.out⟩
set_option maxRecDepth 100000 in
set_option maxHeartbeats 1000000 in
theorem sort_small (n : Nat) (hl : n < 20) : SortOk n := by
  intro R lt cm hcm g0 lb eg hf T g cap xs hR hn w hr
  have H := Lib.hid (stable_small R lt cm hcm g0 lb eg hf T g cap xs hR n hn hl w hr)
  clear hf hcm hR hn hr
  go_enter Try.func31, Try.ntmps31
  go_wp2_with (go_at_call 51; go_must (with_reducible refine (H.out).mono ?_); rintro e w2 ⟨⟨v, rfl⟩, ⟨C, c1, c2, c3⟩, m2⟩)
  go_end0
  exact ⟨⟨_, rfl⟩, ⟨C, c1, c2, c3⟩, m2⟩

end Go.Proofs.Ytedamnocolfmlaa

/- The document's bytes of a number; Go; Turn. -/
namespace Go.Proofs.Ytedamnocolfmlaa
open Go.RowKit

theorem and255 (x : Int) (h0 : 0 ≤ x) (h1 : x < 4294967296) : bits .and .i64 x 255 = x % 256 := by
  have h := bits_mask .i64 32 (by decide) (fun n h0 h1 => by rw [IntKind.wrap_i64]; omega) 8 (by decide) x h0 (by omega)
  have e : ((2 : Int) ^ 8 - 1) = 255 := by decide
  have e2 : ((2 : Int) ^ 8) = 256 := by decide
  rw [e, e2] at h
  exact h
theorem div_lt (x : Int) (h0 : 0 ≤ x) (h1 : x < 4294967296) (k : Int) (hk : 1 ≤ k) : 0 ≤ x / k ∧ x / k < 4294967296 := by
  refine ⟨Int.ediv_nonneg h0 (by omega), ?_⟩
  exact Int.lt_of_le_of_lt (Int.ediv_le_self _ h0) h1
theorem cell_one_new (w : World) (a : Value) (t : TypeId) : ∀ j u, [a][j]? = some u → (w.alloc (.cells #[a] t)).cell? ((⟨w.heap.size, 0, none⟩ : Addr).add j) = some u := by
  intro j u h
  match j, h with
  | 0, h => cases h; simp [go_sem, Addr.add]
set_option maxRecDepth 20000 in
set_option maxHeartbeats 4000000 in
theorem rbytes_any (n : Int) (m : Nat) (hm : m ≤ 4) (h0 : 0 ≤ n) (h1 : n < 4294967296) (w : World) :
    Calls Try.prog 81 #[.int .i64 n, .int .i64 m] w fun e w' => ∃ v, e = .returned v ∧ w'.ownsRow w.heap.size 5 1 v m ((byN n m).map (Value.int .u8)) ∧ Ext w w' := by
  obtain ⟨i0, hi, hz0, hz1, hz2⟩ := info_parts info_U8
  have hwm : IntKind.i64.wrap ((m : Int) - 1) = (m : Int) - 1 := by rw [IntKind.wrap_i64]; omega
  go_enter Try.func81, Try.ntmps81
  go_wp2
  go_loopw [5, 6] (fun v a wr => ∃ q : Nat, q ≤ m ∧ a = .int .i64 ((q : Int) - 1) ∧ wr.ownsRow w.heap.size 5 1 v (m - q) (((byN n m).take (m - q)).map (Value.int .u8)) ∧ Ext w wr) (fun _ a _ => (intOf a + 1).toNat)
  case atStart => exact ⟨m, Nat.le_refl _, rfl, by rw [Nat.sub_self]; exact World.ownsRow_nil _ _ _ _, Ext.rf _⟩
  case round =>
    obtain ⟨q, hq, rfl, ho, hE⟩ := hrel
    by_cases hz : q = 0
    · subst hz
      have HO := Lib.hid ho
      clear ho
      go_wp2
      refine bodyPost_ret (v := u5) (by simp [results, Try.results81, go_sem]) rfl ⟨_, rfl, ?_, hE⟩
      have := HO.out
      rwa [Nat.sub_zero, List.take_of_length_le (by rw [byN_len]; omega)] at this
    · obtain ⟨j, rfl⟩ : ∃ j, q = j + 1 := ⟨q - 1, by omega⟩
      have hb0 : decide ((0 : Int) ≤ ((j + 1 : Nat) : Int) - 1) = true := decide_eq_true (by omega)
      have HT := Lib.hid (byN_take n m j (by omega))
      have HO := Lib.hid ho
      clear ho
      rw [show (((j + 1 : Nat) : Int) - 1) = j by omega] at hb0 ⊢
      have hj : j < 4 := by omega
      obtain rfl | rfl | rfl | rfl : j = 0 ∨ j = 1 ∨ j = 2 ∨ j = 3 := by omega
      · have HV := Lib.hid (show bits .and .i64 n 255 % 256 = n / 256 ^ 0 % 256 by
          rw [and255 _ h0 h1, show (256 : Int) ^ 0 = 1 by decide]; omega)
        go_wp2_with (at_builtin; go_must (refine wpList_append_own _ rfl _ _ 106 rfl w.heap.size 5 i0 (.int .u8 0) 1 1 Try.underlying106 hi hz0 hz1 hz2 rfl (by decide) _ _ _ rfl (HO.out.alloc _) ⟨wr.heap.size, 0, none⟩ 1 1 [.int .u8 (bits .and .i64 n 255 % 256)] rfl rfl (cell_one_new _ _ _) (by intro u hu; simp at hu; subst hu; rfl) (by unfold maxLen; omega) (by omega) (by have := hE.size; simp; omega) ?_); intro v' w3 hown hgrow _; have HN := Lib.hid hown; have HG := Lib.hid hgrow; clear hown hgrow)
        go_roundw
        case rel =>
          refine ⟨0, by omega, by go_num, ?_, Mv.ext_of (Ext.al hE _) (Mv.of_grown (C := fun k => w.heap.size ≤ k) HG.out fun r e => .inl (ownBlock_ge HO.out r e)) (fun k h => h)⟩
          have h := HN.out
          rw [HV.out, show m - (0 + 1) + 1 = m - 0 by omega] at h
          rw [← HT.out, List.map_append]
          exact h
        case measure => first | (simp [intOf]; done) | (simp [intOf]; omega)
      · have HV := Lib.hid (show bits .and .i64 (n / 256) 255 % 256 = n / 256 ^ 1 % 256 by
          rw [and255 _ (div_lt n h0 h1 256 (by omega)).1 (div_lt n h0 h1 256 (by omega)).2, show (256 : Int) ^ 1 = 256 by decide]; omega)
        go_wp2_with (at_builtin; go_must (refine wpList_append_own _ rfl _ _ 106 rfl w.heap.size 5 i0 (.int .u8 0) 1 1 Try.underlying106 hi hz0 hz1 hz2 rfl (by decide) _ _ _ rfl (HO.out.alloc _) ⟨wr.heap.size, 0, none⟩ 1 1 [.int .u8 (bits .and .i64 (n / 256) 255 % 256)] rfl rfl (cell_one_new _ _ _) (by intro u hu; simp at hu; subst hu; rfl) (by unfold maxLen; omega) (by omega) (by have := hE.size; simp; omega) ?_); intro v' w3 hown hgrow _; have HN := Lib.hid hown; have HG := Lib.hid hgrow; clear hown hgrow)
        go_roundw
        case rel =>
          refine ⟨1, by omega, by go_num, ?_, Mv.ext_of (Ext.al hE _) (Mv.of_grown (C := fun k => w.heap.size ≤ k) HG.out fun r e => .inl (ownBlock_ge HO.out r e)) (fun k h => h)⟩
          have h := HN.out
          rw [HV.out, show m - (1 + 1) + 1 = m - 1 by omega] at h
          rw [← HT.out, List.map_append]
          exact h
        case measure => first | (simp [intOf]; done) | (simp [intOf]; omega)
      · have HV := Lib.hid (show bits .and .i64 (n / 65536) 255 % 256 = n / 256 ^ 2 % 256 by
          rw [and255 _ (div_lt n h0 h1 65536 (by omega)).1 (div_lt n h0 h1 65536 (by omega)).2, show (256 : Int) ^ 2 = 65536 by decide]; omega)
        go_wp2_with (at_builtin; go_must (refine wpList_append_own _ rfl _ _ 106 rfl w.heap.size 5 i0 (.int .u8 0) 1 1 Try.underlying106 hi hz0 hz1 hz2 rfl (by decide) _ _ _ rfl (HO.out.alloc _) ⟨wr.heap.size, 0, none⟩ 1 1 [.int .u8 (bits .and .i64 (n / 65536) 255 % 256)] rfl rfl (cell_one_new _ _ _) (by intro u hu; simp at hu; subst hu; rfl) (by unfold maxLen; omega) (by omega) (by have := hE.size; simp; omega) ?_); intro v' w3 hown hgrow _; have HN := Lib.hid hown; have HG := Lib.hid hgrow; clear hown hgrow)
        go_roundw
        case rel =>
          refine ⟨2, by omega, by go_num, ?_, Mv.ext_of (Ext.al hE _) (Mv.of_grown (C := fun k => w.heap.size ≤ k) HG.out fun r e => .inl (ownBlock_ge HO.out r e)) (fun k h => h)⟩
          have h := HN.out
          rw [HV.out, show m - (2 + 1) + 1 = m - 2 by omega] at h
          rw [← HT.out, List.map_append]
          exact h
        case measure => first | (simp [intOf]; done) | (simp [intOf]; omega)
      · have HV := Lib.hid (show bits .and .i64 (n / 16777216) 255 % 256 = n / 256 ^ 3 % 256 by
          rw [and255 _ (div_lt n h0 h1 16777216 (by omega)).1 (div_lt n h0 h1 16777216 (by omega)).2, show (256 : Int) ^ 3 = 16777216 by decide]; omega)
        go_wp2_with (at_builtin; go_must (refine wpList_append_own _ rfl _ _ 106 rfl w.heap.size 5 i0 (.int .u8 0) 1 1 Try.underlying106 hi hz0 hz1 hz2 rfl (by decide) _ _ _ rfl (HO.out.alloc _) ⟨wr.heap.size, 0, none⟩ 1 1 [.int .u8 (bits .and .i64 (n / 16777216) 255 % 256)] rfl rfl (cell_one_new _ _ _) (by intro u hu; simp at hu; subst hu; rfl) (by unfold maxLen; omega) (by omega) (by have := hE.size; simp; omega) ?_); intro v' w3 hown hgrow _; have HN := Lib.hid hown; have HG := Lib.hid hgrow; clear hown hgrow)
        go_roundw
        case rel =>
          refine ⟨3, by omega, by go_num, ?_, Mv.ext_of (Ext.al hE _) (Mv.of_grown (C := fun k => w.heap.size ≤ k) HG.out fun r e => .inl (ownBlock_ge HO.out r e)) (fun k h => h)⟩
          have h := HN.out
          rw [HV.out, show m - (3 + 1) + 1 = m - 3 by omega] at h
          rw [← HT.out, List.map_append]
          exact h
        case measure => first | (simp [intOf]; done) | (simp [intOf]; omega)
set_option maxHeartbeats 1000000 in
theorem rgo_any (s : Int) (bs : List Int) (p : Option Addr) (c : Nat) (w : World) (hb : SlB w p bs) (hl : bs.length ≤ 1000) :
    Calls Try.prog 61 #[.int .u8 s, .slice p bs.length c] w fun e w' => e = .returned (.int .u8 (goL s bs)) ∧ w = w' := by
  go_enter Try.func61, Try.ntmps61
  go_wp2
  go_loopw [0, 5] (fun v a wr => ∃ k : Nat, k ≤ bs.length ∧ a = .int .i64 k ∧ v = .int .u8 (goL s (bs.take k)) ∧ wr = w) (fun _ a _ => bs.length - (intOf a).toNat)
  case atStart => exact ⟨0, Nat.zero_le _, rfl, rfl, rfl⟩
  case round =>
    obtain ⟨k, hk, rfl, rfl, rfl⟩ := hrel
    by_cases hlt : k < bs.length
    · have hil : (k : Int) < bs.length := by omega
      obtain ⟨b, off, rfl, lb, cb⟩ := hb k hlt
      obtain ⟨x, hx⟩ : ∃ x, bs[k] = x := ⟨_, rfl⟩
      have HS := Lib.hid (goL_snoc bs s k hlt)
      rw [hx] at cb HS
      obtain ⟨z, hz⟩ : ∃ z, goL s (bs.take k) = z := ⟨_, rfl⟩
      rw [hz] at HS ⊢
      have hB : 0 ≤ bits BinOp.xor IntKind.u8 z x ∧ bits BinOp.xor IntKind.u8 z x < 256 := xorB_bd z x
      clear hx hz
      go_wp2_with (go_at_call 80; (with_reducible refine (rturn_any (bits BinOp.xor IntKind.u8 z x) _ hB.1 hB.2).mono ?_); rintro e w1 ⟨rfl, rfl⟩)
      go_roundw
      case rel => exact ⟨k + 1, by omega, by go_num, by rw [HS.out]; rfl, trivial⟩
      case measure => simp [intOf]; omega
    · have hil : ¬ ((k : Int) < bs.length) := by omega
      have HK := Lib.hid (show bs.take k = bs by rw [List.take_of_length_le (by omega)])
      go_wp2
      exact bodyPost_ret (v := .int .u8 (goL s (bs.take k))) (by simp [results, Try.results61, go_sem]) rfl ⟨by rw [HK.out], rfl⟩

end Go.Proofs.Ytedamnocolfmlaa

/- A region that draws, whose operations turn blocks of C alone: what reads is taken first, calls and appends come in whatever order. (My own law; any program.) -/
namespace Go.Proofs.Ytedamnocolfmlaa
open Go.RowKit
section
variable {P : Program} {ops : Array Oper} {md : Region.Mode} {C : Nat → Prop}
def xUponK (P : Program) (N : Value → World → Prop) : Result Next → Prop
  | .ok (.value u) w' => N u w'
  | .ok .skip w' => N undef w'
  | .ok (.enter f args) w' => Calls P f args w' (fun e w'' => ∃ v, e = .returned v ∧ N v w'')
  | _ => False
theorem xUponK_mono {N N' : Value → World → Prop} (h : ∀ v w, N v w → N' v w) : ∀ r : Result Next, xUponK P N r → xUponK P N' r
  | .ok (.value u) w', hh => h _ _ hh
  | .ok .skip w', hh => h _ _ hh
  | .ok (.enter f args) w', hh => Calls.mono hh fun e w'' ⟨v, h1, h2⟩ => ⟨v, h1, h _ _ h2⟩
def xOpK (P : Program) (ops : Array Oper) (i : Nat) (K : Act → World → Prop) (a : Act) (w : World) : Prop :=
  match ops[i]? with
  | none => K a w
  | some o => if Region.wanted o (yielded ops a.tmps) = true then xUponK P (fun v w' => K (a.put o.dst v) w') ((execOp a.eval o).run P w) else K (a.put o.dst undef) w
theorem xOpK_mono {i : Nat} {a : Act} {w : World} {K K' : Act → World → Prop} (h : ∀ a w, K a w → K' a w) (hh : xOpK P ops i K a w) : xOpK P ops i K' a w := by
  unfold xOpK at *
  split
  · exact h _ _ (by simpa [*] using hh)
  · rename_i o ho
    simp only [ho] at hh
    split
    · rename_i hw; simp only [hw, if_true] at hh; exact xUponK_mono (fun v w' h1 => h _ _ h1) _ hh
    · rename_i hw; simp only [hw] at hh; exact h _ _ hh
theorem wpOp_of_xOpK {i : Nat} {a : Act} {w : World} {K : Act → World → Prop} {Q : Exit → Act → World → Prop} (hh : xOpK P ops i K a w) : wpOp P ops Q i K a w := by
  unfold xOpK at hh
  unfold wpOp
  split
  · rename_i ho; simp only [ho] at hh; exact hh
  · rename_i o ho
    simp only [ho] at hh
    split
    · rename_i hw
      simp only [hw, if_true] at hh
      left
      unfold Oper.wp
      generalize (execOp a.eval o).run P w = r at *
      cases r with
      | ok n w' =>
        cases n <;> simp only [xUponK] at hh <;> simp only [Oper.upon]
        case value u => exact hh
        case skip => exact hh
        case enter f args => exact hh.mono fun e w'' ⟨v, he, hw''⟩ => by subst he; exact hw''
      | halt x w' => simp only [xUponK] at hh
    · rename_i hw; simp only [hw] at hh; exact hh
/-- Whatever order is picked from here on; each operation makes new blocks alone. -/
def wpAnyK (C : Nat → Prop) (P : Program) (md : Region.Mode) (ops : Array Oper) (Q : Act → World → Prop) : Nat → Array Bool → Act → World → Prop
  | 0, listed, a, w => Region.ready md ops listed = [] ∧ Q a w
  | fuel + 1, listed, a, w => (Region.ready md ops listed = [] → Q a w) ∧
    ∀ i ∈ Region.ready md ops listed, xOpK P ops i (fun a' w' => Mv C w w' ∧ wpAnyK C P md ops Q fuel (listed.setIfInBounds i true) a' w') a w
theorem wpAny_of_K {Q : Act → World → Prop} {Q' : Exit → Act → World → Prop} (hQ : ∀ a w, Q a w → Q' .normal a w) : ∀ (fuel : Nat) (listed : Array Bool) (a : Act) (w : World),
    wpAnyK C P md ops Q fuel listed a w → wpAny P md ops Q' fuel listed a w
  | 0, _, _, _, h => ⟨h.1, hQ _ _ h.2⟩
  | fuel + 1, _, _, _, h => ⟨fun h0 => hQ _ _ (h.1 h0), fun i hi => wpOp_of_xOpK (xOpK_mono (fun a' w' h1 => wpAny_of_K hQ fuel _ a' w' h1.2) (h.2 i hi))⟩
/-- In state 'a', in every world that w grows to, 'o' yields v and does nothing else. -/
def YieldsK (C : Nat → Prop) (P : Program) (ops : Array Oper) (w : World) (o : Oper) (v : Value) (a : Act) : Prop :=
  (Region.wanted o (yielded ops a.tmps) = true ∧ ∀ w', Mv C w w' → (execOp a.eval o).run P w' = .ok (.value v) w') ∨ (Region.wanted o (yielded ops a.tmps) = false ∧ v = undef) ∨
    (Region.wanted o (yielded ops a.tmps) = true ∧ ∃ f args, ∀ w', Mv C w w' → (execOp a.eval o).run P w' = .ok (.enter f args) w' ∧ Calls P f args w' fun e w'' => e = .returned v ∧ w'' = w')
theorem YieldsK.later {w w' : World} {o : Oper} {v : Value} {a : Act} (h : YieldsK C P ops w o v a) (e : Mv C w w') : YieldsK C P ops w' o v a := by
  rcases h with ⟨h1, h2⟩ | h | ⟨h1, f, args, h2⟩
  · exact .inl ⟨h1, fun w2 e2 => h2 w2 (e.trans e2)⟩
  · exact .inr (.inl h)
  · exact .inr (.inr ⟨h1, f, args, fun w2 e2 => h2 w2 (e.trans e2)⟩)
theorem YieldsK.xOpK {w : World} {i : Nat} {o : Oper} {v : Value} {a : Act} (hi : ops[i]? = some o) (hy : YieldsK C P ops w o v a) {K : Act → World → Prop} (h : K (a.put o.dst v) w) : xOpK P ops i K a w := by
  unfold Go.Proofs.Ytedamnocolfmlaa.xOpK
  simp only [hi]
  rcases hy with ⟨hw, hv⟩ | ⟨hw, rfl⟩ | ⟨hw, f, args, hv⟩
  · simp only [hw, if_true, hv w (Mv.refl _ _), xUponK]; exact h
  · simp only [hw, Bool.false_eq_true, if_false]; exact h
  · simp only [hw, if_true, (hv w (Mv.refl _ _)).1, xUponK]
    exact (hv w (Mv.refl _ _)).2.mono fun e w'' ⟨h1, h2⟩ => ⟨v, h1, by rw [h2]; exact h⟩
theorem xOpK_put {j : Nat} {oi oj : Oper} {v : Value} {w : World} (hj : ops[j]? = some oj) (hap : oi.apart ops oj = true)
    (hsi : ∀ cs b, oi.op ≠ .select cs b) (hsj : ∀ cs b, oj.op ≠ .select cs b) {K : Act → World → Prop} {a : Act}
    (hy : YieldsK C P ops w oi v a) (h : xOpK P ops j K (a.put oi.dst v) w) :
    xOpK P ops j (fun a' w' => YieldsK C P ops w oi v a' ∧ K (a'.put oi.dst v) w') a w := by
  obtain ⟨h1, h2, h3⟩ := Oper.apart_spec hap
  have keep : ∀ u, YieldsK C P ops w oi v (a.put oj.dst u) := fun u => by
    unfold YieldsK at *
    rw [execOp_put oi hsi a oj.dst u h3, wanted_put oi a oj.dst u h3]
    exact hy
  unfold xOpK at *
  simp only [hj] at *
  rw [wanted_put oj a oi.dst v h1] at h
  split
  · rename_i hw
    simp only [hw, if_true] at h
    rw [execOp_put oj hsj a oi.dst v h1] at h
    exact xUponK_mono (fun u w' h4 => ⟨keep u, by rw [← Act.put_comm a v u h2]; exact h4⟩) _ h
  · rename_i hw
    simp only [hw] at h
    exact ⟨keep _, by rw [← Act.put_comm a v undef h2]; exact h⟩
/-- What reads may be taken first. -/
theorem wpAnyK_first {Q : Act → World → Prop} {i : Nat} {oi : Oper} {v : Value} (hi : ops[i]? = some oi) (hsel : ∀ (j : Nat) (o : Oper) cs b, ops[j]? = some o → o.op ≠ .select cs b) :
    ∀ (fuel : Nat) (listed : Array Bool) (a : Act) (w : World),
      (∀ j oj, ops[j]? = some oj → j ≠ i → listed.getD j true = false → (∀ e ∈ oj.after, Region.binds md e = true → e.on ≠ i) → oi.apart ops oj = true) →
      i ∈ Region.ready md ops listed → YieldsK C P ops w oi v a →
      wpAnyK C P md ops Q fuel (listed.setIfInBounds i true) (a.put oi.dst v) w → wpAnyK C P md ops Q (fuel + 1) listed a w := by
  intro fuel
  induction fuel with
  | zero =>
    intro listed a w _ hr hy H
    refine ⟨fun h => (by rw [h] at hr; cases hr), fun j hj => ?_⟩
    by_cases hji : j = i
    · subst hji; exact hy.xOpK hi ⟨Mv.refl _ _, H⟩
    · have := ready_mono hj hji
      rw [H.1] at this
      cases this
  | succ fuel ih =>
    intro listed a w hfree hr hy H
    refine ⟨fun h => (by rw [h] at hr; cases hr), fun j hj => ?_⟩
    by_cases hji : j = i
    · subst hji; exact hy.xOpK hi ⟨Mv.refl _ _, H⟩
    · have h1 := H.2 j (ready_mono hj hji)
      obtain ⟨hjun, oj, hoj, hall⟩ := mem_ready.1 hj
      have hnot : ∀ e ∈ oj.after, Region.binds md e = true → e.on ≠ i := fun e he hb heq => by
        have h1 := hall e he hb
        have h0 := (mem_ready.1 hr).1
        rw [heq] at h1
        rcases Nat.lt_or_ge i listed.size with h' | h'
        · simp [h'] at h0 h1; rw [h0] at h1; cases h1
        · simp [Array.getElem?_eq_none h'] at h1
      have h2 := xOpK_put hoj (hfree j oj hoj hji hjun hnot) (fun cs b => hsel i oi cs b hi) (fun cs b => hsel j oj cs b hoj) hy h1
      have hfree' : ∀ k ok, ops[k]? = some ok → k ≠ i → (listed.setIfInBounds j true).getD k true = false →
          (∀ e ∈ ok.after, Region.binds md e = true → e.on ≠ i) → oi.apart ops ok = true := fun k ok hk hki hun hno => by
        refine hfree k ok hk hki ?_ hno
        by_cases hjk : j = k
        · subst hjk; exact hjun
        · rw [getD_set_ne true hjk] at hun; exact hun
      refine xOpK_mono (fun a' w' h3 => ⟨h3.2.1, ih (listed.setIfInBounds j true) a' w' hfree' (ready_mono hr (Ne.symm hji)) (h3.1.later h3.2.1) ?_⟩) h2
      have h4 := h3.2.2
      rw [Array.setIfInBounds_comm _ _ hji]
      exact h4
theorem takeK {Q : Act → World → Prop} {i : Nat} {oi : Oper} {v : Value} {fuel : Nat} {listed : Array Bool} {a : Act} {w : World} (hi : ops[i]? = some oi) (hs : Region.noSelect ops = true)
    (hf : Region.free md ops listed i = true) (hr : (Region.ready md ops listed).contains i = true) (hw : Region.wanted oi (yielded ops a.tmps) = true)
    (hy : ∀ w', Mv C w w' → (execOp a.eval oi).run P w' = .ok (.value v) w')
    (H : wpAnyK C P md ops Q fuel (listed.setIfInBounds i true) (a.put oi.dst v) w) : wpAnyK C P md ops Q (fuel + 1) listed a w :=
  wpAnyK_first hi (Region.noSelect_spec hs) fuel listed a w (Region.free_spec hi hf) (by simpa using hr) (.inl ⟨hw, hy⟩) H
theorem doneK {Q : Act → World → Prop} {fuel : Nat} {listed : Array Bool} {a : Act} {w : World} (hr : Region.ready md ops listed = []) (H : Q a w) : wpAnyK C P md ops Q fuel listed a w := by
  cases fuel with
  | zero => exact ⟨hr, H⟩
  | succ n => exact ⟨fun _ => H, fun i hi => by rw [hr] at hi; cases hi⟩
theorem wp_region_K {id : Nat} {Q : Exit → Act → World → Prop} {a : Act} {w : World} (C : Nat → Prop) (hm : P.follows .mixedOrders = true)
    (h : wpAnyK C P .any ops (fun a w => Q .normal a w) ops.size (Array.replicate ops.size false) a w.drew) : (Code.region id ops true).wp P Q a w :=
  wp_region_any hm (wpAny_of_K (fun _ _ h => h) _ _ _ _ h)
/-- Those of l are done. -/
def don (n : Nat) (l : List Nat) : Array Bool := ((List.range n).map fun j => l.contains j).toArray
theorem don_set (n k : Nat) (l : List Nat) : (don n l).setIfInBounds k true = don n (k :: l) := by
  unfold don
  refine Array.ext_getElem? fun i => ?_
  rw [Array.getElem?_setIfInBounds]
  by_cases hi : i < n
  · by_cases h : k = i
    · subst h; simp [hi]
    · have h' : ¬ i = k := fun e => h e.symm
      simp [h, h', hi]
  · by_cases h : k = i
    · subst h; simp [hi]
    · simp [h, hi]
theorem don_zero (n : Nat) : Array.replicate n false = don n [] := by
  unfold don
  refine Array.ext_getElem? fun i => ?_
  by_cases hi : i < n <;> simp [hi, Array.getElem?_replicate]
/-- These may be taken one behind the other. -/
def takesB (ops : Array Oper) (n : Nat) : List Nat → List Nat → Bool
  | [], _ => true
  | k :: rest, d => Region.free .any ops (don n d) k && upX ops (don n d) k && takesB ops n rest (k :: d)
theorem takeD {Q : Act → World → Prop} {N k : Nat} {d rest : List Nat} {oi : Oper} {v : Value} {fuel : Nat} {a : Act} {w : World} (hs : Region.noSelect ops = true) (ht : takesB ops N (k :: rest) d = true)
    (hi : ops[k]? = some oi) (hw : Region.wanted oi (yielded ops a.tmps) = true) (hy : ∀ w', Mv C w w' → (execOp a.eval oi).run P w' = .ok (.value v) w')
    (H : takesB ops N rest (k :: d) = true → wpAnyK C P .any ops Q fuel (don N (k :: d)) (a.put oi.dst v) w) : wpAnyK C P .any ops Q (fuel + 1) (don N d) a w := by
  unfold takesB at ht
  simp only [Bool.and_eq_true] at ht
  obtain ⟨⟨t1, t2⟩, t5⟩ := ht
  refine takeK hi hs t1 (upX_ready t2) hw hy ?_
  rw [don_set]
  exact H t5
/-- One operation, and then the others. -/
def stepK (C : Nat → Prop) (P : Program) (ops : Array Oper) (Q : Act → World → Prop) (fuel N k : Nat) (d : List Nat) (a : Act) (w : World) : Prop :=
  xOpK P ops k (fun a' w' => Mv C w w' ∧ wpAnyK C P .any ops Q fuel (don N (k :: d)) a' w') a w
theorem soleD {Q : Act → World → Prop} {N k : Nat} {d : List Nat} {fuel : Nat} {a : Act} {w : World} (hr : Region.ready .any ops (don N d) = [k]) (H : stepK C P ops Q fuel N k d a w) : wpAnyK C P .any ops Q (fuel + 1) (don N d) a w := by
  refine ⟨fun h0 => ?_, fun j hj => ?_⟩
  · rw [hr] at h0; cases h0
  · rw [hr] at hj
    obtain rfl : j = k := by simpa using hj
    rw [don_set]
    exact H
theorem forkD {Q : Act → World → Prop} {N i j : Nat} {d : List Nat} {fuel : Nat} {a : Act} {w : World} (hr : Region.ready .any ops (don N d) = [i, j]) (Hi : stepK C P ops Q fuel N i d a w) (Hj : stepK C P ops Q fuel N j d a w) : wpAnyK C P .any ops Q (fuel + 1) (don N d) a w := by
  refine ⟨fun h0 => ?_, fun k hk => ?_⟩
  · rw [hr] at h0; cases h0
  · rw [hr] at hk
    have hk' : k = i ∨ k = j := by simpa using hk
    rw [don_set]
    rcases hk' with rfl | rfl
    · exact Hi
    · exact Hj
theorem makeD {Q : Act → World → Prop} {N k : Nat} {d : List Nat} {oi : Oper} {v : Value} {fuel : Nat} {a : Act} {w w1 : World} (hi : ops[k]? = some oi) (hw : Region.wanted oi (yielded ops a.tmps) = true)
    (he : (execOp a.eval oi).run P w = .ok (.value v) w1) (hE : Mv C w w1) (H : wpAnyK C P .any ops Q fuel (don N (k :: d)) (a.put oi.dst v) w1) : stepK C P ops Q fuel N k d a w := by
  unfold stepK xOpK
  simp only [hi, hw, if_true, he]
  exact ⟨hE, H⟩
theorem callD {R : Value → World → Prop} {Q : Act → World → Prop} {N k : Nat} {d : List Nat} {oi : Oper} {f : FuncId} {args : Array Value} {fuel : Nat} {a : Act} {w : World} (hi : ops[k]? = some oi) (hw : Region.wanted oi (yielded ops a.tmps) = true)
    (he : (execOp a.eval oi).run P w = .ok (.enter f args) w) (hc : Calls P f args w fun e w' => ∃ v, e = .returned v ∧ R v w' ∧ Ext w w')
    (H : ∀ v w', Ext w w' → R v w' → wpAnyK C P .any ops Q fuel (don N (k :: d)) (a.put oi.dst v) w') : stepK C P ops Q fuel N k d a w := by
  unfold stepK xOpK
  simp only [hi, hw, if_true, he]
  exact hc.mono fun e w' ⟨v, h1, h2, h3⟩ => ⟨v, h1, Mv.of_ext h3, H v w' h3 h2⟩
theorem withK {P : Program} {ops E : Array Oper} {Q : Act → World → Prop} {N : Nat} {a : Act} {w : World} {R : Array Oper → Prop} (h : ops = E) (hR : R E) (hf : ops.size = N)
    (H : R ops → wpAnyK C P .any ops Q N (don N []) a w) : wpAnyK C P .any ops Q ops.size (Array.replicate ops.size false) a w := by
  rw [hf, don_zero]; exact H (h ▸ hR)
end

end Go.Proofs.Ytedamnocolfmlaa

/- The document's bytes of a tuple: rows that are put together. -/
namespace Go.Proofs.Ytedamnocolfmlaa
open Go.RowKit

def OB (w : World) (base : Nat) (v : Value) (bs : List Int) : Prop := w.ownsRow base 5 1 v bs.length (bs.map (Value.int .u8))
theorem OB.ext {w w' : World} {base : Nat} {v : Value} {bs : List Int} (h : OB w base v bs) (e : Ext w w') : OB w' base v bs := own_ext h e
theorem OB.le {w : World} {base b' : Nat} {v : Value} {bs : List Int} (h : OB w base v bs) (e : b' ≤ base) : OB w b' v bs := ownsRow_le h e
theorem OB.cells {w : World} {base : Nat} {v : Value} {bs : List Int} (h : OB w base v bs) (hn : 0 < bs.length) : ∃ g c, v = .slice (some ⟨g, 0, none⟩) bs.length c ∧ base ≤ g ∧ g < w.heap.size ∧ ∀ j u, (bs.map (Value.int .u8))[j]? = some u → w.cell? ⟨g, j, none⟩ = some u := by
  rcases h.2 with ⟨rfl, h0⟩ | ⟨g, cap, cur, rfl, hg, hgb, h1, h2, h3, h4⟩
  · omega
  · refine ⟨g, cap, rfl, hg, (Array.getElem?_eq_some_iff.1 hgb).1, fun j u hu => ?_⟩
    rw [← h4] at hu
    rw [cell_rowD]
    unfold rowD
    rw [hgb]
    obtain ⟨hj, -⟩ := List.getElem?_eq_some_iff.1 hu
    rw [List.length_take] at hj
    rw [List.getElem?_take, if_pos (by omega), Array.getElem?_toList] at hu
    exact hu
theorem OB.sl {w : World} {base : Nat} {v : Value} {bs : List Int} (h : OB w base v bs) (hn : 0 < bs.length) : ∃ p c, v = .slice p bs.length c ∧ SlB w p bs := by
  obtain ⟨g, c, rfl, h1, h2, h3⟩ := h.cells hn
  refine ⟨_, c, rfl, fun k hk => ⟨g, 0, rfl, h2, ?_⟩⟩
  rw [Nat.zero_add]
  refine h3 k _ ?_
  rw [List.getElem?_map, List.getElem?_eq_getElem hk]
  rfl
theorem app_OB {w : World} {base : Nat} {v1 v2 : Value} {b1 b2 : List Int} {base2 : Nat} (h1 : OB w base v1 b1) (h2 : OB w base2 v2 b2) (hp : 0 < b2.length) (hl : b1.length + b2.length ≤ 1000) (hb : base ≤ w.heap.size)
    (ρ : Operand → Value) (dst : Option Tmp) (x y : Operand) (ty : TypeId) (pos : String) (after : Array Edge) (g : Option (Nat × Bool)) (hx : ρ x = v1) (hy : ρ y = v2) :
    ∃ v' w', (execOp ρ ⟨dst, .call { callee := .builtin .append, args := #[x, y], argTypes := #[106, 106] }, ty, pos, after, g⟩).run Try.prog w = .ok (.value v') w' ∧ OB w' base v' (b1 ++ b2) ∧ w.grownBy w' v1.ownBlock := by
  obtain ⟨i0, hi, hz0, hz, hz2⟩ := info_parts info_U8
  obtain ⟨gg, c, rfl, h3, h4, h5⟩ := h2.cells hp
  obtain ⟨v', w', hr, ho, hg, -, -⟩ := run_append_own_at (P := Try.prog) w base 106 ty 5 i0 (.int .u8 0) 1 1 Try.underlying106 hi hz0 hz hz2 rfl (by decide) v1 b1.length _ h1 ⟨gg, 0, none⟩ b2.length c (b2.map (Value.int .u8)) (by simp) (fun j u hu => by
    have := h5 j u hu
    by_cases hj : j = 0 <;> simp_all [Addr.add]) (by intro u hu; obtain ⟨z, -, rfl⟩ := List.mem_map.1 hu; rfl) (by unfold maxLen; omega) (by omega) hb
  refine ⟨v', w', ?_, ?_, hg⟩
  · simp [execOp, resolve, invoke, builtin, hx, hy, hr, Result.andThen]
  · unfold OB
    rw [List.length_append, List.map_append]
    exact ho
theorem grown_mv {w w' : World} {base : Nat} {v : Value} {bs : List Int} (h : OB w base v bs) (hg : w.grownBy w' v.ownBlock) : Mv (fun k => base ≤ k) w w' := Mv.of_grown hg fun r e => .inl (ownBlock_ge h r e)
theorem OB.keep {w w' : World} {base b2 : Nat} {v u : Value} {bs cs : List Int} (h : OB w base v bs) (hg : w.grownBy w' v.ownBlock) (h2 : OB w b2 u cs) (hn : ∀ g, v.ownBlock = some g → g < b2) : OB w' b2 u cs :=
  own_keep h2 hg fun g hu hv => by
    have a1 := ownBlock_ge h2 g hu
    have a2 := hn g hv
    omega
theorem appD {ops : Array Oper} {Q : Act → World → Prop} {N k : Nat} {d : List Nat} {dst : Option Tmp} {x y : Operand} {ty : TypeId} {pos : String} {after : Array Edge} {fuel : Nat} {a : Act} {w : World} {base base2 : Nat} {v1 v2 : Value} {b1 b2 : List Int}
    (hi : ops[k]? = some ⟨dst, .call { callee := .builtin .append, args := #[x, y], argTypes := #[106, 106] }, ty, pos, after, none⟩) (hx : a.eval x = v1) (hy : a.eval y = v2) (h1 : OB w base v1 b1) (h2 : OB w base2 v2 b2) (hp : 0 < b2.length) (hl : b1.length + b2.length ≤ 1000) (hb : base ≤ w.heap.size)
    (H : ∀ v' w', Mv (fun k => base ≤ k) w w' → OB w' base v' (b1 ++ b2) → wpAnyK (fun k => base ≤ k) Try.prog .any ops Q fuel (don N (k :: d)) (a.put dst v') w') : stepK (fun k => base ≤ k) Try.prog ops Q fuel N k d a w := by
  obtain ⟨v', w', hr, ho, hg⟩ := app_OB h1 h2 hp hl hb a.eval dst x y ty pos after none hx hy
  exact makeD hi rfl hr (grown_mv h1 hg) (H v' w' (grown_mv h1 hg) ho)

end Go.Proofs.Ytedamnocolfmlaa

/- The document's bytes of a tuple. -/
namespace Go.Proofs.Ytedamnocolfmlaa
open Go.RowKit

def SchQ1 (ops : Array Oper) : Prop := Region.noSelect ops = true ∧ takesB ops 10 [0, 1, 2, 4, 5, 6] [] = true ∧ Region.ready .any ops (don 10 [6, 5, 4, 2, 1, 0]) = [3] ∧ Region.ready .any ops (don 10 [3, 6, 5, 4, 2, 1, 0]) = [7] ∧ Region.ready .any ops (don 10 [7, 3, 6, 5, 4, 2, 1, 0]) = [8] ∧ Region.ready .any ops (don 10 [8, 7, 3, 6, 5, 4, 2, 1, 0]) = [9] ∧ Region.ready .any ops (don 10 [9, 8, 7, 3, 6, 5, 4, 2, 1, 0]) = []
theorem schSchQ1 : SchQ1 ((Try.f62.body.bind (findR 1)).getD #[]) := ⟨by kernel_rfl, by kernel_rfl, by kernel_rfl, by kernel_rfl, by kernel_rfl, by kernel_rfl, by kernel_rfl⟩

def SchQ2 (ops : Array Oper) : Prop := Region.noSelect ops = true ∧ takesB ops 12 [0, 1, 2, 3, 6, 7, 8] [] = true ∧ Region.ready .any ops (don 12 [8, 7, 6, 3, 2, 1, 0]) = [4] ∧ Region.ready .any ops (don 12 [4, 8, 7, 6, 3, 2, 1, 0]) = [5] ∧ Region.ready .any ops (don 12 [5, 4, 8, 7, 6, 3, 2, 1, 0]) = [9] ∧ Region.ready .any ops (don 12 [9, 5, 4, 8, 7, 6, 3, 2, 1, 0]) = [10] ∧ Region.ready .any ops (don 12 [10, 9, 5, 4, 8, 7, 6, 3, 2, 1, 0]) = [11] ∧ Region.ready .any ops (don 12 [11, 10, 9, 5, 4, 8, 7, 6, 3, 2, 1, 0]) = []
theorem schSchQ2 : SchQ2 ((Try.f62.body.bind (findR 2)).getD #[]) := ⟨by kernel_rfl, by kernel_rfl, by kernel_rfl, by kernel_rfl, by kernel_rfl, by kernel_rfl, by kernel_rfl, by kernel_rfl⟩

theorem loadK {C : Nat → Prop} {w : World} {B k : Nat} {n : Int} {kd : IntKind} (h0 : w.cell? ⟨B, k, none⟩ = some (.int kd n)) (hl : Lt B w) (hC : ¬ C B) (ρ : Operand → Value) (o : Oper)
    (hr : ∀ w' : World, w'.cell? ⟨B, k, none⟩ = some (.int kd n) → (execOp ρ o).run Try.prog w' = .ok (.value (.int kd n)) w') : ∀ w', Mv C w w' → (execOp ρ o).run Try.prog w' = .ok (.value (.int kd n)) w' := by
  intro w' hE
  exact hr w' (by rw [cell_rowD, rowD_same (hE.same B hl hC), ← cell_rowD]; exact h0)
theorem ld32_run {w : World} {B k : Nat} {n : Int} (h0 : w.cell? ⟨B, k, none⟩ = some (.int .u32 n)) (ρ : Operand → Value) (dst : Option Tmp) (x : Operand) (ty : TypeId) (pos : String) (after : Array Edge) (g : Option (Nat × Bool)) (hx : ρ x = .pointer (some ⟨B, k, none⟩)) :
    (execOp ρ ⟨dst, .load 62 x, ty, pos, after, g⟩).run Try.prog w = .ok (.value (.int .u32 n)) w := by
  simp only [execOp, hx]
  go_simp
theorem ld16_run {w : World} {B k : Nat} {n : Int} (h0 : w.cell? ⟨B, k, none⟩ = some (.int .u16 n)) (ρ : Operand → Value) (dst : Option Tmp) (x : Operand) (ty : TypeId) (pos : String) (after : Array Edge) (g : Option (Nat × Bool)) (hx : ρ x = .pointer (some ⟨B, k, none⟩)) :
    (execOp ρ ⟨dst, .load 63 x, ty, pos, after, g⟩).run Try.prog w = .ok (.value (.int .u16 n)) w := by
  simp only [execOp, hx]
  go_simp
theorem cv32_run {n : Int} (hn : IntKind.i64.wrap n = n) (ρ : Operand → Value) (dst : Option Tmp) (x : Operand) (ty : TypeId) (pos : String) (after : Array Edge) (g : Option (Nat × Bool)) (hx : ρ x = .int .u32 n) (w : World) :
    (execOp ρ ⟨dst, .convert 62 3 x, ty, pos, after, g⟩).run Try.prog w = .ok (.value (.int .i64 n)) w := by
  simp only [execOp, hx]
  go_simp
  try simp [hn]
theorem cv16_run {n : Int} (hn : IntKind.i64.wrap n = n) (ρ : Operand → Value) (dst : Option Tmp) (x : Operand) (ty : TypeId) (pos : String) (after : Array Edge) (g : Option (Nat × Bool)) (hx : ρ x = .int .u16 n) (w : World) :
    (execOp ρ ⟨dst, .convert 63 3 x, ty, pos, after, g⟩).run Try.prog w = .ok (.value (.int .i64 n)) w := by
  simp only [execOp, hx]
  go_simp
  try simp [hn]
theorem rb_any (n : Int) (m : Nat) (hm : m ≤ 4) (h0 : 0 ≤ n) (h1 : n < 4294967296) (w : World) :
    Calls Try.prog 81 #[.int .i64 n, .int .i64 m] w fun e w' => ∃ v, e = .returned v ∧ OB w' w.heap.size v (byN n m) ∧ Ext w w' :=
  (rbytes_any n m hm h0 h1 w).mono fun e w' ⟨v, h1, h2, h3⟩ => ⟨v, h1, by unfold OB; rw [byN_len]; exact h2, h3⟩

set_option maxRecDepth 100000 in
set_option maxHeartbeats 8000000 in
theorem rBytes_any (t : Tu) (hr : TuR t) (w : World) :
    Calls Try.prog 62 #[tu t.a t.b t.c t.d] w fun e w' => ∃ v, e = .returned v ∧ OB w' w.heap.size v (tb t) ∧ Ext w w' := by
  obtain ⟨⟨a0, a1⟩, ⟨b0, b1⟩, ⟨c0, c1⟩, ⟨d0, d1⟩⟩ := hr
  have wa : IntKind.i64.wrap t.a = t.a := by rw [IntKind.wrap_i64]; omega
  have wb : IntKind.i64.wrap t.b = t.b := by rw [IntKind.wrap_i64]; omega
  have wc : IntKind.i64.wrap t.c = t.c := by rw [IntKind.wrap_i64]; omega
  have wd : IntKind.i64.wrap t.d = t.d := by rw [IntKind.wrap_i64]; omega
  go_enter Try.func62, Try.ntmps62
  go_upto_region 1 with (fail)
  obtain ⟨W0, hW⟩ : ∃ W0, w.alloc (.cells #[.int .u32 t.a, .int .u32 t.b, .int .u16 t.c, .int .u16 t.d] 65) = W0 := ⟨_, rfl⟩
  have g0 : Ext w W0 := by rw [← hW]; exact Ext.al (Ext.rf _) _
  have x0 : W0.cell? ⟨w.heap.size, 0, none⟩ = some (.int .u32 t.a) := by rw [← hW]; simp [go_sem]
  have x1 : W0.cell? ⟨w.heap.size, 1, none⟩ = some (.int .u32 t.b) := by rw [← hW]; simp [go_sem]
  have x2 : W0.cell? ⟨w.heap.size, 2, none⟩ = some (.int .u16 t.c) := by rw [← hW]; simp [go_sem]
  have x3 : W0.cell? ⟨w.heap.size, 3, none⟩ = some (.int .u16 t.d) := by rw [← hW]; simp [go_sem]
  have hsz : W0.heap.size = w.heap.size + 1 := by rw [← hW]; simp
  have lB : Lt w.heap.size W0 := by unfold Lt; omega
  rw [hW]
  clear hW
  refine wp_region_K (fun k => W0.heap.size ≤ k) (by kernel_rfl) ?_
  obtain ⟨W1, hW1⟩ : ∃ W1, W0.drew = W1 := ⟨_, rfl⟩
  have g1 : Ext W0 W1 := by rw [← hW1]; exact Ext.dr (Ext.rf _)
  rw [hW1]
  clear hW1
  have hnC : ¬ (W0.heap.size ≤ w.heap.size) := by omega
  have y0 := (g1.cell (p := ⟨w.heap.size, 0, none⟩) lB).trans x0
  have y1 := (g1.cell (p := ⟨w.heap.size, 1, none⟩) lB).trans x1
  have lB1 : Lt w.heap.size W1 := Nat.lt_of_lt_of_le lB g1.size
  refine withK (N := 10) (R := SchQ1) (E := ((Try.f62.body.bind (findR 1)).getD #[])) (by kernel_rfl) schSchQ1 (by kernel_rfl) fun hS => ?_
  have hT := hS.2.1
  refine takeD (N := 10) (k := 0) (v := .pointer (some ⟨w.heap.size, 0, none⟩)) hS.1 hT rfl (by kernel_rfl) (fun _ _ => by kernel_rfl) fun hT => ?_
  refine takeD (N := 10) (k := 1) (v := .int .u32 t.a) hS.1 hT rfl (by kernel_rfl) (loadK y0 lB1 hnC _ _ fun w' h => ld32_run h _ _ _ _ _ _ _ (by kernel_rfl)) fun hT => ?_
  refine takeD (N := 10) (k := 2) (v := .int .i64 t.a) hS.1 hT rfl (by kernel_rfl) (fun w' _ => cv32_run wa _ _ _ _ _ _ _ (by kernel_rfl) w') fun hT => ?_
  refine takeD (N := 10) (k := 4) (v := .pointer (some ⟨w.heap.size, 1, none⟩)) hS.1 hT rfl (by kernel_rfl) (fun _ _ => by kernel_rfl) fun hT => ?_
  refine takeD (N := 10) (k := 5) (v := .int .u32 t.b) hS.1 hT rfl (by kernel_rfl) (loadK y1 lB1 hnC _ _ fun w' h => ld32_run h _ _ _ _ _ _ _ (by kernel_rfl)) fun hT => ?_
  refine takeD (N := 10) (k := 6) (v := .int .i64 t.b) hS.1 hT rfl (by kernel_rfl) (fun w' _ => cv32_run wb _ _ _ _ _ _ _ (by kernel_rfl) w') fun hT => ?_
  refine soleD hS.2.2.1 (callD (R := fun v w' => OB w' W1.heap.size v (byN t.a 4)) rfl rfl (by kernel_rfl) (rb_any t.a 4 (by omega) a0 a1 W1) fun v1 W2 g2 o1 => ?_)
  refine soleD hS.2.2.2.1 (callD (R := fun v w' => OB w' W2.heap.size v (byN t.b 4)) rfl rfl (by kernel_rfl) (rb_any t.b 4 (by omega) b0 b1 W2) fun v2 W3 g3 o2 => ?_)
  have hb2 : W0.heap.size ≤ W3.heap.size := (g1.tr (g2.tr g3)).size
  refine soleD hS.2.2.2.2.1 (appD rfl (by kernel_rfl) (by kernel_rfl) ((o1.ext g3).le g1.size) o2 (by rw [byN_len]; omega) (by rw [byN_len, byN_len]; omega) hb2 fun v3 W4 m4 o3 => ?_)
  refine soleD hS.2.2.2.2.2.1 (makeD (v := v3) rfl rfl (by kernel_rfl) (Mv.refl _ _) ?_)
  refine doneK hS.2.2.2.2.2.2 ?_
  have M4 : Mv (fun k => W0.heap.size ≤ k) W0 W4 := (Mv.of_ext (g1.tr (g2.tr g3))).trans m4
  have hO := Lib.hid o3
  have z2 : W4.cell? ⟨w.heap.size, 2, none⟩ = some (.int .u16 t.c) := by rw [cell_rowD, rowD_same (M4.same _ lB hnC), ← cell_rowD]; exact x2
  have z3 : W4.cell? ⟨w.heap.size, 3, none⟩ = some (.int .u16 t.d) := by rw [cell_rowD, rowD_same (M4.same _ lB hnC), ← cell_rowD]; exact x3
  have lB4 : Lt w.heap.size W4 := Nat.lt_of_lt_of_le lB M4.size
  have hb4 := M4.size
  clear hS hT m4 o1 o2 o3 y0 y1 x0 x1 x2 x3
  go_simp
  go_upto_region 2 with (fail)
  refine wp_region_K (fun k => W0.heap.size ≤ k) (by kernel_rfl) ?_
  obtain ⟨W5, hW5⟩ : ∃ W5, W4.drew = W5 := ⟨_, rfl⟩
  have g5 : Ext W4 W5 := by rw [← hW5]; exact Ext.dr (Ext.rf _)
  rw [hW5]
  clear hW5
  have y2 := (g5.cell (p := ⟨w.heap.size, 2, none⟩) lB4).trans z2
  have y3 := (g5.cell (p := ⟨w.heap.size, 3, none⟩) lB4).trans z3
  have lB5 : Lt w.heap.size W5 := Nat.lt_of_lt_of_le lB4 g5.size
  have hO5 := hO.out.ext g5
  have hb5 := Nat.le_trans hb4 g5.size
  refine withK (N := 12) (R := SchQ2) (E := ((Try.f62.body.bind (findR 2)).getD #[])) (by kernel_rfl) schSchQ2 (by kernel_rfl) fun hS => ?_
  have hT := hS.2.1
  refine takeD (N := 12) (k := 0) (v := v3) hS.1 hT rfl (by kernel_rfl) (fun _ _ => by kernel_rfl) fun hT => ?_
  refine takeD (N := 12) (k := 1) (v := .pointer (some ⟨w.heap.size, 2, none⟩)) hS.1 hT rfl (by kernel_rfl) (fun _ _ => by kernel_rfl) fun hT => ?_
  refine takeD (N := 12) (k := 2) (v := .int .u16 t.c) hS.1 hT rfl (by kernel_rfl) (loadK y2 lB5 hnC _ _ fun w' h => ld16_run h _ _ _ _ _ _ _ (by kernel_rfl)) fun hT => ?_
  refine takeD (N := 12) (k := 3) (v := .int .i64 t.c) hS.1 hT rfl (by kernel_rfl) (fun w' _ => cv16_run wc _ _ _ _ _ _ _ (by kernel_rfl) w') fun hT => ?_
  refine takeD (N := 12) (k := 6) (v := .pointer (some ⟨w.heap.size, 3, none⟩)) hS.1 hT rfl (by kernel_rfl) (fun _ _ => by kernel_rfl) fun hT => ?_
  refine takeD (N := 12) (k := 7) (v := .int .u16 t.d) hS.1 hT rfl (by kernel_rfl) (loadK y3 lB5 hnC _ _ fun w' h => ld16_run h _ _ _ _ _ _ _ (by kernel_rfl)) fun hT => ?_
  refine takeD (N := 12) (k := 8) (v := .int .i64 t.d) hS.1 hT rfl (by kernel_rfl) (fun w' _ => cv16_run wd _ _ _ _ _ _ _ (by kernel_rfl) w') fun hT => ?_
  refine soleD hS.2.2.1 (callD (R := fun v w' => OB w' W5.heap.size v (byN t.c 2)) rfl rfl (by kernel_rfl) (rb_any t.c 2 (by omega) c0 (by omega) W5) fun v4 W6 g6 o4 => ?_)
  refine soleD hS.2.2.2.1 (appD rfl (by kernel_rfl) (by kernel_rfl) (hO5.ext g6) o4 (by rw [byN_len]; omega) (by simp only [List.length_append, byN_len]; omega) (Nat.le_trans hb5 g6.size) fun v5 W7 m7 o5 => ?_)
  refine soleD hS.2.2.2.2.1 (callD (R := fun v w' => OB w' W7.heap.size v (byN t.d 2)) rfl rfl (by kernel_rfl) (rb_any t.d 2 (by omega) d0 (by omega) W7) fun v6 W8 g8 o6 => ?_)
  refine soleD hS.2.2.2.2.2.1 (appD rfl (by kernel_rfl) (by kernel_rfl) (o5.ext g8) o6 (by rw [byN_len]; omega) (by simp only [List.length_append, byN_len]; omega) (Nat.le_trans (Nat.le_trans hb5 g6.size) (Nat.le_trans m7.size g8.size)) fun v7 W9 m9 o7 => ?_)
  refine soleD hS.2.2.2.2.2.2.1 (makeD (v := v7) rfl rfl (by kernel_rfl) (Mv.refl _ _) ?_)
  refine doneK hS.2.2.2.2.2.2.2 ?_
  have M9 : Mv (fun k => W0.heap.size ≤ k) W4 W9 := (((Mv.of_ext (g5.tr g6)).trans m7).tr g8).trans m9
  clear hS hT
  go_simp
  go_wp2
  refine bodyPost_ret (v := v7) (by simp [results, Try.results62, go_sem]) rfl ⟨v7, rfl, ?_, ?_⟩
  · have h := o7.le (b' := w.heap.size) (by omega)
    have e : byN t.a 4 ++ byN t.b 4 ++ byN t.c 2 ++ byN t.d 2 = tb t := rfl
    rw [e] at h
    exact h
  · exact Mv.ext_of g0 (M4.trans M9) (fun k h => by omega)

end Go.Proofs.Ytedamnocolfmlaa

/- The document's buckets; the document's order. -/
namespace Go.Proofs.Ytedamnocolfmlaa
open Go.RowKit

theorem rfold_val2 (n : Int) (h0 : 0 ≤ n) (h1 : n < 256) : bits BinOp.xor IntKind.i64 (wrap64 ((wrap64 n).tdiv 16)) ((wrap64 n).tmod 16) = fold n := by
  refine by256 (fun n => bits BinOp.xor IntKind.i64 (wrap64 ((wrap64 n).tdiv 16)) ((wrap64 n).tmod 16) = fold n) ?_ h0 h1
  kernel_rfl
set_option maxHeartbeats 1000000 in
theorem rsum_any (t : Tu) (hr : TuR t) (w : World) :
    Calls Try.prog 42 #[tu t.a t.b t.c t.d] w fun e w' => e = .returned (.int .u8 (sumT t)) ∧ Ext w w' := by
  have HR := Lib.hid hr
  clear hr
  go_enter Try.func42, Try.ntmps42
  go_wp2_with (first | (go_at_call 62; (with_reducible refine (rBytes_any t HR.out _).mono ?_); rintro e w1 ⟨v, rfl, ho, hE1⟩; obtain ⟨p, c, rfl, hs⟩ := ho.sl (by rw [tb_len]; omega); have HB := Lib.hid hs; have hE0 := Ext.tr (Ext.al (Ext.rf _) _) hE1; clear hs ho) | (go_at_call 61; (with_reducible refine (rgo_any 0 (tb t) _ _ _ HB.out (by rw [tb_len]; omega)).mono ?_); rintro e w2 ⟨rfl, rfl⟩))
  go_ret
  exact ⟨rfl, hE0⟩
set_option maxHeartbeats 1000000 in
theorem rof_any (t : Tu) (hr : TuR t) (w : World) :
    Calls Try.prog 24 #[tu t.a t.b t.c t.d] w fun e w' => e = .returned (.int .i64 (ofT t)) ∧ Ext w w' := by
  have HR := Lib.hid hr
  have HV := Lib.hid (rfold_val2 (sumT t) (sumT_bd t).1 (sumT_bd t).2)
  clear hr
  go_enter Try.func24, Try.ntmps24
  go_wp2_with (go_at_call 42; (with_reducible refine (rsum_any t HR.out _).mono ?_); rintro e w1 ⟨rfl, hE1⟩; have hE0 := Ext.tr (Ext.al (Ext.rf _) _) hE1)
  go_ret
  exact ⟨by show _ = Ending.returned (.int .i64 (fold (sumT t))); rw [← HV.out]; rfl, hE0⟩
/-- Rows of bytes, in order. -/
def lexB : List Int → List Int → Int
  | x :: xs, y :: ys => if x < y then -1 else if y < x then 1 else lexB xs ys
  | _, _ => 0
theorem lex4 (n k : Int) (xs ys : List Int) (h0 : 0 ≤ n ∧ n < 4294967296) (h1 : 0 ≤ k ∧ k < 4294967296) : lexB (byN n 4 ++ xs) (byN k 4 ++ ys) = if n < k then -1 else if k < n then 1 else lexB xs ys := by
  have e3 : (256 : Int) ^ 3 = 16777216 := by decide
  have e2 : (256 : Int) ^ 2 = 65536 := by decide
  have e1 : (256 : Int) ^ 1 = 256 := by decide
  have e0 : (256 : Int) ^ 0 = 1 := by decide
  simp only [byN, List.cons_append, List.nil_append, lexB, e3, e2, e1, e0]
  repeat' split
  all_goals first | rfl | (exfalso; omega)
theorem lex2 (n k : Int) (xs ys : List Int) (h0 : 0 ≤ n ∧ n < 65536) (h1 : 0 ≤ k ∧ k < 65536) : lexB (byN n 2 ++ xs) (byN k 2 ++ ys) = if n < k then -1 else if k < n then 1 else lexB xs ys := by
  have e1 : (256 : Int) ^ 1 = 256 := by decide
  have e0 : (256 : Int) ^ 0 = 1 := by decide
  simp only [byN, List.cons_append, List.nil_append, lexB, e1, e0]
  repeat' split
  all_goals first | rfl | (exfalso; omega)
theorem lex_cmp (s t : Tu) (hs : TuR s) (ht : TuR t) : lexB (tb s) (tb t) = cmpT s t := by
  have e : ∀ t : Tu, tb t = byN t.a 4 ++ (byN t.b 4 ++ (byN t.c 2 ++ (byN t.d 2 ++ []))) := fun t => rfl
  rw [e s, e t, lex4 _ _ _ _ hs.1 ht.1, lex4 _ _ _ _ hs.2.1 ht.2.1, lex2 _ _ _ _ hs.2.2.1 ht.2.2.1, lex2 _ _ _ _ hs.2.2.2 ht.2.2.2]
  have key : ∀ (x y r : Int), (if cmpI x y = 0 then r else cmpI x y) = if x < y then -1 else if y < x then 1 else r := by
    intro x y r
    unfold cmpI
    by_cases h1 : x < y
    · simp [h1]
    · by_cases h2 : y < x
      · simp [h1, h2]
      · simp [h1, h2]
  show _ = (if cmpI s.a t.a = 0 then (if cmpI s.b t.b = 0 then (if cmpI s.c t.c = 0 then (if cmpI s.d t.d = 0 then 0 else cmpI s.d t.d) else cmpI s.c t.c) else cmpI s.b t.b) else cmpI s.a t.a)
  rw [key, key, key, key]
  rfl
def SchM (ops : Array Oper) : Prop := Region.noSelect ops = true ∧ takesB ops 6 [0, 2] [] = true ∧ Region.ready .any ops (don 6 [2, 0]) = [1] ∧ Region.ready .any ops (don 6 [1, 2, 0]) = [3] ∧ takesB ops 6 [4, 5] [3, 1, 2, 0] = true ∧ Region.ready .any ops (don 6 [5, 4, 3, 1, 2, 0]) = []
theorem schM : SchM ((Try.f82.body.bind (findR 1)).getD #[]) := ⟨by kernel_rfl, by kernel_rfl, by kernel_rfl, by kernel_rfl, by kernel_rfl, by kernel_rfl⟩
theorem ldT_run {C : Nat → Prop} {w : World} {B : Nat} {t : Tu} (h : TuAt w B t) (hC : ¬ C B) (ρ : Operand → Value) (dst : Option Tmp) (x : Operand) (ty : TypeId) (pos : String) (after : Array Edge) (g : Option (Nat × Bool)) (hx : ρ x = .pointer (some ⟨B, 0, none⟩)) :
    ∀ w', Mv C w w' → (execOp ρ ⟨dst, .load 65 x, ty, pos, after, g⟩).run Try.prog w' = .ok (.value (tu t.a t.b t.c t.d)) w' := by
  intro w' hm
  obtain ⟨d0, d1, d2, d3⟩ := h.cells
  have hs := rowD_same (hm.same B h.2 hC)
  have q0 : w'.cell? ⟨B, 0, none⟩ = some (.int .u32 t.a) := by rw [cell_rowD, hs, ← cell_rowD]; exact d0
  have q1 : w'.cell? ⟨B, 1, none⟩ = some (.int .u32 t.b) := by rw [cell_rowD, hs, ← cell_rowD]; exact d1
  have q2 : w'.cell? ⟨B, 2, none⟩ = some (.int .u16 t.c) := by rw [cell_rowD, hs, ← cell_rowD]; exact d2
  have q3 : w'.cell? ⟨B, 3, none⟩ = some (.int .u16 t.d) := by rw [cell_rowD, hs, ← cell_rowD]; exact d3
  simp only [execOp, hx]
  go_simp
theorem lex_step (xs ys : List Int) (k : Nat) (hx : k < xs.length) (hy : k < ys.length) : lexB (xs.drop k) (ys.drop k) = if xs[k] < ys[k] then -1 else if ys[k] < xs[k] then 1 else lexB (xs.drop (k + 1)) (ys.drop (k + 1)) := by
  rw [List.drop_eq_getElem_cons hx, List.drop_eq_getElem_cons hy]
  rfl
set_option maxRecDepth 100000 in
set_option maxHeartbeats 4000000 in
theorem rcmp_any (s t : Tu) (hs : TuR s) (ht : TuR t) (w : World) :
    Calls Try.prog 82 #[tu s.a s.b s.c s.d, tu t.a t.b t.c t.d] w fun e w' => e = .returned (.int .i64 (cmpT s t)) ∧ Ext w w' := by
  rw [← lex_cmp s t hs ht]
  have HS := Lib.hid hs
  have HT := Lib.hid ht
  clear hs ht
  go_enter Try.func82, Try.ntmps82
  go_upto_region 1 with (fail)
  obtain ⟨W0, hW⟩ : ∃ W0, (w.alloc (.cells #[.int .u32 s.a, .int .u32 s.b, .int .u16 s.c, .int .u16 s.d] 65)).alloc (.cells #[.int .u32 t.a, .int .u32 t.b, .int .u16 t.c, .int .u16 t.d] 65) = W0 := ⟨_, rfl⟩
  have g0 : Ext w W0 := by rw [← hW]; exact Ext.al (Ext.al (Ext.rf _) _) _
  have hsz : W0.heap.size = w.heap.size + 2 := by rw [← hW]; simp
  have ts : TuAt W0 w.heap.size s := by rw [← hW]; unfold TuAt; simp [go_sem, Lt]; try omega
  have tt : TuAt W0 (w.heap.size + 1) t := by rw [← hW]; unfold TuAt; simp [go_sem, Lt]; try omega
  rw [hW]
  clear hW
  refine wp_region_K (fun k => W0.heap.size ≤ k) (by kernel_rfl) ?_
  obtain ⟨W1, hW1⟩ : ∃ W1, W0.drew = W1 := ⟨_, rfl⟩
  have g1 : Ext W0 W1 := by rw [← hW1]; exact Ext.dr (Ext.rf _)
  rw [hW1]
  clear hW1
  refine withK (N := 6) (R := SchM) (E := ((Try.f82.body.bind (findR 1)).getD #[])) (by kernel_rfl) schM (by kernel_rfl) fun hS => ?_
  have hT := hS.2.1
  refine takeD (N := 6) (k := 0) (v := (tu s.a s.b s.c s.d)) hS.1 hT rfl (by kernel_rfl) (ldT_run (ts.ext g1) (by omega) _ _ _ _ _ _ _ (by kernel_rfl)) fun hT => ?_
  refine takeD (N := 6) (k := 2) (v := (tu t.a t.b t.c t.d)) hS.1 hT rfl (by kernel_rfl) (ldT_run (tt.ext g1) (by omega) _ _ _ _ _ _ _ (by kernel_rfl)) fun hT => ?_
  refine soleD hS.2.2.1 (callD (R := fun v w' => OB w' W1.heap.size v (tb s)) rfl rfl (by kernel_rfl) (rBytes_any s HS.out W1) fun v1 W2 g2 o1 => ?_)
  refine soleD hS.2.2.2.1 (callD (R := fun v w' => OB w' W2.heap.size v (tb t)) rfl rfl (by kernel_rfl) (rBytes_any t HT.out W2) fun v2 W3 g3 o2 => ?_)
  have hT := hS.2.2.2.2.1
  refine takeD (N := 6) (k := 4) (v := v1) hS.1 hT rfl (by kernel_rfl) (fun _ _ => by kernel_rfl) fun hT => ?_
  refine takeD (N := 6) (k := 5) (v := v2) hS.1 hT rfl (by kernel_rfl) (fun _ _ => by kernel_rfl) fun hT => ?_
  refine doneK hS.2.2.2.2.2 ?_
  clear hS hT
  go_simp
  have E3 := g0.tr (g1.tr (g2.tr g3))
  obtain ⟨p1, c1, rfl, s1⟩ := (o1.ext g3).sl (by rw [tb_len]; omega)
  obtain ⟨p2, c2, rfl, s2⟩ := o2.sl (by rw [tb_len]; omega)
  obtain ⟨xs, hxs⟩ : ∃ xs, tb s = xs := ⟨_, rfl⟩
  obtain ⟨ys, hys⟩ : ∃ ys, tb t = ys := ⟨_, rfl⟩
  have lx : xs.length = 12 := by rw [← hxs]; rfl
  have ly : ys.length = 12 := by rw [← hys]; rfl
  rw [hxs] at s1 ⊢
  rw [hys] at s2 ⊢
  rw [lx, ly]
  have HXS := Lib.hid hxs
  have HYS := Lib.hid hys
  clear o1 o2 ts tt hxs hys g0 g1 g2 g3
  go_wp2
  go_loopw [7] (fun a wr => ∃ k : Nat, k ≤ 12 ∧ a = .int .i64 k ∧ lexB xs ys = lexB (xs.drop k) (ys.drop k) ∧ Ext w wr ∧ SlB wr p1 xs ∧ SlB wr p2 ys) (fun a _ => 12 - (intOf a).toNat)
  case atStart => exact ⟨0, by omega, rfl, rfl, E3, s1, s2⟩
  case round =>
    clear s1 s2 E3
    obtain ⟨k, hk, rfl, hlx, hE, h1, h2⟩ := hrel
    by_cases hlt : k < 12
    · have hil : (k : Int) < 12 := by omega
      have H1 := Lib.hid h1
      have H2 := Lib.hid h2
      obtain ⟨b1, o1, rfl, l1, c1'⟩ := h1 k (by omega)
      obtain ⟨b2, o2, rfl, l2, c2'⟩ := h2 k (by omega)
      have hst := hlx.trans (lex_step xs ys k (by omega) (by omega))
      obtain ⟨x, hx⟩ : ∃ x, xs[k]'(by omega) = x := ⟨_, rfl⟩
      obtain ⟨y, hy⟩ : ∃ y, ys[k]'(by omega) = y := ⟨_, rfl⟩
      rw [hx] at c1' hst
      rw [hy] at c2' hst
      have L1 : Lt b1 wr := l1
      have L2 : Lt b2 wr := l2
      clear h1 h2 l1 l2 hx hy hlx
      by_cases hxy : x < y
      · rw [if_pos hxy] at hst
        have HR := Lib.hid hst
        clear hst
        have hdx : decide (x < y) = true := decide_eq_true hxy
        go_upto_region 5 with (fail)
        refine wp_region_later (by kernel_rfl) (by kernel_rfl) ?_; (repeat (go_big_quiet_step (fail))); refine wpQuiet_nil ?_; intro d
        have hd := later_ext d
        go_wp2
        exact bodyPost_ret (v := .int .i64 (-1)) (by simp [results, Try.results82, go_sem]) rfl ⟨by rw [HXS.out, HYS.out, HR.out], hE.tr hd⟩
      · rw [if_neg hxy] at hst
        have hdx : decide (x < y) = false := decide_eq_false hxy
        have HX := Lib.hid hxy
        by_cases hyx : y < x
        · rw [if_pos hyx] at hst
          have HR := Lib.hid hst
          clear hst
          have hdy : decide (y < x) = true := decide_eq_true hyx
          go_upto_region 5 with (fail)
          refine wp_region_later (by kernel_rfl) (by kernel_rfl) ?_; (repeat (go_big_quiet_step (fail))); refine wpQuiet_nil ?_; intro d
          have hd := later_ext d
          obtain ⟨W5, hW5⟩ : ∃ W5, later d = W5 := ⟨_, rfl⟩
          rw [hW5] at hd ⊢
          clear hW5
          have q1 := (hd.cell (p := ⟨b1, _, none⟩) L1).trans c1'
          have q2 := (hd.cell (p := ⟨b2, _, none⟩) L2).trans c2'
          have K1 : Lt b1 W5 := Nat.lt_of_lt_of_le L1 hd.size
          have K2 : Lt b2 W5 := Nat.lt_of_lt_of_le L2 hd.size
          go_upto_region 7 with (fail)
          refine wp_region_later (by kernel_rfl) (by kernel_rfl) ?_; (repeat (go_big_quiet_step (fail))); refine wpQuiet_nil ?_; intro d2
          have hd2 := later_ext d2
          go_wp2
          exact bodyPost_ret (v := .int .i64 1) (by simp [results, Try.results82, go_sem]) rfl ⟨by rw [HXS.out, HYS.out, HR.out], (hE.tr hd).tr hd2⟩
        · rw [if_neg hyx] at hst
          have HR := Lib.hid hst
          clear hst
          have hdy : decide (y < x) = false := decide_eq_false hyx
          go_upto_region 5 with (fail)
          refine wp_region_later (by kernel_rfl) (by kernel_rfl) ?_; (repeat (go_big_quiet_step (fail))); refine wpQuiet_nil ?_; intro d
          have hd := later_ext d
          obtain ⟨W5, hW5⟩ : ∃ W5, later d = W5 := ⟨_, rfl⟩
          rw [hW5] at hd ⊢
          clear hW5
          have q1 := (hd.cell (p := ⟨b1, _, none⟩) L1).trans c1'
          have q2 := (hd.cell (p := ⟨b2, _, none⟩) L2).trans c2'
          have K1 : Lt b1 W5 := Nat.lt_of_lt_of_le L1 hd.size
          have K2 : Lt b2 W5 := Nat.lt_of_lt_of_le L2 hd.size
          go_upto_region 7 with (fail)
          refine wp_region_later (by kernel_rfl) (by kernel_rfl) ?_; (repeat (go_big_quiet_step (fail))); refine wpQuiet_nil ?_; intro d2
          have hd2 := later_ext d2
          go_wp2
          go_roundw
          case rel => exact ⟨k + 1, by omega, by go_num, HR.out, (hE.tr hd).tr hd2, (H1.out.ext hd).ext hd2, (H2.out.ext hd).ext hd2⟩
          case measure => simp [intOf]; omega
    · have hil : ¬ ((k : Int) < 12) := by omega
      have HR := Lib.hid (show lexB xs ys = 0 by rw [hlx, List.drop_of_length_le (by omega)]; rfl)
      clear hlx
      go_wp2
      exact bodyPost_ret (v := .int .i64 0) (by simp [results, Try.results82, go_sem]) rfl ⟨by rw [HXS.out, HYS.out, HR.out], hE⟩

end Go.Proofs.Ytedamnocolfmlaa

/- The document's Find and Right. -/
namespace Go.Proofs.Ytedamnocolfmlaa
open Go.RowKit

def badAt (xs : List Co) (k : Nat) : Prop := ∃ x, xs[k]? = some x ∧ (wrongC x = true ∨ ∃ m y, k = m + 1 ∧ xs[m]? = some y ∧ 0 ≤ cmpT y.t x.t)
def goodTo (xs : List Co) (k : Nat) : Prop := ∀ j, j < k → ¬ badAt xs j
theorem rightC_iff (xs : List Co) : rightC xs = true ↔ xs.length ≤ 32 ∧ goodTo xs xs.length := by
  unfold rightC
  simp only [Bool.and_eq_true, decide_eq_true_eq, Bool.not_eq_true', and_assoc]
  refine and_congr_right fun _ => ⟨fun ⟨h1, h2⟩ j hj ⟨x, hx, hb⟩ => ?_, fun h => ⟨?_, ?_⟩⟩
  · rcases hb with hb | ⟨m, y, rfl, hy, hc⟩
    · rw [List.any_eq_false] at h1
      exact h1 x (List.mem_of_getElem? hx) hb
    · have hp := pairsC_get xs m (by omega)
      have := List.all_eq_true.1 h2 _ (List.mem_of_getElem? hp)
      unfold lessC at this
      rw [List.getElem?_eq_getElem hj] at hx
      rw [List.getElem?_eq_getElem (by omega)] at hy
      have ex := Option.some.inj hx
      have ey := Option.some.inj hy
      rw [← ex, ← ey] at hc
      have := of_decide_eq_true this
      simp only at this
      omega
  · rw [List.any_eq_false]
    intro x hx hw
    obtain ⟨j, hj, hjx⟩ := List.getElem_of_mem hx
    exact h j hj ⟨x, by rw [List.getElem?_eq_getElem hj, hjx], .inl hw⟩
  · rw [List.all_eq_true]
    intro p hp
    obtain ⟨m, hm, hmp⟩ := List.getElem_of_mem hp
    have hm' : m + 1 < xs.length := by rw [pairsC_len] at hm; omega
    have hg := pairsC_get xs m hm'
    rw [List.getElem?_eq_getElem hm, hmp] at hg
    cases hg
    unfold lessC
    refine decide_eq_true (Int.not_le.1 fun hc => h (m + 1) hm' ⟨xs[m + 1], List.getElem?_eq_getElem hm', .inr ⟨m, xs[m], rfl, List.getElem?_eq_getElem (by omega), hc⟩⟩)
theorem rightC_bad {xs : List Co} {k : Nat} (hk : k < xs.length) (h : badAt xs k) : rightC xs = false := by
  rw [Bool.eq_false_iff]
  intro e
  exact ((rightC_iff xs).1 e).2 k hk h
theorem good_end {xs : List Co} {k : Nat} (hk : ¬ k < xs.length) (h : goodTo xs k) : rightC xs = decide ((xs.length : Int) ≤ 32) := by
  have hg : goodTo xs xs.length := fun j hj => h j (by omega)
  by_cases hl : xs.length ≤ 32
  · rw [(rightC_iff xs).2 ⟨hl, hg⟩, decide_eq_true (by omega)]
  · rw [decide_eq_false (by omega), Bool.eq_false_iff]
    exact fun e => hl ((rightC_iff xs).1 e).1
theorem good_next {xs : List Co} {k : Nat} {x : Co} (hx : xs[k]? = some x) (h : goodTo xs k) (hw : wrongC x = false) (hc : ∀ m y, k = m + 1 → xs[m]? = some y → cmpT y.t x.t < 0) : goodTo xs (k + 1) := by
  intro j hj
  by_cases hjk : j < k
  · exact h j hjk
  · obtain rfl : j = k := by omega
    rintro ⟨z, hz, hb⟩
    rw [hx] at hz
    cases hz
    rcases hb with hb | ⟨m, y, e, hy, hge⟩
    · rw [hw] at hb; cases hb
    · have := hc m y e hy
      omega
set_option maxRecDepth 100000 in
set_option maxHeartbeats 8000000 in
theorem rright_any (p : Option Addr) (xs : List Co) (c : Nat) (w : World) (hs : SlC w p xs) (hl : xs.length ≤ 1000) (hr : ∀ x ∈ xs, TuR x.t) :
    Calls Try.prog 65 #[.slice p xs.length c] w fun e w' => e = .returned (.bool (rightC xs)) ∧ Ext w w' := by
  have HRR := Lib.hid hr
  clear hr
  go_enter Try.func65, Try.ntmps65
  go_wp2
  go_loopw [3] (fun a wr => ∃ k : Nat, k ≤ xs.length ∧ a = .int .i64 k ∧ goodTo xs k ∧ Ext w wr) (fun a _ => xs.length - (intOf a).toNat)
  case atStart => exact ⟨0, Nat.zero_le _, rfl, (fun j hj => absurd hj (Nat.not_lt_zero _)), Ext.rf _⟩
  case round =>
    obtain ⟨k, hk, rfl, hG, hE⟩ := hrel
    by_cases hlt : k < xs.length
    · have hil : (k : Int) < xs.length := by omega
      obtain ⟨b, off, rfl, lb, c0, c1, c2, c3, c4, c5⟩ := (hs.ext hE) k hlt
      obtain ⟨x, hx⟩ : ∃ x, xs[k] = x := ⟨_, rfl⟩
      have hx' : xs[k]? = some x := by rw [List.getElem?_eq_getElem hlt, hx]
      have HX := Lib.hid (HRR.out x (by rw [← hx]; exact List.getElem_mem hlt))
      rw [hx] at c0 c1 c2 c3 c4 c5
      have lbb : Lt b wr := lb
      have HBAD := fun h => Lib.hid (rightC_bad hlt ⟨x, hx', h⟩)
      have HNEXT := fun hw hc => Lib.hid (good_next hx' hG hw hc)
      have HSS := Lib.hid hs
      clear hG
      by_cases h1 : x.s < 0
      · have HR := HBAD (.inl (by unfold wrongC; simp [h1]))
        clear HBAD HNEXT hx hx' hs lb
        go_upto_region 4 with (fail)
        refine wp_region_later (by kernel_rfl) (by kernel_rfl) ?_; (repeat (go_big_quiet_step (fail))); refine wpQuiet_nil ?_; intro d
        have hd := later_ext d
        go_wp2
        exact bodyPost_ret (v := .bool false) (by simp [results, Try.results65, go_sem]) rfl ⟨by rw [HR.out], hE.tr hd⟩
      · by_cases h2 : x.l < x.s
        · have HR := HBAD (.inl (by unfold wrongC; simp [h2]))
          clear HBAD HNEXT hx hx' hs lb
          go_upto_region 4 with (fail)
          refine wp_region_later (by kernel_rfl) (by kernel_rfl) ?_; (repeat (go_big_quiet_step (fail))); refine wpQuiet_nil ?_; intro d
          have hd := later_ext d
          go_wp2
          exact bodyPost_ret (v := .bool false) (by simp [results, Try.results65, go_sem]) rfl ⟨by rw [HR.out], hE.tr hd⟩
        · by_cases h3 : 1099511627776 < x.l
          · have HR := HBAD (.inl (by unfold wrongC; simp [h3]))
            clear HBAD HNEXT hx hx' hs lb
            go_upto_region 4 with (fail)
            refine wp_region_later (by kernel_rfl) (by kernel_rfl) ?_; (repeat (go_big_quiet_step (fail))); refine wpQuiet_nil ?_; intro d
            have hd := later_ext d
            go_wp2
            exact bodyPost_ret (v := .bool false) (by simp [results, Try.results65, go_sem]) rfl ⟨by rw [HR.out], hE.tr hd⟩
          · have hw : wrongC x = false := by unfold wrongC; simp; omega
            by_cases hk0 : k = 0
            · have HN := HNEXT hw (fun m y e _ => by omega)
              clear HBAD HNEXT hx hx' hs lb hw
              subst hk0
              go_upto_region 4 with (fail)
              refine wp_region_later (by kernel_rfl) (by kernel_rfl) ?_; (repeat (go_big_quiet_step (fail))); refine wpQuiet_nil ?_; intro d
              have hd := later_ext d
              go_wp2
              go_roundw
              case rel => exact ⟨1, by omega, by go_num, HN.out, hE.tr hd⟩
              case measure => simp [intOf]; omega
            · obtain ⟨m, rfl⟩ : ∃ m, k = m + 1 := ⟨k - 1, by omega⟩
              obtain ⟨b', off', hpe, -, d0, d1, d2, d3, d4, d5⟩ := (hs.ext hE) m (by omega)
              cases hpe
              have hml : m < xs.length := by omega
              obtain ⟨y, hy⟩ : ∃ y, xs[m] = y := ⟨_, rfl⟩
              have hy' : xs[m]? = some y := by rw [List.getElem?_eq_getElem hml, hy]
              have HY := Lib.hid (HRR.out y (by rw [← hy]; exact List.getElem_mem hml))
              rw [hy] at d0 d1 d2 d3 d4 d5
              have hkp : (0 : Int) < ((m + 1 : Nat) : Int) := by omega
              have hi1 : (m : Int) < xs.length := by omega
              have hmw : IntKind.i64.wrap (((m + 1 : Nat) : Int) - 1) = m := by rw [IntKind.wrap_i64]; omega
              clear hk0
              by_cases hc : 0 ≤ cmpT y.t x.t
              · have HR := HBAD (.inr ⟨m, y, rfl, hy', hc⟩)
                have hcd : decide (0 ≤ cmpT y.t x.t) = true := decide_eq_true hc
                clear HBAD HNEXT hx hx' hy hy' hs lb hw
                go_upto_region 4 with (fail)
                refine wp_region_later (by kernel_rfl) (by kernel_rfl) ?_; (repeat (go_big_quiet_step ((go_at_call 82; exact calls_later (rcmp_any _ _ HY.out HX.out _))))); refine wpQuiet_nil ?_; intro d
                have hd := later_ext d
                go_wp2
                exact bodyPost_ret (v := .bool false) (by simp [results, Try.results65, go_sem]) rfl ⟨by rw [HR.out], hE.tr hd⟩
              · have hcd : decide (0 ≤ cmpT y.t x.t) = false := decide_eq_false hc
                have HN := HNEXT hw (fun m' y' e h' => by
                  obtain rfl : m' = m := by omega
                  rw [hy'] at h'; cases h'
                  omega)
                clear HBAD HNEXT hx hx' hy hy' hs lb hw
                go_upto_region 4 with (fail)
                refine wp_region_later (by kernel_rfl) (by kernel_rfl) ?_; (repeat (go_big_quiet_step ((go_at_call 82; exact calls_later (rcmp_any _ _ HY.out HX.out _))))); refine wpQuiet_nil ?_; intro d
                have hd := later_ext d
                go_wp2
                go_roundw
                case rel => exact ⟨m + 1 + 1, by omega, by go_num, HN.out, hE.tr hd⟩
                case measure => simp [intOf]; omega
    · have hil : ¬ ((k : Int) < xs.length) := by omega
      have HR := Lib.hid (good_end hlt hG)
      clear hG
      go_wp2
      exact bodyPost_ret (v := .bool (decide ((xs.length : Int) ≤ 32))) (by simp [results, Try.results65, go_sem]) rfl ⟨by rw [HR.out], hE⟩

end Go.Proofs.Ytedamnocolfmlaa

/- The document's Find. -/
namespace Go.Proofs.Ytedamnocolfmlaa
open Go.RowKit

def belowT (xs : List Co) (t : Tu) (k : Nat) : Prop := ∀ j, j < k → ∀ x, xs[j]? = some x → geT t x = false
theorem at_of {xs : List Co} {t : Tu} {k : Nat} {x : Co} (hx : xs[k]? = some x) (h : belowT xs t k) (hg : geT t x = true) : atC xs t = k := by
  unfold atC
  have hk : k < xs.length := (List.getElem?_eq_some_iff.1 hx).1
  refine (List.findIdx_eq hk).2 ⟨?_, fun j hj => ?_⟩
  · rw [List.getElem?_eq_getElem hk] at hx; cases hx; exact hg
  · exact h j hj _ (List.getElem?_eq_getElem (by omega))
theorem at_end {xs : List Co} {t : Tu} {k : Nat} (hk : ¬ k < xs.length) (h : belowT xs t k) : atC xs t = xs.length ∧ okC xs t = false := by
  have e : atC xs t = xs.length := by
    unfold atC
    refine List.findIdx_eq_length.2 fun x hx => ?_
    obtain ⟨j, hj, hjx⟩ := List.getElem_of_mem hx
    exact h j (by omega) x (by rw [List.getElem?_eq_getElem hj, hjx])
  exact ⟨e, by unfold okC; rw [e]; simp⟩
theorem eql_T {x y : Tu} (ρ : Operand → Value) (dst : Option Tmp) (p q : Operand) (ty : TypeId) (pos : String) (after : Array Edge) (g : Option (Nat × Bool)) (hx : ρ p = tu x.a x.b x.c x.d) (hy : ρ q = tu y.a y.b y.c y.d) (w : World) :
    (execOp ρ ⟨dst, .binOp .eql 65 p q 65, ty, pos, after, g⟩).run Try.prog w = .ok (.value (.bool (eqT x y))) w := by
  simp only [execOp, hx, hy]
  go_simp
  try (unfold eqT; repeat' split)
  all_goals simp_all
end Go.Proofs.Ytedamnocolfmlaa

/- Connections in order: plain laws. -/
namespace Go.Proofs.Ytedamnocolfmlaa
open Go.RowKit

def ltT (s t : Tu) : Prop := s.a < t.a ∨ s.a = t.a ∧ (s.b < t.b ∨ s.b = t.b ∧ (s.c < t.c ∨ s.c = t.c ∧ s.d < t.d))
theorem cmpT_ifs (s t : Tu) : cmpT s t = if s.a < t.a then -1 else if t.a < s.a then 1 else if s.b < t.b then -1 else if t.b < s.b then 1 else if s.c < t.c then -1 else if t.c < s.c then 1 else if s.d < t.d then -1 else if t.d < s.d then 1 else 0 := by
  have key : ∀ (x y r : Int), (if cmpI x y = 0 then r else cmpI x y) = if x < y then -1 else if y < x then 1 else r := by
    intro x y r
    unfold cmpI
    by_cases h1 : x < y
    · simp [h1]
    · by_cases h2 : y < x
      · simp [h1, h2]
      · simp [h1, h2]
  show (if cmpI s.a t.a = 0 then (if cmpI s.b t.b = 0 then (if cmpI s.c t.c = 0 then (if cmpI s.d t.d = 0 then 0 else cmpI s.d t.d) else cmpI s.c t.c) else cmpI s.b t.b) else cmpI s.a t.a) = _
  rw [key, key, key, key]
theorem cmpT_lt {s t : Tu} : cmpT s t < 0 ↔ ltT s t := by
  rw [cmpT_ifs]; unfold ltT
  repeat' split
  all_goals omega
theorem cmpT_gt {s t : Tu} : 0 < cmpT s t ↔ ltT t s := by
  rw [cmpT_ifs]; unfold ltT
  repeat' split
  all_goals omega
theorem cmpT_eq {s t : Tu} : cmpT s t = 0 ↔ s = t := by
  have h : s = t ↔ s.a = t.a ∧ s.b = t.b ∧ s.c = t.c ∧ s.d = t.d := by
    cases s; cases t; simp
  rw [h, cmpT_ifs]
  repeat' split
  all_goals omega
theorem cmpT_self (t : Tu) : cmpT t t = 0 := cmpT_eq.2 rfl
theorem ltT_trans {s t u : Tu} (h : ltT s t) (k : ltT t u) : ltT s u := by unfold ltT at *; omega
theorem geT_iff {t : Tu} {x : Co} : geT t x = true ↔ ¬ ltT x.t t := by
  unfold geT
  rw [decide_eq_true_eq, ← cmpT_lt]
  omega
theorem right_lt {xs : List Co} (h : rightC xs = true) {m : Nat} {x y : Co} (hx : xs[m]? = some x) (hy : xs[m + 1]? = some y) : ltT x.t y.t := by
  have h1 := ((rightC_iff xs).1 h).2 (m + 1) (List.getElem?_eq_some_iff.1 hy).1
  refine cmpT_lt.1 (Int.not_le.1 fun hc => h1 ⟨y, hy, .inr ⟨m, x, rfl, hx, hc⟩⟩)
theorem right_far {xs : List Co} (h : rightC xs = true) {i : Nat} {x : Co} (hx : xs[i]? = some x) : ∀ (n : Nat) (y : Co), xs[i + 1 + n]? = some y → ltT x.t y.t
  | 0, y, hy => right_lt h hx hy
  | n + 1, y, hy => by
    have hl : i + 1 + n < xs.length := by have := (List.getElem?_eq_some_iff.1 hy).1; omega
    exact ltT_trans (right_far h hx n xs[i + 1 + n] (List.getElem?_eq_getElem hl)) (right_lt h (List.getElem?_eq_getElem hl) hy)
theorem at_spec {xs : List Co} {t : Tu} : ∀ j, j < atC xs t → ∀ x, xs[j]? = some x → ltT x.t t := by
  intro j hj x hx
  have h := List.not_of_lt_findIdx (p := geT t) (xs := xs) hj
  have hl := (List.getElem?_eq_some_iff.1 hx).1
  have e : xs[j] = x := (List.getElem?_eq_some_iff.1 hx).2
  rw [e] at h
  by_cases hg : geT t x = true
  · exact absurd hg (by simpa using h)
  · exact Classical.byContradiction fun hn => hg (geT_iff.2 hn)
theorem at_ge {xs : List Co} {t : Tu} {x : Co} (hx : xs[atC xs t]? = some x) : ¬ ltT x.t t := by
  have hl := (List.getElem?_eq_some_iff.1 hx).1
  have h := List.findIdx_getElem (p := geT t) (xs := xs) (w := hl)
  have e : xs[xs.findIdx (geT t)] = x := (List.getElem?_eq_some_iff.1 hx).2
  rw [e] at h
  exact geT_iff.1 h
theorem at_iff {xs : List Co} (h : rightC xs = true) {t : Tu} {j : Nat} {x : Co} (hx : xs[j]? = some x) (he : x.t = t) : atC xs t = j ∧ okC xs t = true := by
  have hn : ¬ ltT t t := by unfold ltT; omega
  have h1 : atC xs t = j := by
    rcases Nat.lt_trichotomy (atC xs t) j with hlt | e | hgt
    · exfalso
      have hl := (List.getElem?_eq_some_iff.1 hx).1
      have hk : xs[atC xs t]? = some (xs[atC xs t]'(by omega)) := List.getElem?_eq_getElem (by omega)
      have := right_far h hk (j - (atC xs t + 1)) x (by rw [show atC xs t + 1 + (j - (atC xs t + 1)) = j by omega]; exact hx)
      rw [he] at this
      exact at_ge hk this
    · exact e
    · exfalso
      have := at_spec j hgt x hx
      rw [he] at this
      exact hn this
  refine ⟨h1, ?_⟩
  unfold okC
  rw [h1, hx]
  exact eqT_iff.2 he
theorem ok_spec {xs : List Co} {t : Tu} (h : okC xs t = true) : ∃ x, xs[atC xs t]? = some x ∧ x.t = t := by
  unfold okC at h
  cases hg : xs[atC xs t]? with
  | none => rw [hg] at h; cases h
  | some x => rw [hg] at h; exact ⟨x, rfl, eqT_iff.1 h⟩
theorem ok_there {xs : List Co} (h : rightC xs = true) (t : Tu) : okC xs t = xs.any fun x => eqT x.t t := by
  cases ho : okC xs t
  · symm
    rw [List.any_eq_false]
    intro x hx he
    obtain ⟨j, hj, hjx⟩ := List.getElem_of_mem hx
    have := (at_iff h (List.getElem?_eq_some_iff.2 ⟨hj, hjx⟩) (eqT_iff.1 he)).2
    rw [ho] at this; cases this
  · symm
    obtain ⟨x, hx, he⟩ := ok_spec ho
    exact List.any_eq_true.2 ⟨x, List.mem_of_getElem? hx, eqT_iff.2 he⟩
theorem insAt_get {α : Type} (xs : List α) (k : Nat) (x : α) (hk : k ≤ xs.length) (j : Nat) : (insAt xs k x)[j]? = if j < k then xs[j]? else if j = k then some x else xs[j - 1]? := by
  unfold insAt
  have hl : (xs.take k).length = k := by rw [List.length_take]; omega
  by_cases h1 : j < k
  · rw [if_pos h1, List.getElem?_append_left (by omega), List.getElem?_take, if_pos h1]
  · rw [if_neg h1, List.getElem?_append_right (by omega), hl]
    by_cases h2 : j = k
    · rw [if_pos h2, h2, Nat.sub_self]; rfl
    · rw [if_neg h2, show j - k = (j - k - 1) + 1 by omega, List.getElem?_cons_succ, List.getElem?_drop, show k + (j - k - 1) = j - 1 by omega]
theorem insAt_erase {α : Type} (xs : List α) (k : Nat) (x : α) (hk : k ≤ xs.length) : (insAt xs k x).eraseIdx k = xs := by
  have hl : (xs.take k).length = k := by rw [List.length_take]; omega
  unfold insAt
  rw [List.eraseIdx_append_of_length_le (by omega), hl, Nat.sub_self]
  simp
theorem add_right {xs : List Co} {t : Tu} {now : Int} (h : rightC xs = true) (hl : xs.length < 32) (h0 : 0 ≤ now) (h1 : now ≤ 1099511627776) (hn : okC xs t = false) : rightC (insAt xs (atC xs t) (newC t now)) = true := by
  have hk := at_le xs t
  obtain ⟨k, hke⟩ : ∃ k, atC xs t = k := ⟨_, rfl⟩
  have hsp := at_spec (xs := xs) (t := t)
  have hge := fun x => at_ge (xs := xs) (t := t) (x := x)
  have hok : ∀ x, xs[k]? = some x → x.t ≠ t := fun x hx he => by
    have := (at_iff h hx he).2
    rw [hn] at this; cases this
  rw [hke] at hk hsp hge ⊢
  refine (rightC_iff _).2 ⟨by rw [insAt_len]; omega, fun j hj ⟨x, hx, hb⟩ => ?_⟩
  have hbad := ((rightC_iff xs).1 h).2
  rw [insAt_get _ _ _ hk] at hx
  rcases hb with hb | ⟨m, y, rfl, hy, hc⟩
  · have hin : ∀ i, xs[i]? = some x → False := fun i hi => hbad i (List.getElem?_eq_some_iff.1 hi).1 ⟨x, hi, .inl hb⟩
    split at hx
    · exact hin _ hx
    · split at hx
      · cases hx
        unfold wrongC newC at hb
        simp at hb
        omega
      · exact hin _ hx
  · rw [insAt_get _ _ _ hk] at hy
    have hno : ¬ ltT y.t x.t := fun hlt => by have := cmpT_lt.2 hlt; omega
    by_cases c1 : m + 1 < k
    · rw [if_pos c1] at hx
      rw [if_pos (by omega)] at hy
      exact hno (right_lt h hy hx)
    · rw [if_neg c1] at hx
      by_cases c2 : m + 1 = k
      · rw [if_pos c2] at hx
        rw [if_pos (by omega)] at hy
        cases hx
        exact hno (hsp m (by omega) y hy)
      · rw [if_neg c2] at hx
        rw [if_neg (by omega)] at hy
        rw [show m + 1 - 1 = m by omega] at hx
        by_cases c3 : m = k
        · rw [if_pos c3] at hy
          cases hy
          subst c3
          refine hno ?_
          show ltT t x.t
          have a1 := hge x hx
          have a2 := hok x hx
          have a3 : ¬ cmpT x.t t < 0 := fun e => a1 (cmpT_lt.1 e)
          have a4 : cmpT x.t t ≠ 0 := fun e => a2 (cmpT_eq.1 e)
          exact cmpT_gt.1 (by omega)
        · rw [if_neg c3] at hy
          have e : xs[m - 1 + 1]? = some x := by rw [show m - 1 + 1 = m by omega]; exact hx
          exact hno (right_lt h hy e)
theorem add_at {xs : List Co} {t : Tu} {now : Int} : (insAt xs (atC xs t) (newC t now))[atC xs t]? = some (newC t now) := by
  rw [insAt_get _ _ _ (at_le xs t), if_neg (Nat.lt_irrefl _), if_pos rfl]
theorem touch_get {xs : List Co} {t : Tu} {now : Int} (h : rightC xs = true) (j : Nat) (x : Co) (hx : xs[j]? = some x) :
    (withX (touchF now) xs t)[j]? = some (if eqT x.t t = true then { x with l := max x.l (min now 1099511627776) } else x) := by
  unfold withX withOk
  rw [h, Bool.and_true]
  by_cases he : eqT x.t t = true
  · rw [if_pos he]
    obtain ⟨h1, h2⟩ := at_iff h hx (eqT_iff.1 he)
    rw [h2, if_pos rfl, h1]
    unfold touchF
    rw [hx]
    have hl := (List.getElem?_eq_some_iff.1 hx).1
    simp [hl]
  · rw [if_neg he]
    by_cases ho : okC xs t = true
    · rw [if_pos ho]
      obtain ⟨y, hy, hyt⟩ := ok_spec ho
      unfold touchF
      rw [hy]
      have hne : atC xs t ≠ j := fun e => by rw [e, hx] at hy; cases hy; exact he (eqT_iff.2 hyt)
      simp only
      rw [List.getElem?_set_ne hne]
      exact hx
    · rw [if_neg ho]; exact hx
theorem touch_len (xs : List Co) (t : Tu) (now : Int) : (withX (touchF now) xs t).length = xs.length := by
  unfold withX touchF; split
  · split <;> simp
  · rfl
theorem touch_right {xs : List Co} {t : Tu} {now : Int} (h : rightC xs = true) : rightC (withX (touchF now) xs t) = true := by
  have h2 := (rightC_iff xs).1 h
  refine (rightC_iff _).2 ⟨by rw [touch_len]; exact h2.1, fun j hj ⟨x, hx, hb⟩ => ?_⟩
  rw [touch_len] at hj
  have g := touch_get (t := t) (now := now) h
  have hx0 := g j xs[j] (List.getElem?_eq_getElem hj)
  rw [hx] at hx0
  have ht : ∀ (i : Nat) (z : Co), (withX (touchF now) xs t)[i]? = some z → ∃ y, xs[i]? = some y ∧ y.t = z.t := fun i z hz => by
    have hl : i < xs.length := by have := (List.getElem?_eq_some_iff.1 hz).1; rwa [touch_len] at this
    have h3 := g i xs[i] (List.getElem?_eq_getElem hl)
    rw [hz] at h3
    refine ⟨_, List.getElem?_eq_getElem hl, ?_⟩
    cases Option.some.inj h3
    split <;> rfl
  rcases hb with hb | ⟨m, y, rfl, hy, hc⟩
  · have hw : ¬ wrongC xs[j] = true := fun e => h2.2 j hj ⟨_, List.getElem?_eq_getElem hj, .inl e⟩
    cases Option.some.inj hx0
    unfold wrongC at hw hb
    simp only [Bool.or_eq_true, decide_eq_true_eq, not_or] at hw hb
    split at hb
    · simp only at hb; omega
    · omega
  · obtain ⟨y0, hy0, e1⟩ := ht m y hy
    obtain ⟨x0, hx0', e2⟩ := ht (m + 1) x hx
    have := cmpT_lt.2 (right_lt h hy0 hx0')
    rw [e1, e2] at this
    omega
theorem touch_twice {xs : List Co} {t : Tu} {now more : Int} (h : rightC xs = true) : withX (touchF more) (withX (touchF now) xs t) t = withX (touchF (max now more)) xs t := by
  refine List.ext_getElem? fun j => ?_
  by_cases hj : j < xs.length
  · have g1 := touch_get (t := t) (now := now) h j xs[j] (List.getElem?_eq_getElem hj)
    have g2 := touch_get (t := t) (now := more) (touch_right (t := t) (now := now) h) j _ g1
    have g3 := touch_get (t := t) (now := max now more) h j xs[j] (List.getElem?_eq_getElem hj)
    rw [g2, g3]
    by_cases he : eqT xs[j].t t = true
    · simp only [he, if_true]
      congr 2
      omega
    · simp only [he, Bool.false_eq_true, if_false]
  · rw [List.getElem?_eq_none (by rw [touch_len, touch_len]; omega), List.getElem?_eq_none (by rw [touch_len]; omega)]
theorem touch_ok {xs : List Co} (h : rightC xs = true) (t : Tu) : withOk xs t = xs.any fun x => eqT x.t t := by
  unfold withOk
  rw [h, Bool.and_true, ok_there h]

end Go.Proofs.Ytedamnocolfmlaa

/- Owned: how holders are compared. -/
namespace Go.Proofs.Ytedamnocolfmlaa
open Go.RowKit

def SchOwc (ops : Array Oper) : Prop := Region.noSelect ops = true ∧ takesB ops 13 [0, 1, 2, 3, 5, 6, 7, 8] [] = true ∧ Region.ready .any ops (don 13 [8, 7, 6, 5, 3, 2, 1, 0]) = [4] ∧ Region.ready .any ops (don 13 [4, 8, 7, 6, 5, 3, 2, 1, 0]) = [9] ∧ Region.ready .any ops (don 13 [9, 4, 8, 7, 6, 5, 3, 2, 1, 0]) = [10] ∧ Region.ready .any ops (don 13 [10, 9, 4, 8, 7, 6, 5, 3, 2, 1, 0]) = [11] ∧ Region.ready .any ops (don 13 [11, 10, 9, 4, 8, 7, 6, 5, 3, 2, 1, 0]) = [12] ∧ Region.ready .any ops (don 13 [12, 11, 10, 9, 4, 8, 7, 6, 5, 3, 2, 1, 0]) = []
theorem schOwc : SchOwc ((Try.f32.body.bind (findR 1)).getD #[]) := ⟨by kernel_rfl, by kernel_rfl, by kernel_rfl, by kernel_rfl, by kernel_rfl, by kernel_rfl, by kernel_rfl, by kernel_rfl⟩

def cmH (x y : Ho) : Int := if cmpT x.t y.t = 0 then cmpI x.n y.n else cmpT x.t y.t
def ltH (x y : Ho) : Prop := ltT x.t y.t ∨ x.t = y.t ∧ x.n < y.n
theorem cmH_lt (x y : Ho) : ltH x y ↔ cmH x y < 0 := by
  unfold cmH ltH
  by_cases h : cmpT x.t y.t = 0
  · rw [if_pos h]
    have e := cmpT_eq.1 h
    have n : ¬ ltT x.t y.t := fun hl => by have := cmpT_lt.2 hl; omega
    unfold cmpI
    constructor
    · rintro (h1 | ⟨_, h1⟩)
      · exact absurd h1 n
      · rw [if_pos h1]; decide
    · intro h1
      refine .inr ⟨e, ?_⟩
      split at h1
      · assumption
      · split at h1 <;> simp at h1
  · rw [if_neg h, cmpT_lt]
    constructor
    · rintro (h1 | ⟨h1, _⟩)
      · exact h1
      · exact absurd (cmpT_eq.2 h1) h
    · exact fun h1 => .inl h1
theorem ltT_tot (s t : Tu) : ltT s t ∨ s = t ∨ ltT t s := by
  rcases Int.lt_trichotomy (cmpT s t) 0 with h | h | h
  · exact .inl (cmpT_lt.1 h)
  · exact .inr (.inl (cmpT_eq.1 h))
  · exact .inr (.inr (cmpT_gt.1 h))
theorem ltT_irr (s : Tu) : ¬ ltT s s := fun h => by have := cmpT_lt.2 h; rw [cmpT_self] at this; omega
theorem totH : Tot ltH := by
  refine ⟨fun x => ?_, fun x y z h1 h2 => ?_, fun x y h => ?_⟩
  · rintro (h | ⟨_, h⟩)
    · exact ltT_irr _ h
    · omega
  · rintro h3
    unfold ltH at *
    rcases h3 with h3 | ⟨h3, h4⟩
    · rcases ltT_tot y.t x.t with h | h | h
      · exact h1 (.inl h)
      · rw [← h] at h3; exact h2 (.inl h3)
      · rcases ltT_tot z.t y.t with k | k | k
        · exact h2 (.inl k)
        · rw [k] at h3; exact ltT_irr _ (ltT_trans h3 h)
        · exact ltT_irr _ (ltT_trans h3 (ltT_trans h k))
    · rcases ltT_tot y.t x.t with h | h | h
      · exact h1 (.inl h)
      · by_cases hn : y.n < x.n
        · exact h1 (.inr ⟨h, hn⟩)
        · exact h2 (.inr ⟨by rw [h3, h], by omega⟩)
      · exact h2 (.inl (by rw [h3]; exact h))
  · rintro (k | ⟨k1, k2⟩)
    · rcases h with h | ⟨h1, h2⟩
      · exact ltT_irr _ (ltT_trans h k)
      · rw [h1] at k; exact ltT_irr _ k
    · rcases h with h | ⟨h1, h2⟩
      · rw [k1] at h; exact ltT_irr _ h
      · omega
set_option maxHeartbeats 400000 in
theorem nan_i64 (x : Int) (w : World) : Calls Try.prog 54 #[.int .i64 x] w fun e w' => e = .returned (.bool false) ∧ w = w' := by
  go_enter Try.func54, Try.ntmps54
  go_wp2
  go_ret
  exact ⟨ret_bool (by simp), rfl⟩
set_option maxHeartbeats 400000 in
theorem compare_i64 (x y : Int) (w : World) : Calls Try.prog 35 #[.int .i64 x, .int .i64 y] w fun e w' => e = .returned (.int .i64 (cmpI x y)) ∧ w = w' := by
  go_enter Try.func35, Try.ntmps35
  go_wp2_with (go_at_call 54; (with_reducible refine (nan_i64 _ _).mono ?_); rintro e w' ⟨rfl, rfl⟩)
  all_goals (go_ret; refine ⟨?_, rfl⟩)
  all_goals (refine congrArg (fun z => Ending.returned (.int .i64 z)) ?_; unfold cmpI; first | (simp [*]; done) | (simp_all; omega) | (split <;> (try split) <;> omega))
def or2 (x y : Int) : Int := if x = 0 then y else x
set_option maxHeartbeats 1000000 in
theorem or_two (x y : Int) (W : World) :
    Calls Try.prog 33 #[.slice (some ⟨W.heap.size, 0, none⟩) 2 2] (W.alloc (.cells #[.int .i64 x, .int .i64 y] 3)) fun e w' => e = .returned (.int .i64 (or2 x y)) ∧ Ext (W.alloc (.cells #[.int .i64 x, .int .i64 y] 3)) w' := by
  generalize hV : W.alloc (.cells #[.int .i64 x, .int .i64 y] 3) = V
  have hL : Lt W.heap.size V := by rw [← hV]; simp [Lt]
  have hc0 : V.cell? ⟨W.heap.size, 0, none⟩ = some (.int .i64 x) := by rw [← hV, cell_rowD, rowD_new]; rfl
  have hc1 : V.cell? ⟨W.heap.size, 1, none⟩ = some (.int .i64 y) := by rw [← hV, cell_rowD, rowD_new]; rfl
  clear hV
  generalize W.heap.size = B at *
  go_enter Try.func33, Try.ntmps33
  go_wp2
  go_loopw [5, 8] (fun _ a wr => ∃ k : Nat, k ≤ 2 ∧ a = .int .i64 k ∧ (0 < k → x = 0) ∧ (1 < k → y = 0) ∧ Ext V wr) (fun _ a _ => 2 - (intOf a).toNat)
  case atStart => exact ⟨0, Nat.zero_le _, rfl, by omega, by omega, Ext.rf _⟩
  case round =>
    obtain ⟨k, hk, rfl, hx, hy, hE⟩ := hrel
    have c0 := (hE.cell (p := ⟨B, 0, none⟩) hL).trans hc0
    have c1 := (hE.cell (p := ⟨B, 1, none⟩) hL).trans hc1
    clear hc0 hc1
    have HX := Lib.hid hx
    have HY := Lib.hid hy
    clear hx hy
    obtain rfl | rfl | rfl : k = 0 ∨ k = 1 ∨ k = 2 := by omega
    · cases hq : (x == 0)
      · have hqn : (x != 0) = true := by rw [bne, hq]; rfl
        have HV := Lib.hid (show or2 x y = x by unfold or2; rw [if_neg (by simpa using hq)])
        go_wp2
        go_ret
        exact ⟨by rw [HV.out]; rfl, hE⟩
      · have hqn : (x != 0) = false := by rw [bne, hq]; rfl
        have HQ := Lib.hid hq
        clear hq
        go_wp2
        go_roundw
        case rel => exact ⟨1, by omega, by go_num, fun _ => by simpa using HQ.out, by omega, hE⟩
        case measure => simp [intOf]
    · cases hq : (y == 0)
      · have hqn : (y != 0) = true := by rw [bne, hq]; rfl
        have HV := Lib.hid (show or2 x y = y by unfold or2; rw [if_pos (HX.out (by omega))])
        go_wp2
        go_ret
        exact ⟨by rw [HV.out]; rfl, hE⟩
      · have hqn : (y != 0) = false := by rw [bne, hq]; rfl
        have HQ := Lib.hid hq
        clear hq
        go_wp2
        go_roundw
        case rel => exact ⟨2, by omega, by go_num, fun _ => HX.out (by omega), fun _ => by simpa using HQ.out, hE⟩
        case measure => simp [intOf]
    · have HV := Lib.hid (show or2 x y = 0 by unfold or2; rw [if_pos (HX.out (by omega))]; exact HY.out (by omega))
      go_wp2
      go_ret
      exact ⟨by rw [HV.out]; rfl, hE⟩

end Go.Proofs.Ytedamnocolfmlaa

/- Owned: the comparison's walk. -/
namespace Go.Proofs.Ytedamnocolfmlaa
open Go.RowKit

theorem ldtu_K {C : Nat → Prop} {w : World} {B : Nat} {x : Ho} (h0 : rowD w B = #[.int .u32 x.t.a, .int .u32 x.t.b, .int .u16 x.t.c, .int .u16 x.t.d, .int .i64 x.n]) (hl : Lt B w) (hC : ¬ C B) (ρ : Operand → Value) (dst : Option Tmp) (q : Operand) (ty : TypeId) (pos : String) (after : Array Edge) (g : Option (Nat × Bool)) (hx : ρ q = .pointer (some ⟨B, 0, none⟩)) :
    ∀ w', Mv C w w' → (execOp ρ ⟨dst, .load 65 q, ty, pos, after, g⟩).run Try.prog w' = .ok (.value (tu x.t.a x.t.b x.t.c x.t.d)) w' := by
  intro w' hE
  have hr : rowD w' B = #[.int .u32 x.t.a, .int .u32 x.t.b, .int .u16 x.t.c, .int .u16 x.t.d, .int .i64 x.n] := by rw [rowD_same (hE.same B hl hC)]; exact h0
  have c0 : w'.cell? ⟨B, 0, none⟩ = some (.int .u32 x.t.a) := by rw [cell_rowD, hr]; rfl
  have c1 : w'.cell? ⟨B, 1, none⟩ = some (.int .u32 x.t.b) := by rw [cell_rowD, hr]; rfl
  have c2 : w'.cell? ⟨B, 2, none⟩ = some (.int .u16 x.t.c) := by rw [cell_rowD, hr]; rfl
  have c3 : w'.cell? ⟨B, 3, none⟩ = some (.int .u16 x.t.d) := by rw [cell_rowD, hr]; rfl
  clear hr
  simp only [execOp, hx]
  go_simp
theorem ldn_K {C : Nat → Prop} {w : World} {B : Nat} {x : Ho} (h0 : rowD w B = #[.int .u32 x.t.a, .int .u32 x.t.b, .int .u16 x.t.c, .int .u16 x.t.d, .int .i64 x.n]) (hl : Lt B w) (hC : ¬ C B) (ρ : Operand → Value) (dst : Option Tmp) (q : Operand) (ty : TypeId) (pos : String) (after : Array Edge) (g : Option (Nat × Bool)) (hx : ρ q = .pointer (some ⟨B, 4, none⟩)) :
    ∀ w', Mv C w w' → (execOp ρ ⟨dst, .load 3 q, ty, pos, after, g⟩).run Try.prog w' = .ok (.value (.int .i64 x.n)) w' := by
  intro w' hE
  have hr : rowD w' B = #[.int .u32 x.t.a, .int .u32 x.t.b, .int .u16 x.t.c, .int .u16 x.t.d, .int .i64 x.n] := by rw [rowD_same (hE.same B hl hC)]; exact h0
  have c0 : w'.cell? ⟨B, 4, none⟩ = some (.int .i64 x.n) := by rw [cell_rowD, hr]; rfl
  clear hr
  simp only [execOp, hx]
  go_simp
set_option maxRecDepth 100000 in
set_option maxHeartbeats 4000000 in
theorem owned1_any (x y : Ho) (w : World) :
    Calls Try.prog 32 #[.agg #[.int .u32 x.t.a, .int .u32 x.t.b, .int .u16 x.t.c, .int .u16 x.t.d, .int .i64 x.n], .agg #[.int .u32 y.t.a, .int .u32 y.t.b, .int .u16 y.t.c, .int .u16 y.t.d, .int .i64 y.n]] w fun e w' => e = .returned (.int .i64 (cmH x y)) ∧ Ext w w' := by
  go_enter Try.func32, Try.ntmps32
  go_upto_region 1 with (fail)
  obtain ⟨W0, hW⟩ : ∃ W0, (w.alloc (.cells #[.int .u32 x.t.a, .int .u32 x.t.b, .int .u16 x.t.c, .int .u16 x.t.d, .int .i64 x.n] 97)).alloc (.cells #[.int .u32 y.t.a, .int .u32 y.t.b, .int .u16 y.t.c, .int .u16 y.t.d, .int .i64 y.n] 97) = W0 := ⟨_, rfl⟩
  have g0 : Ext w W0 := by rw [← hW]; exact Ext.al (Ext.al (Ext.rf _) _) _
  have rx0 : rowD W0 w.heap.size = #[.int .u32 x.t.a, .int .u32 x.t.b, .int .u16 x.t.c, .int .u16 x.t.d, .int .i64 x.n] := by rw [← hW]; simp [go_sem]
  have ry0 : rowD W0 (w.heap.size + 1) = #[.int .u32 y.t.a, .int .u32 y.t.b, .int .u16 y.t.c, .int .u16 y.t.d, .int .i64 y.n] := by rw [← hW]; simp [go_sem]
  have lx0 : Lt w.heap.size W0 := by rw [← hW]; simp [go_sem]
  have ly0 : Lt (w.heap.size + 1) W0 := by rw [← hW]; simp [go_sem]
  rw [hW]
  clear hW
  refine wp_region_K (fun _ => False) (by kernel_rfl) ?_
  obtain ⟨W1, hW1⟩ : ∃ W1, W0.drew = W1 := ⟨_, rfl⟩
  have g1 : Ext W0 W1 := by rw [← hW1]; exact Ext.dr (Ext.rf _)
  rw [hW1]
  clear hW1
  have rx : rowD W1 w.heap.size = #[.int .u32 x.t.a, .int .u32 x.t.b, .int .u16 x.t.c, .int .u16 x.t.d, .int .i64 x.n] := row_ext' g1 lx0 rx0
  have ry : rowD W1 (w.heap.size + 1) = #[.int .u32 y.t.a, .int .u32 y.t.b, .int .u16 y.t.c, .int .u16 y.t.d, .int .i64 y.n] := row_ext' g1 ly0 ry0
  have lx : Lt w.heap.size W1 := Nat.lt_of_lt_of_le lx0 g1.size
  have ly : Lt (w.heap.size + 1) W1 := Nat.lt_of_lt_of_le ly0 g1.size
  refine withK (N := 13) (R := SchOwc) (E := ((Try.f32.body.bind (findR 1)).getD #[])) (by kernel_rfl) schOwc (by kernel_rfl) fun hS => ?_
  have hT := hS.2.1
  refine takeD (N := 13) (k := 0) (v := .pointer (some ⟨w.heap.size, 0, none⟩)) hS.1 hT rfl (by kernel_rfl) (fun _ _ => by kernel_rfl) fun hU => ?_
  clear hT
  have hT := hU
  clear hU
  refine takeD (N := 13) (k := 1) (v := tu x.t.a x.t.b x.t.c x.t.d) hS.1 hT rfl (by kernel_rfl) (ldtu_K rx lx (fun h => h) _ _ _ _ _ _ _ (by kernel_rfl)) fun hU => ?_
  clear hT
  have hT := hU
  clear hU
  refine takeD (N := 13) (k := 2) (v := .pointer (some ⟨w.heap.size + 1, 0, none⟩)) hS.1 hT rfl (by kernel_rfl) (fun _ _ => by kernel_rfl) fun hU => ?_
  clear hT
  have hT := hU
  clear hU
  refine takeD (N := 13) (k := 3) (v := tu y.t.a y.t.b y.t.c y.t.d) hS.1 hT rfl (by kernel_rfl) (ldtu_K ry ly (fun h => h) _ _ _ _ _ _ _ (by kernel_rfl)) fun hU => ?_
  clear hT
  have hT := hU
  clear hU
  refine takeD (N := 13) (k := 5) (v := .pointer (some ⟨w.heap.size, 4, none⟩)) hS.1 hT rfl (by kernel_rfl) (fun _ _ => by kernel_rfl) fun hU => ?_
  clear hT
  have hT := hU
  clear hU
  refine takeD (N := 13) (k := 6) (v := .int .i64 x.n) hS.1 hT rfl (by kernel_rfl) (ldn_K rx lx (fun h => h) _ _ _ _ _ _ _ (by kernel_rfl)) fun hU => ?_
  clear hT
  have hT := hU
  clear hU
  refine takeD (N := 13) (k := 7) (v := .pointer (some ⟨w.heap.size + 1, 4, none⟩)) hS.1 hT rfl (by kernel_rfl) (fun _ _ => by kernel_rfl) fun hU => ?_
  clear hT
  have hT := hU
  clear hU
  refine takeD (N := 13) (k := 8) (v := .int .i64 y.n) hS.1 hT rfl (by kernel_rfl) (ldn_K ry ly (fun h => h) _ _ _ _ _ _ _ (by kernel_rfl)) fun hU => ?_
  clear hT
  have hT := hU
  clear hU
  refine soleD hS.2.2.1 (callD (R := fun v _ => v = .int .i64 (cmpT x.t y.t)) rfl rfl (by kernel_rfl) ((cmp_any x.t y.t W1).mono fun e w' h => ⟨_, h.1, rfl, h.2⟩) fun v1 W2 g2 e1 => ?_)
  subst e1
  refine soleD hS.2.2.2.1 (callD (R := fun v _ => v = .int .i64 (cmpI x.n y.n)) rfl rfl (by kernel_rfl) ((compare_i64 x.n y.n W2).mono fun e w' h => ⟨_, h.1, rfl, by rw [h.2]; exact Ext.rf _⟩) fun v2 W3 g3 e2 => ?_)
  subst e2
  refine soleD hS.2.2.2.2.1 (makeD (v := .slice (some ⟨W3.heap.size, 0, none⟩) 2 2) (w1 := W3.alloc (.cells #[.int .i64 (cmpT x.t y.t), .int .i64 (cmpI x.n y.n)] 3)) rfl rfl (by kernel_rfl) (Mv.of_ext (Ext.al (Ext.rf _) _)) ?_)
  refine soleD hS.2.2.2.2.2.1 (callD (R := fun v _ => v = .int .i64 (or2 (cmpT x.t y.t) (cmpI x.n y.n))) rfl rfl (by kernel_rfl) ((or_two _ _ W3).mono fun e w' h => ⟨_, h.1, rfl, h.2⟩) fun v3 W4 g4 e3 => ?_)
  subst e3
  refine soleD hS.2.2.2.2.2.2.1 (makeD (v := .int .i64 (or2 (cmpT x.t y.t) (cmpI x.n y.n))) rfl rfl (by kernel_rfl) (Mv.refl _ _) ?_)
  refine doneK hS.2.2.2.2.2.2.2 ?_
  clear hS hT
  go_simp
  go_wp2
  go_ret
  refine ⟨?_, ((((g0.tr g1).tr g2).tr g3).tr (Ext.al (Ext.rf _) _)).tr g4⟩
  unfold cmH or2
  rfl
theorem enters_owned1 : ∀ args w, (callFunc 32 args).run Try.prog w = .ok (.enter 32 args) w := enters_of Try.func32 (by kernel_rfl) rfl
theorem owned1_cl (x y : Ho) (w : World) : Calls Try.prog 32 (#[.agg #[.int .u32 x.t.a, .int .u32 x.t.b, .int .u16 x.t.c, .int .u16 x.t.d, .int .i64 x.n], .agg #[.int .u32 y.t.a, .int .u32 y.t.b, .int .u16 y.t.c, .int .u16 y.t.d, .int .i64 y.n]] ++ #[]) w fun e w' => e = .returned (.int .i64 (cmH x y)) ∧ Ext w w' := by
  rw [show (#[Value.agg #[.int .u32 x.t.a, .int .u32 x.t.b, .int .u16 x.t.c, .int .u16 x.t.d, .int .i64 x.n], Value.agg #[.int .u32 y.t.a, .int .u32 y.t.b, .int .u16 y.t.c, .int .u16 y.t.d, .int .i64 y.n]] ++ #[] : Array Value) = #[.agg #[.int .u32 x.t.a, .int .u32 x.t.b, .int .u16 x.t.c, .int .u16 x.t.d, .int .i64 x.n], .agg #[.int .u32 y.t.a, .int .u32 y.t.b, .int .u16 y.t.c, .int .u16 y.t.d, .int .i64 y.n]] from rfl]
  exact owned1_any x y w

end Go.Proofs.Ytedamnocolfmlaa

/- Owned: what is gathered. -/
namespace Go.Proofs.Ytedamnocolfmlaa
open Go.RowKit

def agH (s : Nat × Ag) : List Ho := s.2.xs.map fun c => ⟨c.t, (s.1 : Int)⟩
/-- All holders, agent by agent. -/
def allH (x : Wd) : List Ho := (agsL x).flatMap agH
/-- No tuple twice. -/
def onceX (x : Wd) : Bool := decide ((allH x).map fun h => h.t).Nodup
def allN (x : Wd) (n : Nat) : List Ho := ((agsL x).take n).flatMap agH
theorem allN_succ {x : Wd} {n : Nat} {s : Nat × Ag} (h : (agsL x)[n]? = some s) : allN x (n + 1) = allN x n ++ agH s := by
  unfold allN
  rw [List.take_add_one, h]
  simp
theorem allN_all (x : Wd) : allN x (agsL x).length = allH x := by unfold allN allH; rw [List.take_length]
theorem allN_le (x : Wd) (n : Nat) : (allN x n).length ≤ (allH x).length := by
  unfold allN allH
  rw [← List.take_append_drop n (agsL x), List.flatMap_append, List.length_append, List.take_append_drop]
  omega
/-- A variable holds a row of holders of its own. -/
def HoldH (B base : Nat) (xs : List Ho) (W : World) : Prop := ∃ v, Boxed W B 74 v ∧ W.ownsRow base 97 5 v xs.length (flH xs)
theorem HoldH.mv {B base : Nat} {xs : List Ho} {A A' : World} {C : Nat → Prop} (h : HoldH B base xs A) (hm : Mv C A A') (hb : ¬ C B) (hc : ∀ k, base ≤ k → ¬ C k) : HoldH B base xs A' := by
  obtain ⟨v, h1, h2⟩ := h
  exact ⟨v, boxed_mv h1 hm hb, ownsRow_mv h2 hm hc⟩
theorem info_ho : (Try.prog.info? 97).map (fun i => (i.zero, i.size, i.bytes)) = some (some (.agg #[.int .u32 0, .int .u32 0, .int .u16 0, .int .u16 0, .int .i64 0]), 5, 24) := by kernel_rfl
theorem cell_five_new (w : World) (x : Ho) (t : TypeId) : ∀ j u, x.cl[j]? = some u → (w.alloc (.cells #[.int .u32 x.t.a, .int .u32 x.t.b, .int .u16 x.t.c, .int .u16 x.t.d, .int .i64 x.n] t)).cell? ((⟨w.heap.size, 0, none⟩ : Addr).add j) = some u := by
  intro j u hu
  have e : (⟨w.heap.size, 0, none⟩ : Addr).add j = ⟨w.heap.size, j, none⟩ := by unfold Addr.add; split <;> simp_all
  rw [e, cell_rowD, rowD_new]
  unfold Ho.cl at hu
  simpa using hu
theorem enters_agents1' : ∀ args w, (callFunc 50 args).run Try.prog w = .ok (.enter 50 args) w := enters_agents1
theorem loadho {w : World} {b o : Nat} {p : Option Addr} {m c : Nat} (h : w.cell? ⟨b, o, none⟩ = some (.slice p m c)) : (loadVar 74 ⟨b, o, none⟩).run Try.prog w = .ok (.slice p m c) w := by go_simp
set_option maxHeartbeats 1000000 in
theorem insertion_nil (f : Value) (w : World) : Calls Try.prog 69 #[.slice none 0 0, .int .i64 0, .int .i64 0, f] w fun e w' => (∃ v, e = .returned v) ∧ Ext w w' := by
  go_enter Try.func69, Try.ntmps69
  go_wp2
  go_loop [8, 9] (fun a _ => a = .int .i64 1) (fun _ _ => 0)
  case atStart => rfl
  case round =>
    subst hrel
    go_wp2
    go_end0
    exact ⟨⟨_, rfl⟩, Ext.rf _⟩
set_option maxHeartbeats 1000000 in
theorem stable_nil (f : Value) (w : World) : Calls Try.prog 51 #[.slice none 0 0, .int .i64 0, f] w fun e w' => (∃ v, e = .returned v) ∧ Ext w w' := by
  go_enter Try.func51, Try.ntmps51
  go_wp2
  go_loop [7, 8] (fun a b => a = .int .i64 0 ∧ b = .int .i64 20) (fun _ _ => 0)
  case atStart => exact ⟨rfl, rfl⟩
  case round =>
    obtain ⟨rfl, rfl⟩ := hrel
    go_wp2_with (go_at_call 69; go_must (with_reducible refine (insertion_nil _ _).mono ?_); rintro e w2 ⟨⟨v, rfl⟩, g2⟩)
    go_loop [6, 7, 8, 9] (fun q _ _ _ => q = .int .i64 20) (fun _ _ _ _ => 0)
    case atStart => rfl
    case round =>
      subst hrel
      go_wp2
      go_end0
      exact ⟨⟨_, rfl⟩, g2⟩
set_option maxHeartbeats 1000000 in
theorem sort_nil (f : Value) (w : World) : Calls Try.prog 31 #[.slice none 0 0, f] w fun e w' => (∃ v, e = .returned v) ∧ Ext w w' := by
  go_enter Try.func31, Try.ntmps31
  go_wp2_with (go_at_call 51; go_must (with_reducible refine (stable_nil _ _).mono ?_); rintro e w2 ⟨⟨v, rfl⟩, g2⟩)
  go_end0
  exact ⟨⟨_, rfl⟩, g2⟩
/-- What is sorted: a row, or nothing. -/
structure SortedH (W w' : World) (base : Nat) (q : Option Addr) (n c : Nat) (xs : List Ho) : Prop where
  at_ : ∃ C : List Ho, C.Perm xs ∧ Srt ltH C ∧ SlH w' q C ∧ Mv (fun k => base ≤ k) W w'
theorem sort_held {xs : List Ho} (hso : SortOk xs.length) (hl : xs.length ≤ 1000) {W : World} {base : Nat} {q : Option Addr} {c : Nat} (hrow : W.ownsRow base 97 5 (.slice q xs.length c) xs.length (flH xs)) :
    Calls Try.prog 31 #[.slice q xs.length c, .func (.func 32) #[] #[]] W fun e w' => (∃ v, e = .returned v) ∧ SortedH W w' base q xs.length c xs := by
  rcases hrow.2 with ⟨h, h0⟩ | ⟨g, cap, cur, h, hg, _⟩
  · have hx : xs = [] := List.length_eq_zero_iff.1 h0
    subst hx
    cases h
    refine (sort_nil _ W).mono ?_
    rintro e w' ⟨h1, h2⟩
    exact ⟨h1, ⟨[], List.Perm.refl _, Srt.nil, SlH.nil _ _, Mv.of_ext h2⟩⟩
  · cases h
    have hr : RowH W g c xs := ⟨ownsRow_le hrow (Nat.zero_le _)⟩
    refine (hso (fun _ => True) ltH cmH (fun x y _ _ => cmH_lt x y) 32 #[] enters_owned1 (fun x y W _ _ => owned1_cl x y W) totH g c xs (fun _ _ => trivial) rfl W hr).mono ?_
    rintro e w' ⟨h1, ⟨C, h2, h3, h4⟩, h5⟩
    refine ⟨h1, ⟨C, h4, h3, ?_, h5.mono fun k _ e => by subst e; exact hg⟩⟩
    obtain ⟨p, c2, e, -, hs⟩ := SlH.own h2.own
    cases e
    exact hs
theorem results_ct {P : Program} {fn : Func} {p u : Tmp} {ty : TypeId} {v : Value} (h : fn.results = #[.cell p ty, .tmp u]) (tmps : Array Value) (w : World) (g : Nat)
    (hp : tmps.getD p undef = .pointer (some ⟨g, 0, none⟩)) (hl : (loadVar ty ⟨g, 0, none⟩).run P w = .ok v w) : (results fn tmps).run P w = .ok (.tuple #[v, tmps.getD u undef]) w := by
  have hp' : tmps[p]?.getD undef = .pointer (some ⟨g, 0, none⟩) := by simpa using hp
  simp [results, h, hp', asAddr, hl]
theorem once_false {x : Wd} {C : List Ho} (hp : C.Perm (allH x)) {m : Nat} {z y : Ho} (hz : C[m + 1]? = some z) (hy : C[m]? = some y) (he : z.t = y.t) : onceX x = false := by
  unfold onceX
  rw [decide_eq_false_iff_not]
  intro hn
  have hn2 : (C.map fun h => h.t).Nodup := (hp.map _).nodup_iff.2 hn
  have := List.pairwise_iff_getElem.1 hn2 m (m + 1)
  obtain ⟨h1, e1⟩ := List.getElem?_eq_some_iff.1 hz
  obtain ⟨h2, e2⟩ := List.getElem?_eq_some_iff.1 hy
  have h3 := this (by simpa using h2) (by simpa using h1) (by omega)
  simp only [List.getElem_map] at h3
  rw [e1, e2] at h3
  exact h3 he.symm
theorem once_true {x : Wd} {C : List Ho} (hp : C.Perm (allH x)) (hs : Srt ltH C) (hno : ∀ j, 0 < j → j < C.length → ∀ a b, C[j]? = some a → C[j - 1]? = some b → ¬ a.t = b.t) : onceX x = true := by
  unfold onceX
  rw [decide_eq_true_iff]
  refine (hp.map _).nodup_iff.1 (List.pairwise_iff_getElem.2 fun i j hi hj hij => ?_)
  simp only [List.getElem_map]
  simp only [List.length_map] at hi hj
  intro e
  have h1 : ¬ ltH C[i + 1] C[i] := List.pairwise_iff_getElem.1 hs i (i + 1) hi (by omega) (by omega)
  have h2 : j = i + 1 ∨ ¬ ltH C[j] C[i + 1] := by
    by_cases hq : j = i + 1
    · exact .inl hq
    · exact .inr (List.pairwise_iff_getElem.1 hs (i + 1) j (by omega) hj (by omega))
  have hn := hno (i + 1) (by omega) (by omega) _ _ (List.getElem?_eq_getElem (by omega)) (List.getElem?_eq_getElem (by omega))
  rcases h2 with rfl | h2
  · exact hn e.symm
  · unfold ltH at h1 h2
    rw [← e] at h2
    rcases ltT_tot C[i + 1].t C[i].t with h | h | h
    · exact h1 (.inl h)
    · exact hn h
    · exact h2 (.inl h)
set_option maxRecDepth 100000 in
set_option maxHeartbeats 8000000 in
theorem owned_any (x : Wd) (w : World) (hx : ∀ i, i < 6 → SlC w (x.ag i).p (x.ag i).xs) (hl : (allH x).length ≤ 1000) (hso : SortOk (allH x).length) :
    Calls Try.prog 14 #[.agg (wdv x)] w fun e w' => ∃ p c, e = .returned (.tuple #[.slice p (allH x).length c, .bool (onceX x)]) ∧ Ext w w' := by
  obtain ⟨i0, hi, hz0, hz1, hz2⟩ := info_parts info_ho
  have HX := Lib.hid hx
  have HSO := Lib.hid hso
  clear hx hso
  refine (callsIn_wide (n := 5)).1 ?_
  refine callsIn_of_wp_marks Try.func14 rfl trivial ?_ rfl
  simp only [Try.ntmps14, List.size_toArray, List.length_cons, List.length_nil, Nat.reduceAdd, Nat.reduceSub, Array.replicate_succ, Array.replicate_zero, List.push_toArray, List.append_toArray, List.nil_append, List.cons_append]
  refine wpIn_wide.2 ?_
  go_wp2_with (go_at_call 30; (with_reducible refine (agents_any x _).mono ?_); rintro e w1 ⟨⟨B, rfl, hAB, lB, cB⟩, g1, rA, lA⟩)
  have E1 : Ext w w1 := (Ext.al (Ext.al (Ext.rf _) _) _).tr g1
  simp only [World.size_alloc] at hAB rA lA
  have z1 : w.heap.size + 1 + 1 < w1.heap.size := by have := lA; unfold Lt at this; exact this
  have f3 : Boxed w1 (w.heap.size + 1) 74 (.slice none 0 0) := by
    have h := Boxed.new (w.alloc (.cells (wdv x) 53)) 74 (.slice none 0 0)
    simp only [World.size_alloc] at h
    exact (g1.block _ (by simp)).trans h
  clear g1
  refine (wpIn_wide (n := 5)).1 ?_
  refine wpIn_range rfl (by omega) (gf := 50) (lb := #[.pointer (some ⟨w.heap.size + 1 + 1, 0, none⟩), .pointer (some ⟨B, 0, none⟩)]) rfl trivial enters_agents1
    (agents_iter _ x w1 (w.heap.size + 1 + 1) B (fun k => k = w.heap.size + 1) rA lA cB lB (fun e => by omega))
    (fun k e => e.elim) (fun k e => by omega) (fun _ => rfl)
    (fun i W => HoldH (w.heap.size + 1) (w1.heap.size + 2) (allN x i) W ∧ w1.heap.size ≤ W.heap.size) (fun _ _ => False)
    ?hI (fun _ _ _ h _ => h) ⟨⟨_, f3, by simpa [allN, flH] using World.ownsRow_nil _ _ _ _⟩, Nat.le_refl _⟩
    (fun s a' W => ∃ Bx, w1.heap.size + 2 ≤ Bx ∧ Bx < W.heap.size ∧ rowD W Bx = agv s.2 ∧ a' = { tmps := #[.agg (wdv x), .pointer (some ⟨w.heap.size, 0, none⟩), .pointer (some ⟨w.heap.size + 1, 0, none⟩), .bool false, .int .i64 s.1, .pointer (some ⟨Bx, 0, none⟩), undef, undef, undef, .agg (wdv x), .func (.func 50) #[] #[.pointer (some ⟨w.heap.size + 1 + 1, 0, none⟩), .pointer (some ⟨B, 0, none⟩)], .int .i64 s.1, .agg (agv s.2), undef, undef, undef, undef, undef, undef, undef, undef, undef, undef, undef, undef, undef, undef, undef, undef, undef, undef, undef, undef, undef, undef, undef, undef, undef, undef, undef, undef, undef, undef, undef, undef, undef, undef, undef, undef, undef, undef, undef, undef, undef], defers := [] })
    ?hAx ?assign ?body ?done ?stop
  case hI =>
    rintro i A B' ⟨h1, h4⟩ hm
    exact ⟨h1.mv hm (by rintro (h | h | h) <;> first | exact h.elim | omega) (fun k hk => by rintro (h | h | h) <;> first | exact h.elim | omega), Nat.le_trans h4 hm.size⟩
  case hAx =>
    rintro s a' A B' ⟨Bx, h1, h2, h3, h4⟩ hm
    exact ⟨Bx, h1, Nat.lt_of_lt_of_le h2 hm.size, by rw [rowD_same (hm.same Bx h2 (by omega))]; exact h3, h4⟩
  case assign =>
    rintro y i s W K hsz' hv hI hx hK
    gi_upto_region 3 with (fail)
    refine wpIn_region_lit ?_
    refine wpListIn_val rfl (by intro c h; cases h) rfl (exec_alloc_ag _ _ _ _ _ _ _) ?_
    refine wpListIn_skp rfl (by intro c h; cases h) rfl (store_new_ag (a := s.2) _ _ _ _ _ _ _ _ _ (by kernel_rfl) (by kernel_rfl)) ?_
    refine wpListIn_end ?_
    obtain ⟨W2, hW2⟩ : ∃ W2, setAt (W.alloc (.cells Try.zeroCells47 47)) W.heap.size 0 (agv s.2) = W2 := ⟨_, rfl⟩
    have g2 : Ext W W2 := by rw [← hW2]; exact Ext.sa _ (Nat.le_refl _) (Ext.al (Ext.rf _) _)
    have hR2 : rowD W2 W.heap.size = agv s.2 := by
      rw [← hW2]
      exact setAt_all _ _ _ (by rw [rowD_new, size_z47, size_agv])
    have lR2 : W.heap.size < W2.heap.size := by rw [← hW2]; simp [go_sem]
    rw [hW2]
    clear hW2
    obtain ⟨h1, h4⟩ := hI
    have m2 : Mv (fun _ => False) W W2 := Mv.of_ext g2
    refine hK _ _ (Mv.of_ext g2) ⟨h1.mv m2 (fun h => h) (fun _ _ h => h), Nat.le_trans h4 g2.size⟩ ⟨W.heap.size, hsz', lR2, hR2, rfl⟩
  case body =>
    rintro y i s a' W hyl ⟨rr, hr⟩ hsz' hv ⟨b1, b4⟩ hx ⟨Bx, h1, h2, h3, rfl⟩
    have lX : Lt Bx W := h2
    have hEW : Ext w W := Mv.ext_of E1 hv (fun k h => by rcases h with h | h; exact h.elim; omega)
    have HXS := Lib.hid hx
    have HV := Lib.hid hv
    obtain ⟨i6, hs6⟩ : ∃ j, j < 6 ∧ s = (j, x.ag j) := by
      have := List.mem_of_getElem? hx
      unfold agsL pickN at this
      rw [List.mem_map] at this
      obtain ⟨j, hj, e⟩ := this
      exact ⟨j, List.mem_range.1 (List.mem_filter.1 hj).1, e.symm⟩
    obtain ⟨hi6, rfl⟩ := hs6
    have HSL := Lib.hid (fun V (hV : Ext w V) => (HX.out i6 hi6).ext hV)
    have HN := Lib.hid (allN_succ hx)
    have HN1 := Lib.hid b1
    clear hx hr hv f3 rA cB b1
    have h3x : rowD W Bx = agv (x.ag i6) := h3
    have h66 : W.cell? ⟨Bx, 66, none⟩ = some (.slice (x.ag i6).p (x.ag i6).xs.length (x.ag i6).c) := by rw [cell_rowD, h3x]; exact get_ag_conns _
    clear h3 h3x
    generalize ha : x.ag i6 = a at *
    obtain ⟨id, idle, md, p, xs, c⟩ := a
    dsimp only at HSL h66
    gi_wp2
    have HA := Lib.hid ha
    clear ha
    gi_loopw [7, 16] (fun _ q wr => ∃ j : Nat, j ≤ xs.length ∧ q = .int .i64 j ∧ HoldH (w.heap.size + 1) (w1.heap.size + 2) (allN x i ++ ((xs.map fun c => (⟨c.t, (i6 : Int)⟩ : Ho)).take j)) wr ∧ Mv (fun k => k = w.heap.size + 1 ∨ w1.heap.size + 2 ≤ k) W wr) (fun _ q _ => xs.length - (intOf q).toNat)
    case atStart => exact ⟨0, Nat.zero_le _, rfl, by simpa using HN1.out, Mv.refl _ _⟩
    case round =>
      obtain ⟨j, hj, rfl, hH, hM⟩ := hrel
      have hEr : Ext w wr := Mv.ext_of hEW hM (fun k h => by omega)
      by_cases hlt : j < xs.length
      · have hlt' : (j : Int) < xs.length := by omega
        obtain ⟨b, off, rfl, hb, c0, c1, c2, c3, c4, c5⟩ := (HSL.out _ hEr) j hlt
        obtain ⟨z, hz⟩ : ∃ z, xs[j] = z := ⟨_, rfl⟩
        rw [hz] at c0 c1 c2 c3 c4 c5
        have lbr : Lt b wr := hb
        obtain ⟨L, hL⟩ : ∃ L, allN x i ++ ((xs.map fun c => (⟨c.t, (i6 : Int)⟩ : Ho)).take j) = L := ⟨_, rfl⟩
        have hnext : allN x i ++ ((xs.map fun c => (⟨c.t, (i6 : Int)⟩ : Ho)).take (j + 1)) = L ++ [⟨z.t, (i6 : Int)⟩] := by
          rw [← hL, List.take_succ_eq_append_getElem (by simpa using hlt), List.append_assoc]
          simp [hz]
        have hLl : L.length < 1000 ∧ xs.length ≤ 1000 := by
          have h1 := allN_le x (i + 1)
          rw [HN.out, List.length_append] at h1
          have h2 : (agH (i6, (⟨id, idle, md, some ⟨b, off, none⟩, xs, c⟩ : Ag))).length = xs.length := by unfold agH; rw [List.length_map]
          rw [← hL, List.length_append, List.length_take, List.length_map]
          omega
        obtain ⟨hLl, hxl⟩ := hLl
        have hj1000 : (j : Int) ≤ 1000 := by omega
        have HNX := Lib.hid hnext
        have HM := Lib.hid hM
        have HZ := Lib.hid hz
        rw [hL] at hH
        obtain ⟨v, hbx, hrow⟩ := hH
        have hcv := hbx.cell
        have HR := Lib.hid hrow
        have hnB : ∀ r, v.ownBlock = some r → w1.heap.size + 2 ≤ r := ownBlock_ge HR.out
        have HNB := Lib.hid hnB
        have hzr : w1.heap.size + 2 ≤ wr.heap.size := Nat.le_trans hsz' HM.out.size
        clear hL hnext hM hrow hnB hz hEr
        gi_upto_region 7 with (fail)
        obtain ⟨W2, hW2⟩ : ∃ W2, wr.alloc (.cells #[.int .u32 z.t.a, .int .u32 z.t.b, .int .u16 z.t.c, .int .u16 z.t.d, .int .i64 z.s, .int .i64 z.l] 67) = W2 := ⟨_, rfl⟩
        have g2 : Ext wr W2 := by rw [← hW2]; exact Ext.al (Ext.rf _) _
        have rz : rowD W2 wr.heap.size = #[.int .u32 z.t.a, .int .u32 z.t.b, .int .u16 z.t.c, .int .u16 z.t.d, .int .i64 z.s, .int .i64 z.l] := by rw [← hW2]; simp [go_sem]
        have lz : Lt wr.heap.size W2 := by rw [← hW2]; simp [go_sem]
        rw [hW2]
        clear hW2
        have z0 : W2.cell? ⟨wr.heap.size, 0, none⟩ = some (.int .u32 z.t.a) := by rw [cell_rowD, rz]; rfl
        have z1' : W2.cell? ⟨wr.heap.size, 1, none⟩ = some (.int .u32 z.t.b) := by rw [cell_rowD, rz]; rfl
        have z2 : W2.cell? ⟨wr.heap.size, 2, none⟩ = some (.int .u16 z.t.c) := by rw [cell_rowD, rz]; rfl
        have z3 : W2.cell? ⟨wr.heap.size, 3, none⟩ = some (.int .u16 z.t.d) := by rw [cell_rowD, rz]; rfl
        have hb2 : Boxed W2 (w.heap.size + 1) 74 v := boxed_mv hbx (Mv.of_ext (C := fun _ => False) g2) (fun h => h)
        have HR2 := Lib.hid (own_ext HR.out g2)
        have hc2 := hb2.cell
        have HM2 := Lib.hid (HM.out.tr g2)
        have hz2r := Nat.le_trans hzr g2.size
        clear c0 c1 c2 c3 c4 c5 hbx hcv rz HR HM
        gi_wp2_with (gi_at_builtin; refine wpListIn_append_own _ rfl _ _ 74 rfl (w1.heap.size + 2) 97 i0 (.agg #[.int .u32 0, .int .u32 0, .int .u16 0, .int .u16 0, .int .i64 0]) 5 24 Try.underlying74 hi hz0 hz1 hz2 rfl (by decide) _ _ _ rfl (HR2.out.alloc _) ⟨W2.heap.size, 0, none⟩ 1 1 (⟨z.t, (i6 : Int)⟩ : Ho).cl rfl rfl (cell_five_new _ _ _) (by simp [Value.oneCell', Ho.cl]) (by unfold maxLen; omega) (by omega) (by simp; omega) ?_; intro v' w2 hown' hgrow _; have HOW := Lib.hid hown'; obtain ⟨g', cap', rfl⟩ := ownsRow_succ hown'; have hb3 : Boxed w2 (w.heap.size + 1) 74 v := (hb2.alloc _).kept hgrow (fun e => by have := HNB.out _ e.symm; omega); have hc3 := hb3.cell; have hf3 := hb3.frozen; have HB3 := Lib.hid hb3; clear hown' hb3)
        have hm2 : Mv (fun k => k = w.heap.size + 1 ∨ w1.heap.size + 2 ≤ k) W2 w2 := (Mv.al _ (Mv.refl _ _)).trans (Mv.of_grown hgrow fun r e => .inl (.inr (HNB.out r e)))
        have HMM := Lib.hid (HM2.out.trans hm2)
        have HROW : Hid ((w2.setCell ⟨w.heap.size + 1, 0, none⟩ (.slice (some ⟨g', 0, none⟩) (L.length + 1) cap')).ownsRow (w1.heap.size + 2) 97 5 (.slice (some ⟨g', 0, none⟩) (L.length + 1) cap') (L.length + 1) (flH L ++ (⟨z.t, (i6 : Int)⟩ : Ho).cl)) := Lib.hid (ownsRow_mv (C := fun k => k = w.heap.size + 1) HOW.out (Mv.st _ (.inl rfl) (Mv.refl _ _)) (fun k hk e => by omega))
        refine ⟨⟨j + 1, hlt, by go_num, ⟨_, HB3.out.set _, ?_⟩, Mv.st _ (.inl (.inl rfl)) HMM.out⟩, by simp [intOf]; omega⟩
        rw [HNX.out, flH_snoc, List.length_append]
        exact HROW.out
      · obtain rfl : j = xs.length := by omega
        have hH' : HoldH (w.heap.size + 1) (w1.heap.size + 2) (allN x (i + 1)) wr := by
          rw [HN.out]
          rw [show agH (i6, (⟨id, idle, md, p, xs, c⟩ : Ag)) = xs.map fun c => (⟨c.t, (i6 : Int)⟩ : Ho) from rfl]
          rw [List.take_of_length_le (by simp)] at hH
          exact hH
        have hle := Nat.le_trans b4 hM.size
        have HH := Lib.hid hH'
        have HM := Lib.hid hM
        clear hH hM hEr
        gi_wp2
        exact ⟨HM.out, HH.out, hle⟩
  case done =>
    rintro W ⟨hH, b4⟩ hv hK
    rw [allN_all] at hH
    obtain ⟨v, hbx, hrow⟩ := hH
    have hEW : Ext w W := Mv.ext_of E1 hv (fun k h => by rcases h with h | h; exact h.elim; omega)
    have hc := hbx.cell
    obtain ⟨q, nn, cc, rfl⟩ := ownsRow_slice hrow
    have hnn : nn = (allH x).length := ownsRow_num hrow
    subst hnn
    have HS := Lib.hid (sort_held HSO.out hl hrow)
    obtain ⟨n, hn⟩ : ∃ n, (allH x).length = n := ⟨_, rfl⟩
    have hlen : ((allH x).length : Int) ≤ 1000 := by omega
    rw [hn] at hc hlen HS hbx
    have HNN := Lib.hid hn
    clear hn
    have HV := Lib.hid hv
    have HE := Lib.hid hEW
    have HB := Lib.hid hbx
    have HK := Lib.hid hK
    clear hv hrow f3 rA cB hEW hbx hK
    go_wp2_with (go_at_call 31; go_must (with_reducible refine (HS.out).mono ?_); rintro e w2 ⟨⟨v, rfl⟩, ⟨C, p1, s1, sl, m1⟩⟩; have hn1 : ¬ (w1.heap.size + 2 ≤ w.heap.size + 1) := (by omega); have lR : Lt (w.heap.size + 1) W := (by unfold Lt; omega); have hB2 := boxed_mv HB.out m1 hn1; have hc2 := hB2.cell; have hf2 := hB2.frozen; have lR2 : Lt (w.heap.size + 1) w2 := Nat.lt_of_lt_of_le lR m1.size; have HP1 := Lib.hid p1; have HS1 := Lib.hid s1; have HSL := Lib.hid sl; have HM1 := Lib.hid m1; clear p1 s1 sl m1 hc hB2)
    go_loopw [8, 32] (fun _ qa wr => ∃ k : Nat, k ≤ n ∧ qa = .int .i64 k ∧ (∀ j, 0 < j → j < k → ∀ a b, C[j]? = some a → C[j - 1]? = some b → ¬ a.t = b.t) ∧ Ext w2 wr) (fun _ qa _ => n - (intOf qa).toNat)
    case atStart => exact ⟨0, Nat.zero_le _, rfl, fun j h1 h2 => by omega, Ext.rf _⟩
    case round =>
      obtain ⟨k, hk, rfl, hno, hE2⟩ := hrel
      have hcr : wr.cell? ⟨w.heap.size + 1, 0, none⟩ = some (.slice q n cc) := (hE2.cell (p := ⟨w.heap.size + 1, 0, none⟩) lR2).trans hc2
      have lRr : Lt (w.heap.size + 1) wr := Nat.lt_of_lt_of_le lR2 hE2.size
      have hCn : C.length = n := by rw [← HNN.out]; exact HP1.out.length_eq
      have hfr : wr.frozen? ⟨w.heap.size + 1, 0, none⟩ = false := (hE2.frozen (p := ⟨w.heap.size + 1, 0, none⟩) lR2).trans hf2
      have HNO := Lib.hid hno
      have HE2 := Lib.hid hE2
      have HCN := Lib.hid hCn
      clear hno hc2
      by_cases hlt : k < n
      · have hlt' : (k : Int) < n := by omega
        obtain ⟨b, off, rfl, hb, c0, c1, c2, c3, c4⟩ := (HSL.out.ext hE2) k (by omega)
        obtain ⟨z, hz⟩ : ∃ z, C[k]'(by omega) = z := ⟨_, rfl⟩
        rw [hz] at c0 c1 c2 c3 c4
        have hz' : C[k]? = some z := by rw [List.getElem?_eq_getElem (by omega), hz]
        have HZ := Lib.hid hz'
        have lbr : Lt b wr := hb
        clear hz hz' hE2 hCn
        by_cases hk0 : k = 0
        · subst hk0
          go_wp2_with (fail)
          refine wp_region_later (by kernel_rfl) (by kernel_rfl) ?_; (repeat (go_big_quiet_step (fail))); refine wpQuiet_nil ?_; intro d
          have hd := later_ext d
          have HE3 := Lib.hid (HE2.out.tr hd)
          generalize later d = W3 at *
          clear hd c0 c1 c2 c3 c4
          go_wp2
          exact ⟨⟨1, by omega, by go_num, fun j h1 h2 => by omega, HE3.out⟩, by simp [intOf]; omega⟩
        · obtain ⟨m, rfl⟩ : ∃ m, k = m + 1 := ⟨k - 1, by omega⟩
          have hCN := HCN.out
          obtain ⟨b', off', hpe, -, d0, d1, d2, d3, d4⟩ := (HSL.out.ext HE2.out) m (by omega)
          cases hpe
          obtain ⟨y, hy⟩ : ∃ y, C[m]'(by omega) = y := ⟨_, rfl⟩
          rw [hy] at d0 d1 d2 d3 d4
          have HY := Lib.hid (show C[m]? = some y by rw [List.getElem?_eq_getElem (by omega), hy])
          have hg1 : decide ((0 : Int) < ((m + 1 : Nat) : Int)) = true := decide_eq_true (by omega)
          have hg2 : decide (0 < m + 1) = true := decide_eq_true (by omega)
          have hmn : (m : Int) < n := by omega
          have hm1n : ((m + 1 : Nat) : Int) < n := by omega
          have hmw : IntKind.i64.wrap (((m + 1 : Nat) : Int) - 1) = m := by rw [IntKind.wrap_i64]; omega
          clear hy hCN
          cases he : eqT z.t y.t
          · have HNEXT := Lib.hid (fun j (h1 : 0 < j) (h2 : j < m + 1 + 1) a b (ha : C[j]? = some a) (hb : C[j - 1]? = some b) => (show ¬ a.t = b.t from by
              by_cases hj : j = m + 1
              · subst hj
                rw [HZ.out] at ha
                rw [show m + 1 - 1 = m by omega, HY.out] at hb
                cases ha; cases hb
                intro e
                rw [eqT_iff.2 e] at he; cases he
              · exact HNO.out j h1 (by omega) a b ha hb))
            have he' : (z.t.a == y.t.a && z.t.b == y.t.b && z.t.c == y.t.c && z.t.d == y.t.d) = false := he
            have HEE := Lib.hid he
            clear he
            go_wp2_with (fail)
            refine wp_region_later (by kernel_rfl) (by kernel_rfl) ?_; (repeat (go_big_quiet_step (fail))); refine wpQuiet_nil ?_; intro d
            have hd := later_ext d
            have HE3 := Lib.hid (HE2.out.tr hd)
            generalize later d = W3 at *
            clear hd c0 c1 c2 c3 c4 d0 d1 d2 d3 d4
            go_wp2
            exact ⟨⟨m + 1 + 1, by omega, by go_num, HNEXT.out, HE3.out⟩, by simp [intOf]; omega⟩
          · have HO := Lib.hid (show onceX x = false from once_false HP1.out HZ.out HY.out (eqT_iff.1 he))
            have he' : (z.t.a == y.t.a && z.t.b == y.t.b && z.t.c == y.t.c && z.t.d == y.t.d) = true := he
            have HEE := Lib.hid he
            clear he
            go_wp2_with (fail)
            refine wp_region_later (by kernel_rfl) (by kernel_rfl) ?_; (repeat (go_big_quiet_step (fail))); refine wpQuiet_nil ?_; intro d
            have hd := later_ext d
            replace HE2 := Lib.hid (HE2.out.tr hd)
            have hcr : (later d).cell? ⟨w.heap.size + 1, 0, none⟩ = some (.slice (some ⟨b, off, none⟩) n cc) := (hd.cell (p := ⟨w.heap.size + 1, 0, none⟩) lRr).trans hcr
            have hfr : (later d).frozen? ⟨w.heap.size + 1, 0, none⟩ = false := (hd.frozen (p := ⟨w.heap.size + 1, 0, none⟩) lRr).trans hfr
            have lRr : Lt (w.heap.size + 1) (later d) := Nat.lt_of_lt_of_le lRr hd.size
            generalize later d = wr at *
            clear hd c0 c1 c2 c3 c4 d0 d1 d2 d3 d4
            go_wp2
            refine ⟨by simp, .inl ⟨_, _, rfl, run_takeDeferred ?_, ?_⟩⟩
            · have h1 : w2.heap[w1.heap.size]? = some (.deferred (some [])) := (HM1.out.same _ (Array.getElem?_eq_some_iff.1 HK.out).1 (by omega)).trans HK.out
              rw [← (HE2.out.block _ (Array.getElem?_eq_some_iff.1 h1).1).trans h1]
              simp only [World.setCell, Array.getElem?_modify]
              rw [if_neg (by omega)]
            · obtain ⟨W2, hW2⟩ : ∃ W2, ((wr.setCell ⟨w.heap.size + 1, 0, none⟩ (.slice (some ⟨b, off, none⟩) n cc)).putObj w1.heap.size (.deferred none)) = W2 := ⟨_, rfl⟩
              have hm3 : Mv (fun k => k = w.heap.size + 1 ∨ k = w1.heap.size) wr W2 := by
                rw [← hW2]
                exact (Mv.st _ (.inl (.inl rfl)) (Mv.refl _ _)).trans (Mv.put _ _ _ (.inr rfl))
              have hc3 : W2.cell? ⟨w.heap.size + 1, 0, none⟩ = some (.slice (some ⟨b, off, none⟩) n cc) := by
                rw [← hW2, cell_rowD, rowD_same (World.putObj_heap_other (by omega)), ← cell_rowD]
                exact World.cell?_setCell_same _ _ _ hcr
              have hE3 : Ext w w2 := Mv.ext_of HE.out HM1.out (fun k h => by have := E1.size; omega)
              have hE4 : Ext w W2 := Mv.ext_of (hE3.tr HE2.out) hm3 (fun k h => by have := E1.size; omega)
              rw [hW2]
              refine ⟨_, results_ct rfl _ _ (w.heap.size + 1) rfl (loadho hc3), (some ⟨b, off, none⟩), cc, ?_, hE4⟩
              rw [HNN.out, HO.out]
              rfl
      · obtain rfl : k = n := by omega
        have HO := Lib.hid (show onceX x = true from once_true HP1.out HS1.out (by rw [HCN.out]; exact HNO.out))
        clear hE2 hCn
        go_wp2
        refine ⟨by simp, .inl ⟨_, _, rfl, run_takeDeferred ?_, ?_⟩⟩
        · have h1 : w2.heap[w1.heap.size]? = some (.deferred (some [])) := (HM1.out.same _ (Array.getElem?_eq_some_iff.1 HK.out).1 (by omega)).trans HK.out
          rw [← (HE2.out.block _ (Array.getElem?_eq_some_iff.1 h1).1).trans h1]
          simp only [World.setCell, Array.getElem?_modify]
          rw [if_neg (by omega)]
        · obtain ⟨W2, hW2⟩ : ∃ W2, ((wr.setCell ⟨w.heap.size + 1, 0, none⟩ (.slice q k cc)).putObj w1.heap.size (.deferred none)) = W2 := ⟨_, rfl⟩
          have hm3 : Mv (fun k => k = w.heap.size + 1 ∨ k = w1.heap.size) wr W2 := by
            rw [← hW2]
            exact (Mv.st _ (.inl (.inl rfl)) (Mv.refl _ _)).trans (Mv.put _ _ _ (.inr rfl))
          have hc3 : W2.cell? ⟨w.heap.size + 1, 0, none⟩ = some (.slice q k cc) := by
            rw [← hW2, cell_rowD, rowD_same (World.putObj_heap_other (by omega)), ← cell_rowD]
            exact World.cell?_setCell_same _ _ _ hcr
          have hE3 : Ext w w2 := Mv.ext_of HE.out HM1.out (fun k h => by have := E1.size; omega)
          have hE4 : Ext w W2 := Mv.ext_of (hE3.tr HE2.out) hm3 (fun k h => by have := E1.size; omega)
          rw [hW2]
          refine ⟨_, results_ct rfl _ _ (w.heap.size + 1) rfl (loadho hc3), q, cc, ?_, hE4⟩
          rw [HNN.out, HO.out]
          rfl
  case stop => intro _ _ h; exact h.elim

end Go.Proofs.Ytedamnocolfmlaa

/- Watch: whether a bucket is sound: the search among numbers. -/
namespace Go.Proofs.Ytedamnocolfmlaa
open Go.RowKit

set_option maxHeartbeats 1000000 in
theorem indexFunc_I (g : Nat) (lb : Array Value) (eg : ∀ args w, (callFunc g args).run Try.prog w = .ok (.enter g args) w) (pr : Int → Bool) (p : Option Addr) (xs : List Int) (c : Nat) (w : World)
    (hs : SlI w p xs) (hl : xs.length ≤ 1000) (hf : ∀ x W, x ∈ xs → Ext w W → Calls Try.prog g (#[.int .i64 x] ++ lb) W fun e w' => e = .returned (.bool (pr x)) ∧ Ext W w') :
    Calls Try.prog 63 #[.slice p xs.length c, .func (.func g) #[] lb] w fun e w' => e = .returned (.int .i64 (idx pr xs)) ∧ Ext w w' := by
  have HF := Lib.hid hf
  clear hf
  go_enter Try.func63, Try.ntmps63
  go_wp2
  go_loopw [5, 8] (fun _ i wr => ∃ k : Nat, k ≤ xs.length ∧ i = .int .i64 k ∧ (∀ j, j < k → ∀ (hj : j < xs.length), pr xs[j] = false) ∧ Ext w wr) (fun _ i _ => xs.length - (intOf i).toNat)
  case atStart => exact ⟨0, Nat.zero_le _, rfl, fun j hj => by omega, Ext.rf _⟩
  case round =>
    obtain ⟨k, hk, rfl, hno, hE⟩ := hrel
    have HN := Lib.hid hno
    clear hno
    by_cases hlt : k < xs.length
    · have hil : (k : Int) < xs.length := by omega
      obtain ⟨b, off, rfl, hb, c0⟩ := (hs.ext hE) k hlt
      have lbb : Lt b wr := hb
      have HC := HF.out xs[k] wr (List.getElem_mem hlt) hE
      obtain ⟨x, hx⟩ : ∃ x, xs[k] = x := ⟨_, rfl⟩
      rw [hx] at c0 HC
      have HX := Lib.hid hx
      clear hx
      cases hp : pr x
      · rw [hp] at HC
        have HP := Lib.hid hp
        clear hp
        have HCC := Lib.hid HC
        clear HC
        go_wp2_with ((with_reducible refine (HCC.out).mono ?_); rintro e w' ⟨rfl, hb'⟩)
        go_roundw
        case rel => exact ⟨k + 1, by omega, by go_num, fun j hj hj' => by
          rcases Nat.lt_or_ge j k with h | h
          · exact HN.out j h hj'
          · obtain rfl : j = k := by omega
            rw [HX.out, HP.out], hE.tr hb'⟩
        case measure => simp [intOf]; omega
      · rw [hp] at HC
        have HP := Lib.hid hp
        clear hp
        have HCC := Lib.hid HC
        clear HC
        go_wp2_with ((with_reducible refine (HCC.out).mono ?_); rintro e w' ⟨rfl, hb'⟩)
        go_ret
        exact ⟨by rw [idx_some pr xs k hlt (fun j hj => HN.out j hj _) (by rw [HX.out, HP.out])]; rfl, hE.tr hb'⟩
    · obtain rfl : k = xs.length := by omega
      go_wp2
      go_ret
      exact ⟨by rw [idx_none pr xs (fun j hj => HN.out j hj hj)]; rfl, hE⟩
set_option maxHeartbeats 1000000 in
theorem containsFunc_I (g : Nat) (lb : Array Value) (eg : ∀ args w, (callFunc g args).run Try.prog w = .ok (.enter g args) w) (pr : Int → Bool) (p : Option Addr) (xs : List Int) (c : Nat) (w : World)
    (hs : SlI w p xs) (hl : xs.length ≤ 1000) (hf : ∀ x W, x ∈ xs → Ext w W → Calls Try.prog g (#[.int .i64 x] ++ lb) W fun e w' => e = .returned (.bool (pr x)) ∧ Ext W w') :
    Calls Try.prog 43 #[.slice p xs.length c, .func (.func g) #[] lb] w fun e w' => e = .returned (.bool (xs.any pr)) ∧ Ext w w' := by
  have HF := Lib.hid hf
  have HE := Lib.hid eg
  clear hf eg
  go_enter Try.func43, Try.ntmps43
  go_wp2_with (go_at_call 63; (with_reducible refine (indexFunc_I g lb HE.out pr p xs c _ hs hl HF.out).mono ?_); rintro e w' ⟨rfl, hb⟩)
  go_ret
  exact ⟨ret_bool (idx_ge _ _), hb⟩
/-- One that holds, but is neither who takes nor its peer. -/
def strayB (t : Int) (m : Md) (i : Int) : Bool := i != t && (m.kind == 1 || i != m.peer)
theorem enters_sound1 : ∀ args w, (callFunc 44 args).run Try.prog w = .ok (.enter 44 args) w := enters_of Try.func44 (by kernel_rfl) rfl
set_option maxRecDepth 100000 in
set_option maxHeartbeats 1000000 in
theorem sound1_any (i t : Int) (m : Md) (Bt Bm g o c : Nat) (n : Nat) (w : World) (hn : 0 < n) (h1 : w.cell? ⟨Bt, 0, none⟩ = some (.slice (some ⟨g, o, none⟩) n c)) (l1 : Lt Bt w) (h2 : w.cell? ⟨g, o, none⟩ = some (.int .i64 t)) (l2 : Lt g w) (h3 : rowD w Bm = mdv m) (l3 : Lt Bm w) :
    Calls Try.prog 44 (#[.int .i64 i] ++ #[.pointer (some ⟨Bt, 0, none⟩), .pointer (some ⟨Bm, 0, none⟩)]) w fun e w' => e = .returned (.bool (strayB t m i)) ∧ Ext w w' := by
  have c0 : w.cell? ⟨Bm, 0, none⟩ = some (.int .u8 m.kind) := by rw [cell_rowD, h3]; exact get_md0 m
  have c1 : w.cell? ⟨Bm, 1, none⟩ = some (.int .i64 m.peer) := by rw [cell_rowD, h3]; exact get_md1 m
  have hn' : (0 : Int) < n := by omega
  clear h3
  unfold strayB
  cases e1 : (i != t) <;> cases e2 : (m.kind == 1) <;> cases e3 : (i != m.peer)
  all_goals
    go_enter Try.func44, Try.ntmps44
    go_wp2
    go_ret
    exact ⟨rfl, Ext.rf _⟩

end Go.Proofs.Ytedamnocolfmlaa
