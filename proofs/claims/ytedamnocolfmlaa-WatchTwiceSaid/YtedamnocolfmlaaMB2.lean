/- Lemmas of this claim, put together out of: B1, B2, XW, B3, B4, B5, H1, H2, H3, H4, HW, H5, H6, B6. -/
import Derived.Test.YtedamnocolfmlaaMB1
import Derived.LoopNIn
import Derived.LoopIn
import Derived.Stop.RegionWithIn
import Derived.OwnWalkIn
import Derived.Maps.OwnIn
import Derived.Sort.CutIn
import Derived.Maps.AppendAt
import Derived.TacticsInMore
set_option linter.unusedSimpArgs false
set_option linter.unusedVariables false
/- Loads and stores of the world's parts; members. -/
namespace Go.Proofs.Ytedamnocolfmlaa
open Go.RowKit

theorem info_mb : (Try.prog.info? 25).map (·.size) = some 9 := by kernel_rfl
theorem loadAt_mb {w : World} {b o : Nat} (h : o + 9 ≤ (rowD w b).size) : (Instr.loadAt 25 (.pointer (some ⟨b, o, none⟩))).run Try.prog w = .ok (.agg ((rowD w b).extract o (o + 9))) w := by
  have := run_loadAt_mid w b o 25 ((rowD w b).extract o (o + 9)).toList _ (range_rowD w b o (o + 9)) Try.underlying25 rfl (by rw [info_mb]; simp; omega)
  rwa [Array.toArray_toList] at this
theorem loadVar_mb {w : World} {b o : Nat} (h : o + 9 ≤ (rowD w b).size) : (loadVar 25 ⟨b, o, none⟩).run Try.prog w = .ok (.agg ((rowD w b).extract o (o + 9))) w := by
  have := run_loadVar_mid w b o 25 ((rowD w b).extract o (o + 9)).toList _ (range_rowD w b o (o + 9)) Try.underlying25 rfl (by rw [info_mb]; simp; omega)
  rwa [Array.toArray_toList] at this
@[go_sem ↓ high] theorem exec_load_mb (ρ : Operand → Value) (dst : Option Tmp) (x : Operand) (ty : TypeId) (pos : String) (after : Array Edge) (g : Option (Nat × Bool)) (w : World)
    (hx : ρ x = .pointer (some ⟨blkOf (ρ x), offOf (ρ x), none⟩)) (h : Fits (offOf (ρ x)) 9 (rowD w (blkOf (ρ x)))) :
    (execOp ρ ⟨dst, .load 25 x, ty, pos, after, g⟩).run Try.prog w = .ok (.value (.agg (cutD (rowD w (blkOf (ρ x))) (offOf (ρ x)) 9))) w := by
  unfold Fits at h
  generalize hB : blkOf (ρ x) = B at *
  generalize hO : offOf (ρ x) = O at *
  simp only [execOp, hx, Sem.run_bind, loadAt_mb h, Result.andThen_ok, Sem.run_pure, cutD]
@[go_sem ↓ high] theorem sem_load_mb (l : Option Nat) (ρ : Operand → Value) (dst : Option Tmp) (x : Operand) (ty : TypeId) (pos : String) (after : Array Edge) (g : Option (Nat × Bool)) (w : World)
    (hx : ρ x = .pointer (some ⟨blkOf (ρ x), offOf (ρ x), none⟩)) (h : Fits (offOf (ρ x)) 9 (rowD w (blkOf (ρ x)))) :
    (Oper.semAt l ρ ⟨dst, .load 25 x, ty, pos, after, g⟩).run Try.prog w = .ok (.value (.agg (cutD (rowD w (blkOf (ρ x))) (offOf (ρ x)) 9))) w := by rw [Oper.semAt_eq _ _ _ (fun c h => by cases h)]; exact exec_load_mb ρ dst x ty pos after g w hx h
@[go_sem ↓ high] theorem exec_store_mb (ρ : Operand → Value) (dst : Option Tmp) (x y : Operand) (ty : TypeId) (pos : String) (after : Array Edge) (g : Option (Nat × Bool)) (w : World)
    (hx : ρ x = .pointer (some ⟨blkOf (ρ x), offOf (ρ x), none⟩)) (hy : ρ y = .agg (ρ y).cells) (hs : SizeIs (ρ y).cells 9) (h : Fits (offOf (ρ x)) 9 (rowD w (blkOf (ρ x)))) (hz : frzD w (blkOf (ρ x)) = (0, 0)) (h1 : oneC (ρ y).cells) :
    (execOp ρ ⟨dst, .store 25 x y, ty, pos, after, g⟩).run Try.prog w = .ok .skip (setAt w (blkOf (ρ x)) (offOf (ρ x)) (ρ y).cells) := by
  unfold Fits at h
  unfold SizeIs at hs
  generalize hB : blkOf (ρ x) = B at *
  generalize hO : offOf (ρ x) = O at *
  generalize hC : (ρ y).cells = C at *
  have hst : (Instr.storeAt 25 (.pointer (some ⟨B, O, none⟩)) (.agg C)).run Try.prog w = .ok () (setAt w B O C) :=
    run_storeAt_mid w B O 25 C (fun j hj => ⟨by rw [cell_rowD, Array.getElem?_eq_getElem (by omega)]; rfl, frozen_of_frz hz _⟩) (by rw [info_mb, hs]) h1
  simp only [execOp, hx, hy, Sem.run_bind, hst, Result.andThen_ok, Sem.run_pure]
@[go_sem ↓ high] theorem sem_store_mb (l : Option Nat) (ρ : Operand → Value) (dst : Option Tmp) (x y : Operand) (ty : TypeId) (pos : String) (after : Array Edge) (g : Option (Nat × Bool)) (w : World)
    (hx : ρ x = .pointer (some ⟨blkOf (ρ x), offOf (ρ x), none⟩)) (hy : ρ y = .agg (ρ y).cells) (hs : SizeIs (ρ y).cells 9) (h : Fits (offOf (ρ x)) 9 (rowD w (blkOf (ρ x)))) (hz : frzD w (blkOf (ρ x)) = (0, 0)) (h1 : oneC (ρ y).cells) :
    (Oper.semAt l ρ ⟨dst, .store 25 x y, ty, pos, after, g⟩).run Try.prog w = .ok .skip (setAt w (blkOf (ρ x)) (offOf (ρ x)) (ρ y).cells) := by rw [Oper.semAt_eq _ _ _ (fun c h => by cases h)]; exact exec_store_mb ρ dst x y ty pos after g w hx hy hs h hz h1

theorem info_mov : (Try.prog.info? 28).map (·.size) = some 96 := by kernel_rfl
theorem loadAt_mov {w : World} {b o : Nat} (h : o + 96 ≤ (rowD w b).size) : (Instr.loadAt 28 (.pointer (some ⟨b, o, none⟩))).run Try.prog w = .ok (.agg ((rowD w b).extract o (o + 96))) w := by
  have := run_loadAt_mid w b o 28 ((rowD w b).extract o (o + 96)).toList _ (range_rowD w b o (o + 96)) Try.underlying28 rfl (by rw [info_mov]; simp; omega)
  rwa [Array.toArray_toList] at this
theorem loadVar_mov {w : World} {b o : Nat} (h : o + 96 ≤ (rowD w b).size) : (loadVar 28 ⟨b, o, none⟩).run Try.prog w = .ok (.agg ((rowD w b).extract o (o + 96))) w := by
  have := run_loadVar_mid w b o 28 ((rowD w b).extract o (o + 96)).toList _ (range_rowD w b o (o + 96)) Try.underlying28 rfl (by rw [info_mov]; simp; omega)
  rwa [Array.toArray_toList] at this
@[go_sem ↓ high] theorem exec_load_mov (ρ : Operand → Value) (dst : Option Tmp) (x : Operand) (ty : TypeId) (pos : String) (after : Array Edge) (g : Option (Nat × Bool)) (w : World)
    (hx : ρ x = .pointer (some ⟨blkOf (ρ x), offOf (ρ x), none⟩)) (h : Fits (offOf (ρ x)) 96 (rowD w (blkOf (ρ x)))) :
    (execOp ρ ⟨dst, .load 28 x, ty, pos, after, g⟩).run Try.prog w = .ok (.value (.agg (cutD (rowD w (blkOf (ρ x))) (offOf (ρ x)) 96))) w := by
  unfold Fits at h
  generalize hB : blkOf (ρ x) = B at *
  generalize hO : offOf (ρ x) = O at *
  simp only [execOp, hx, Sem.run_bind, loadAt_mov h, Result.andThen_ok, Sem.run_pure, cutD]
@[go_sem ↓ high] theorem sem_load_mov (l : Option Nat) (ρ : Operand → Value) (dst : Option Tmp) (x : Operand) (ty : TypeId) (pos : String) (after : Array Edge) (g : Option (Nat × Bool)) (w : World)
    (hx : ρ x = .pointer (some ⟨blkOf (ρ x), offOf (ρ x), none⟩)) (h : Fits (offOf (ρ x)) 96 (rowD w (blkOf (ρ x)))) :
    (Oper.semAt l ρ ⟨dst, .load 28 x, ty, pos, after, g⟩).run Try.prog w = .ok (.value (.agg (cutD (rowD w (blkOf (ρ x))) (offOf (ρ x)) 96))) w := by rw [Oper.semAt_eq _ _ _ (fun c h => by cases h)]; exact exec_load_mov ρ dst x ty pos after g w hx h
@[go_sem ↓ high] theorem exec_store_mov (ρ : Operand → Value) (dst : Option Tmp) (x y : Operand) (ty : TypeId) (pos : String) (after : Array Edge) (g : Option (Nat × Bool)) (w : World)
    (hx : ρ x = .pointer (some ⟨blkOf (ρ x), offOf (ρ x), none⟩)) (hy : ρ y = .agg (ρ y).cells) (hs : SizeIs (ρ y).cells 96) (h : Fits (offOf (ρ x)) 96 (rowD w (blkOf (ρ x)))) (hz : frzD w (blkOf (ρ x)) = (0, 0)) (h1 : oneC (ρ y).cells) :
    (execOp ρ ⟨dst, .store 28 x y, ty, pos, after, g⟩).run Try.prog w = .ok .skip (setAt w (blkOf (ρ x)) (offOf (ρ x)) (ρ y).cells) := by
  unfold Fits at h
  unfold SizeIs at hs
  generalize hB : blkOf (ρ x) = B at *
  generalize hO : offOf (ρ x) = O at *
  generalize hC : (ρ y).cells = C at *
  have hst : (Instr.storeAt 28 (.pointer (some ⟨B, O, none⟩)) (.agg C)).run Try.prog w = .ok () (setAt w B O C) :=
    run_storeAt_mid w B O 28 C (fun j hj => ⟨by rw [cell_rowD, Array.getElem?_eq_getElem (by omega)]; rfl, frozen_of_frz hz _⟩) (by rw [info_mov, hs]) h1
  simp only [execOp, hx, hy, Sem.run_bind, hst, Result.andThen_ok, Sem.run_pure]
@[go_sem ↓ high] theorem sem_store_mov (l : Option Nat) (ρ : Operand → Value) (dst : Option Tmp) (x y : Operand) (ty : TypeId) (pos : String) (after : Array Edge) (g : Option (Nat × Bool)) (w : World)
    (hx : ρ x = .pointer (some ⟨blkOf (ρ x), offOf (ρ x), none⟩)) (hy : ρ y = .agg (ρ y).cells) (hs : SizeIs (ρ y).cells 96) (h : Fits (offOf (ρ x)) 96 (rowD w (blkOf (ρ x)))) (hz : frzD w (blkOf (ρ x)) = (0, 0)) (h1 : oneC (ρ y).cells) :
    (Oper.semAt l ρ ⟨dst, .store 28 x y, ty, pos, after, g⟩).run Try.prog w = .ok .skip (setAt w (blkOf (ρ x)) (offOf (ρ x)) (ρ y).cells) := by rw [Oper.semAt_eq _ _ _ (fun c h => by cases h)]; exact exec_store_mov ρ dst x y ty pos after g w hx hy hs h hz h1

theorem info_tb : (Try.prog.info? 33).map (·.size) = some 65 := by kernel_rfl
theorem loadAt_tb {w : World} {b o : Nat} (h : o + 65 ≤ (rowD w b).size) : (Instr.loadAt 33 (.pointer (some ⟨b, o, none⟩))).run Try.prog w = .ok (.agg ((rowD w b).extract o (o + 65))) w := by
  have := run_loadAt_mid w b o 33 ((rowD w b).extract o (o + 65)).toList _ (range_rowD w b o (o + 65)) Try.underlying33 rfl (by rw [info_tb]; simp; omega)
  rwa [Array.toArray_toList] at this
theorem loadVar_tb {w : World} {b o : Nat} (h : o + 65 ≤ (rowD w b).size) : (loadVar 33 ⟨b, o, none⟩).run Try.prog w = .ok (.agg ((rowD w b).extract o (o + 65))) w := by
  have := run_loadVar_mid w b o 33 ((rowD w b).extract o (o + 65)).toList _ (range_rowD w b o (o + 65)) Try.underlying33 rfl (by rw [info_tb]; simp; omega)
  rwa [Array.toArray_toList] at this
@[go_sem ↓ high] theorem exec_load_tb (ρ : Operand → Value) (dst : Option Tmp) (x : Operand) (ty : TypeId) (pos : String) (after : Array Edge) (g : Option (Nat × Bool)) (w : World)
    (hx : ρ x = .pointer (some ⟨blkOf (ρ x), offOf (ρ x), none⟩)) (h : Fits (offOf (ρ x)) 65 (rowD w (blkOf (ρ x)))) :
    (execOp ρ ⟨dst, .load 33 x, ty, pos, after, g⟩).run Try.prog w = .ok (.value (.agg (cutD (rowD w (blkOf (ρ x))) (offOf (ρ x)) 65))) w := by
  unfold Fits at h
  generalize hB : blkOf (ρ x) = B at *
  generalize hO : offOf (ρ x) = O at *
  simp only [execOp, hx, Sem.run_bind, loadAt_tb h, Result.andThen_ok, Sem.run_pure, cutD]
@[go_sem ↓ high] theorem sem_load_tb (l : Option Nat) (ρ : Operand → Value) (dst : Option Tmp) (x : Operand) (ty : TypeId) (pos : String) (after : Array Edge) (g : Option (Nat × Bool)) (w : World)
    (hx : ρ x = .pointer (some ⟨blkOf (ρ x), offOf (ρ x), none⟩)) (h : Fits (offOf (ρ x)) 65 (rowD w (blkOf (ρ x)))) :
    (Oper.semAt l ρ ⟨dst, .load 33 x, ty, pos, after, g⟩).run Try.prog w = .ok (.value (.agg (cutD (rowD w (blkOf (ρ x))) (offOf (ρ x)) 65))) w := by rw [Oper.semAt_eq _ _ _ (fun c h => by cases h)]; exact exec_load_tb ρ dst x ty pos after g w hx h
@[go_sem ↓ high] theorem exec_store_tb (ρ : Operand → Value) (dst : Option Tmp) (x y : Operand) (ty : TypeId) (pos : String) (after : Array Edge) (g : Option (Nat × Bool)) (w : World)
    (hx : ρ x = .pointer (some ⟨blkOf (ρ x), offOf (ρ x), none⟩)) (hy : ρ y = .agg (ρ y).cells) (hs : SizeIs (ρ y).cells 65) (h : Fits (offOf (ρ x)) 65 (rowD w (blkOf (ρ x)))) (hz : frzD w (blkOf (ρ x)) = (0, 0)) (h1 : oneC (ρ y).cells) :
    (execOp ρ ⟨dst, .store 33 x y, ty, pos, after, g⟩).run Try.prog w = .ok .skip (setAt w (blkOf (ρ x)) (offOf (ρ x)) (ρ y).cells) := by
  unfold Fits at h
  unfold SizeIs at hs
  generalize hB : blkOf (ρ x) = B at *
  generalize hO : offOf (ρ x) = O at *
  generalize hC : (ρ y).cells = C at *
  have hst : (Instr.storeAt 33 (.pointer (some ⟨B, O, none⟩)) (.agg C)).run Try.prog w = .ok () (setAt w B O C) :=
    run_storeAt_mid w B O 33 C (fun j hj => ⟨by rw [cell_rowD, Array.getElem?_eq_getElem (by omega)]; rfl, frozen_of_frz hz _⟩) (by rw [info_tb, hs]) h1
  simp only [execOp, hx, hy, Sem.run_bind, hst, Result.andThen_ok, Sem.run_pure]
@[go_sem ↓ high] theorem sem_store_tb (l : Option Nat) (ρ : Operand → Value) (dst : Option Tmp) (x y : Operand) (ty : TypeId) (pos : String) (after : Array Edge) (g : Option (Nat × Bool)) (w : World)
    (hx : ρ x = .pointer (some ⟨blkOf (ρ x), offOf (ρ x), none⟩)) (hy : ρ y = .agg (ρ y).cells) (hs : SizeIs (ρ y).cells 65) (h : Fits (offOf (ρ x)) 65 (rowD w (blkOf (ρ x)))) (hz : frzD w (blkOf (ρ x)) = (0, 0)) (h1 : oneC (ρ y).cells) :
    (Oper.semAt l ρ ⟨dst, .store 33 x y, ty, pos, after, g⟩).run Try.prog w = .ok .skip (setAt w (blkOf (ρ x)) (offOf (ρ x)) (ρ y).cells) := by rw [Oper.semAt_eq _ _ _ (fun c h => by cases h)]; exact exec_store_tb ρ dst x y ty pos after g w hx hy hs h hz h1

theorem info_cl : (Try.prog.info? 40).map (·.size) = some 66 := by kernel_rfl
theorem loadAt_cl {w : World} {b o : Nat} (h : o + 66 ≤ (rowD w b).size) : (Instr.loadAt 40 (.pointer (some ⟨b, o, none⟩))).run Try.prog w = .ok (.agg ((rowD w b).extract o (o + 66))) w := by
  have := run_loadAt_mid w b o 40 ((rowD w b).extract o (o + 66)).toList _ (range_rowD w b o (o + 66)) Try.underlying40 rfl (by rw [info_cl]; simp; omega)
  rwa [Array.toArray_toList] at this
theorem loadVar_cl {w : World} {b o : Nat} (h : o + 66 ≤ (rowD w b).size) : (loadVar 40 ⟨b, o, none⟩).run Try.prog w = .ok (.agg ((rowD w b).extract o (o + 66))) w := by
  have := run_loadVar_mid w b o 40 ((rowD w b).extract o (o + 66)).toList _ (range_rowD w b o (o + 66)) Try.underlying40 rfl (by rw [info_cl]; simp; omega)
  rwa [Array.toArray_toList] at this
@[go_sem ↓ high] theorem exec_load_cl (ρ : Operand → Value) (dst : Option Tmp) (x : Operand) (ty : TypeId) (pos : String) (after : Array Edge) (g : Option (Nat × Bool)) (w : World)
    (hx : ρ x = .pointer (some ⟨blkOf (ρ x), offOf (ρ x), none⟩)) (h : Fits (offOf (ρ x)) 66 (rowD w (blkOf (ρ x)))) :
    (execOp ρ ⟨dst, .load 40 x, ty, pos, after, g⟩).run Try.prog w = .ok (.value (.agg (cutD (rowD w (blkOf (ρ x))) (offOf (ρ x)) 66))) w := by
  unfold Fits at h
  generalize hB : blkOf (ρ x) = B at *
  generalize hO : offOf (ρ x) = O at *
  simp only [execOp, hx, Sem.run_bind, loadAt_cl h, Result.andThen_ok, Sem.run_pure, cutD]
@[go_sem ↓ high] theorem sem_load_cl (l : Option Nat) (ρ : Operand → Value) (dst : Option Tmp) (x : Operand) (ty : TypeId) (pos : String) (after : Array Edge) (g : Option (Nat × Bool)) (w : World)
    (hx : ρ x = .pointer (some ⟨blkOf (ρ x), offOf (ρ x), none⟩)) (h : Fits (offOf (ρ x)) 66 (rowD w (blkOf (ρ x)))) :
    (Oper.semAt l ρ ⟨dst, .load 40 x, ty, pos, after, g⟩).run Try.prog w = .ok (.value (.agg (cutD (rowD w (blkOf (ρ x))) (offOf (ρ x)) 66))) w := by rw [Oper.semAt_eq _ _ _ (fun c h => by cases h)]; exact exec_load_cl ρ dst x ty pos after g w hx h
@[go_sem ↓ high] theorem exec_store_cl (ρ : Operand → Value) (dst : Option Tmp) (x y : Operand) (ty : TypeId) (pos : String) (after : Array Edge) (g : Option (Nat × Bool)) (w : World)
    (hx : ρ x = .pointer (some ⟨blkOf (ρ x), offOf (ρ x), none⟩)) (hy : ρ y = .agg (ρ y).cells) (hs : SizeIs (ρ y).cells 66) (h : Fits (offOf (ρ x)) 66 (rowD w (blkOf (ρ x)))) (hz : frzD w (blkOf (ρ x)) = (0, 0)) (h1 : oneC (ρ y).cells) :
    (execOp ρ ⟨dst, .store 40 x y, ty, pos, after, g⟩).run Try.prog w = .ok .skip (setAt w (blkOf (ρ x)) (offOf (ρ x)) (ρ y).cells) := by
  unfold Fits at h
  unfold SizeIs at hs
  generalize hB : blkOf (ρ x) = B at *
  generalize hO : offOf (ρ x) = O at *
  generalize hC : (ρ y).cells = C at *
  have hst : (Instr.storeAt 40 (.pointer (some ⟨B, O, none⟩)) (.agg C)).run Try.prog w = .ok () (setAt w B O C) :=
    run_storeAt_mid w B O 40 C (fun j hj => ⟨by rw [cell_rowD, Array.getElem?_eq_getElem (by omega)]; rfl, frozen_of_frz hz _⟩) (by rw [info_cl, hs]) h1
  simp only [execOp, hx, hy, Sem.run_bind, hst, Result.andThen_ok, Sem.run_pure]
@[go_sem ↓ high] theorem sem_store_cl (l : Option Nat) (ρ : Operand → Value) (dst : Option Tmp) (x y : Operand) (ty : TypeId) (pos : String) (after : Array Edge) (g : Option (Nat × Bool)) (w : World)
    (hx : ρ x = .pointer (some ⟨blkOf (ρ x), offOf (ρ x), none⟩)) (hy : ρ y = .agg (ρ y).cells) (hs : SizeIs (ρ y).cells 66) (h : Fits (offOf (ρ x)) 66 (rowD w (blkOf (ρ x)))) (hz : frzD w (blkOf (ρ x)) = (0, 0)) (h1 : oneC (ρ y).cells) :
    (Oper.semAt l ρ ⟨dst, .store 40 x y, ty, pos, after, g⟩).run Try.prog w = .ok .skip (setAt w (blkOf (ρ x)) (offOf (ρ x)) (ρ y).cells) := by rw [Oper.semAt_eq _ _ _ (fun c h => by cases h)]; exact exec_store_cl ρ dst x y ty pos after g w hx hy hs h hz h1

theorem info_cls : (Try.prog.info? 41).map (·.size) = some 198 := by kernel_rfl
theorem loadAt_cls {w : World} {b o : Nat} (h : o + 198 ≤ (rowD w b).size) : (Instr.loadAt 41 (.pointer (some ⟨b, o, none⟩))).run Try.prog w = .ok (.agg ((rowD w b).extract o (o + 198))) w := by
  have := run_loadAt_mid w b o 41 ((rowD w b).extract o (o + 198)).toList _ (range_rowD w b o (o + 198)) Try.underlying41 rfl (by rw [info_cls]; simp; omega)
  rwa [Array.toArray_toList] at this
theorem loadVar_cls {w : World} {b o : Nat} (h : o + 198 ≤ (rowD w b).size) : (loadVar 41 ⟨b, o, none⟩).run Try.prog w = .ok (.agg ((rowD w b).extract o (o + 198))) w := by
  have := run_loadVar_mid w b o 41 ((rowD w b).extract o (o + 198)).toList _ (range_rowD w b o (o + 198)) Try.underlying41 rfl (by rw [info_cls]; simp; omega)
  rwa [Array.toArray_toList] at this
@[go_sem ↓ high] theorem exec_load_cls (ρ : Operand → Value) (dst : Option Tmp) (x : Operand) (ty : TypeId) (pos : String) (after : Array Edge) (g : Option (Nat × Bool)) (w : World)
    (hx : ρ x = .pointer (some ⟨blkOf (ρ x), offOf (ρ x), none⟩)) (h : Fits (offOf (ρ x)) 198 (rowD w (blkOf (ρ x)))) :
    (execOp ρ ⟨dst, .load 41 x, ty, pos, after, g⟩).run Try.prog w = .ok (.value (.agg (cutD (rowD w (blkOf (ρ x))) (offOf (ρ x)) 198))) w := by
  unfold Fits at h
  generalize hB : blkOf (ρ x) = B at *
  generalize hO : offOf (ρ x) = O at *
  simp only [execOp, hx, Sem.run_bind, loadAt_cls h, Result.andThen_ok, Sem.run_pure, cutD]
@[go_sem ↓ high] theorem sem_load_cls (l : Option Nat) (ρ : Operand → Value) (dst : Option Tmp) (x : Operand) (ty : TypeId) (pos : String) (after : Array Edge) (g : Option (Nat × Bool)) (w : World)
    (hx : ρ x = .pointer (some ⟨blkOf (ρ x), offOf (ρ x), none⟩)) (h : Fits (offOf (ρ x)) 198 (rowD w (blkOf (ρ x)))) :
    (Oper.semAt l ρ ⟨dst, .load 41 x, ty, pos, after, g⟩).run Try.prog w = .ok (.value (.agg (cutD (rowD w (blkOf (ρ x))) (offOf (ρ x)) 198))) w := by rw [Oper.semAt_eq _ _ _ (fun c h => by cases h)]; exact exec_load_cls ρ dst x ty pos after g w hx h
@[go_sem ↓ high] theorem exec_store_cls (ρ : Operand → Value) (dst : Option Tmp) (x y : Operand) (ty : TypeId) (pos : String) (after : Array Edge) (g : Option (Nat × Bool)) (w : World)
    (hx : ρ x = .pointer (some ⟨blkOf (ρ x), offOf (ρ x), none⟩)) (hy : ρ y = .agg (ρ y).cells) (hs : SizeIs (ρ y).cells 198) (h : Fits (offOf (ρ x)) 198 (rowD w (blkOf (ρ x)))) (hz : frzD w (blkOf (ρ x)) = (0, 0)) (h1 : oneC (ρ y).cells) :
    (execOp ρ ⟨dst, .store 41 x y, ty, pos, after, g⟩).run Try.prog w = .ok .skip (setAt w (blkOf (ρ x)) (offOf (ρ x)) (ρ y).cells) := by
  unfold Fits at h
  unfold SizeIs at hs
  generalize hB : blkOf (ρ x) = B at *
  generalize hO : offOf (ρ x) = O at *
  generalize hC : (ρ y).cells = C at *
  have hst : (Instr.storeAt 41 (.pointer (some ⟨B, O, none⟩)) (.agg C)).run Try.prog w = .ok () (setAt w B O C) :=
    run_storeAt_mid w B O 41 C (fun j hj => ⟨by rw [cell_rowD, Array.getElem?_eq_getElem (by omega)]; rfl, frozen_of_frz hz _⟩) (by rw [info_cls, hs]) h1
  simp only [execOp, hx, hy, Sem.run_bind, hst, Result.andThen_ok, Sem.run_pure]
@[go_sem ↓ high] theorem sem_store_cls (l : Option Nat) (ρ : Operand → Value) (dst : Option Tmp) (x y : Operand) (ty : TypeId) (pos : String) (after : Array Edge) (g : Option (Nat × Bool)) (w : World)
    (hx : ρ x = .pointer (some ⟨blkOf (ρ x), offOf (ρ x), none⟩)) (hy : ρ y = .agg (ρ y).cells) (hs : SizeIs (ρ y).cells 198) (h : Fits (offOf (ρ x)) 198 (rowD w (blkOf (ρ x)))) (hz : frzD w (blkOf (ρ x)) = (0, 0)) (h1 : oneC (ρ y).cells) :
    (Oper.semAt l ρ ⟨dst, .store 41 x y, ty, pos, after, g⟩).run Try.prog w = .ok .skip (setAt w (blkOf (ρ x)) (offOf (ρ x)) (ρ y).cells) := by rw [Oper.semAt_eq _ _ _ (fun c h => by cases h)]; exact exec_store_cls ρ dst x y ty pos after g w hx hy hs h hz h1

theorem info_ag : (Try.prog.info? 47).map (·.size) = some 67 := by kernel_rfl
theorem loadAt_ag {w : World} {b o : Nat} (h : o + 67 ≤ (rowD w b).size) : (Instr.loadAt 47 (.pointer (some ⟨b, o, none⟩))).run Try.prog w = .ok (.agg ((rowD w b).extract o (o + 67))) w := by
  have := run_loadAt_mid w b o 47 ((rowD w b).extract o (o + 67)).toList _ (range_rowD w b o (o + 67)) Try.underlying47 rfl (by rw [info_ag]; simp; omega)
  rwa [Array.toArray_toList] at this
theorem loadVar_ag {w : World} {b o : Nat} (h : o + 67 ≤ (rowD w b).size) : (loadVar 47 ⟨b, o, none⟩).run Try.prog w = .ok (.agg ((rowD w b).extract o (o + 67))) w := by
  have := run_loadVar_mid w b o 47 ((rowD w b).extract o (o + 67)).toList _ (range_rowD w b o (o + 67)) Try.underlying47 rfl (by rw [info_ag]; simp; omega)
  rwa [Array.toArray_toList] at this
@[go_sem ↓ high] theorem exec_load_ag (ρ : Operand → Value) (dst : Option Tmp) (x : Operand) (ty : TypeId) (pos : String) (after : Array Edge) (g : Option (Nat × Bool)) (w : World)
    (hx : ρ x = .pointer (some ⟨blkOf (ρ x), offOf (ρ x), none⟩)) (h : Fits (offOf (ρ x)) 67 (rowD w (blkOf (ρ x)))) :
    (execOp ρ ⟨dst, .load 47 x, ty, pos, after, g⟩).run Try.prog w = .ok (.value (.agg (cutD (rowD w (blkOf (ρ x))) (offOf (ρ x)) 67))) w := by
  unfold Fits at h
  generalize hB : blkOf (ρ x) = B at *
  generalize hO : offOf (ρ x) = O at *
  simp only [execOp, hx, Sem.run_bind, loadAt_ag h, Result.andThen_ok, Sem.run_pure, cutD]
@[go_sem ↓ high] theorem sem_load_ag (l : Option Nat) (ρ : Operand → Value) (dst : Option Tmp) (x : Operand) (ty : TypeId) (pos : String) (after : Array Edge) (g : Option (Nat × Bool)) (w : World)
    (hx : ρ x = .pointer (some ⟨blkOf (ρ x), offOf (ρ x), none⟩)) (h : Fits (offOf (ρ x)) 67 (rowD w (blkOf (ρ x)))) :
    (Oper.semAt l ρ ⟨dst, .load 47 x, ty, pos, after, g⟩).run Try.prog w = .ok (.value (.agg (cutD (rowD w (blkOf (ρ x))) (offOf (ρ x)) 67))) w := by rw [Oper.semAt_eq _ _ _ (fun c h => by cases h)]; exact exec_load_ag ρ dst x ty pos after g w hx h
@[go_sem ↓ high] theorem exec_store_ag (ρ : Operand → Value) (dst : Option Tmp) (x y : Operand) (ty : TypeId) (pos : String) (after : Array Edge) (g : Option (Nat × Bool)) (w : World)
    (hx : ρ x = .pointer (some ⟨blkOf (ρ x), offOf (ρ x), none⟩)) (hy : ρ y = .agg (ρ y).cells) (hs : SizeIs (ρ y).cells 67) (h : Fits (offOf (ρ x)) 67 (rowD w (blkOf (ρ x)))) (hz : frzD w (blkOf (ρ x)) = (0, 0)) (h1 : oneC (ρ y).cells) :
    (execOp ρ ⟨dst, .store 47 x y, ty, pos, after, g⟩).run Try.prog w = .ok .skip (setAt w (blkOf (ρ x)) (offOf (ρ x)) (ρ y).cells) := by
  unfold Fits at h
  unfold SizeIs at hs
  generalize hB : blkOf (ρ x) = B at *
  generalize hO : offOf (ρ x) = O at *
  generalize hC : (ρ y).cells = C at *
  have hst : (Instr.storeAt 47 (.pointer (some ⟨B, O, none⟩)) (.agg C)).run Try.prog w = .ok () (setAt w B O C) :=
    run_storeAt_mid w B O 47 C (fun j hj => ⟨by rw [cell_rowD, Array.getElem?_eq_getElem (by omega)]; rfl, frozen_of_frz hz _⟩) (by rw [info_ag, hs]) h1
  simp only [execOp, hx, hy, Sem.run_bind, hst, Result.andThen_ok, Sem.run_pure]
@[go_sem ↓ high] theorem sem_store_ag (l : Option Nat) (ρ : Operand → Value) (dst : Option Tmp) (x y : Operand) (ty : TypeId) (pos : String) (after : Array Edge) (g : Option (Nat × Bool)) (w : World)
    (hx : ρ x = .pointer (some ⟨blkOf (ρ x), offOf (ρ x), none⟩)) (hy : ρ y = .agg (ρ y).cells) (hs : SizeIs (ρ y).cells 67) (h : Fits (offOf (ρ x)) 67 (rowD w (blkOf (ρ x)))) (hz : frzD w (blkOf (ρ x)) = (0, 0)) (h1 : oneC (ρ y).cells) :
    (Oper.semAt l ρ ⟨dst, .store 47 x y, ty, pos, after, g⟩).run Try.prog w = .ok .skip (setAt w (blkOf (ρ x)) (offOf (ρ x)) (ρ y).cells) := by rw [Oper.semAt_eq _ _ _ (fun c h => by cases h)]; exact exec_store_ag ρ dst x y ty pos after g w hx hy hs h hz h1

theorem info_ags : (Try.prog.info? 48).map (·.size) = some 402 := by kernel_rfl
theorem loadAt_ags {w : World} {b o : Nat} (h : o + 402 ≤ (rowD w b).size) : (Instr.loadAt 48 (.pointer (some ⟨b, o, none⟩))).run Try.prog w = .ok (.agg ((rowD w b).extract o (o + 402))) w := by
  have := run_loadAt_mid w b o 48 ((rowD w b).extract o (o + 402)).toList _ (range_rowD w b o (o + 402)) Try.underlying48 rfl (by rw [info_ags]; simp; omega)
  rwa [Array.toArray_toList] at this
theorem loadVar_ags {w : World} {b o : Nat} (h : o + 402 ≤ (rowD w b).size) : (loadVar 48 ⟨b, o, none⟩).run Try.prog w = .ok (.agg ((rowD w b).extract o (o + 402))) w := by
  have := run_loadVar_mid w b o 48 ((rowD w b).extract o (o + 402)).toList _ (range_rowD w b o (o + 402)) Try.underlying48 rfl (by rw [info_ags]; simp; omega)
  rwa [Array.toArray_toList] at this
@[go_sem ↓ high] theorem exec_load_ags (ρ : Operand → Value) (dst : Option Tmp) (x : Operand) (ty : TypeId) (pos : String) (after : Array Edge) (g : Option (Nat × Bool)) (w : World)
    (hx : ρ x = .pointer (some ⟨blkOf (ρ x), offOf (ρ x), none⟩)) (h : Fits (offOf (ρ x)) 402 (rowD w (blkOf (ρ x)))) :
    (execOp ρ ⟨dst, .load 48 x, ty, pos, after, g⟩).run Try.prog w = .ok (.value (.agg (cutD (rowD w (blkOf (ρ x))) (offOf (ρ x)) 402))) w := by
  unfold Fits at h
  generalize hB : blkOf (ρ x) = B at *
  generalize hO : offOf (ρ x) = O at *
  simp only [execOp, hx, Sem.run_bind, loadAt_ags h, Result.andThen_ok, Sem.run_pure, cutD]
@[go_sem ↓ high] theorem sem_load_ags (l : Option Nat) (ρ : Operand → Value) (dst : Option Tmp) (x : Operand) (ty : TypeId) (pos : String) (after : Array Edge) (g : Option (Nat × Bool)) (w : World)
    (hx : ρ x = .pointer (some ⟨blkOf (ρ x), offOf (ρ x), none⟩)) (h : Fits (offOf (ρ x)) 402 (rowD w (blkOf (ρ x)))) :
    (Oper.semAt l ρ ⟨dst, .load 48 x, ty, pos, after, g⟩).run Try.prog w = .ok (.value (.agg (cutD (rowD w (blkOf (ρ x))) (offOf (ρ x)) 402))) w := by rw [Oper.semAt_eq _ _ _ (fun c h => by cases h)]; exact exec_load_ags ρ dst x ty pos after g w hx h
@[go_sem ↓ high] theorem exec_store_ags (ρ : Operand → Value) (dst : Option Tmp) (x y : Operand) (ty : TypeId) (pos : String) (after : Array Edge) (g : Option (Nat × Bool)) (w : World)
    (hx : ρ x = .pointer (some ⟨blkOf (ρ x), offOf (ρ x), none⟩)) (hy : ρ y = .agg (ρ y).cells) (hs : SizeIs (ρ y).cells 402) (h : Fits (offOf (ρ x)) 402 (rowD w (blkOf (ρ x)))) (hz : frzD w (blkOf (ρ x)) = (0, 0)) (h1 : oneC (ρ y).cells) :
    (execOp ρ ⟨dst, .store 48 x y, ty, pos, after, g⟩).run Try.prog w = .ok .skip (setAt w (blkOf (ρ x)) (offOf (ρ x)) (ρ y).cells) := by
  unfold Fits at h
  unfold SizeIs at hs
  generalize hB : blkOf (ρ x) = B at *
  generalize hO : offOf (ρ x) = O at *
  generalize hC : (ρ y).cells = C at *
  have hst : (Instr.storeAt 48 (.pointer (some ⟨B, O, none⟩)) (.agg C)).run Try.prog w = .ok () (setAt w B O C) :=
    run_storeAt_mid w B O 48 C (fun j hj => ⟨by rw [cell_rowD, Array.getElem?_eq_getElem (by omega)]; rfl, frozen_of_frz hz _⟩) (by rw [info_ags, hs]) h1
  simp only [execOp, hx, hy, Sem.run_bind, hst, Result.andThen_ok, Sem.run_pure]
@[go_sem ↓ high] theorem sem_store_ags (l : Option Nat) (ρ : Operand → Value) (dst : Option Tmp) (x y : Operand) (ty : TypeId) (pos : String) (after : Array Edge) (g : Option (Nat × Bool)) (w : World)
    (hx : ρ x = .pointer (some ⟨blkOf (ρ x), offOf (ρ x), none⟩)) (hy : ρ y = .agg (ρ y).cells) (hs : SizeIs (ρ y).cells 402) (h : Fits (offOf (ρ x)) 402 (rowD w (blkOf (ρ x)))) (hz : frzD w (blkOf (ρ x)) = (0, 0)) (h1 : oneC (ρ y).cells) :
    (Oper.semAt l ρ ⟨dst, .store 48 x y, ty, pos, after, g⟩).run Try.prog w = .ok .skip (setAt w (blkOf (ρ x)) (offOf (ρ x)) (ρ y).cells) := by rw [Oper.semAt_eq _ _ _ (fun c h => by cases h)]; exact exec_store_ags ρ dst x y ty pos after g w hx hy hs h hz h1

theorem info_st : (Try.prog.info? 38).map (·.size) = some 191 := by kernel_rfl
theorem loadAt_st {w : World} {b o : Nat} (h : o + 191 ≤ (rowD w b).size) : (Instr.loadAt 38 (.pointer (some ⟨b, o, none⟩))).run Try.prog w = .ok (.agg ((rowD w b).extract o (o + 191))) w := by
  have := run_loadAt_mid w b o 38 ((rowD w b).extract o (o + 191)).toList _ (range_rowD w b o (o + 191)) Try.underlying38 rfl (by rw [info_st]; simp; omega)
  rwa [Array.toArray_toList] at this
theorem loadVar_st {w : World} {b o : Nat} (h : o + 191 ≤ (rowD w b).size) : (loadVar 38 ⟨b, o, none⟩).run Try.prog w = .ok (.agg ((rowD w b).extract o (o + 191))) w := by
  have := run_loadVar_mid w b o 38 ((rowD w b).extract o (o + 191)).toList _ (range_rowD w b o (o + 191)) Try.underlying38 rfl (by rw [info_st]; simp; omega)
  rwa [Array.toArray_toList] at this
@[go_sem ↓ high] theorem exec_load_st (ρ : Operand → Value) (dst : Option Tmp) (x : Operand) (ty : TypeId) (pos : String) (after : Array Edge) (g : Option (Nat × Bool)) (w : World)
    (hx : ρ x = .pointer (some ⟨blkOf (ρ x), offOf (ρ x), none⟩)) (h : Fits (offOf (ρ x)) 191 (rowD w (blkOf (ρ x)))) :
    (execOp ρ ⟨dst, .load 38 x, ty, pos, after, g⟩).run Try.prog w = .ok (.value (.agg (cutD (rowD w (blkOf (ρ x))) (offOf (ρ x)) 191))) w := by
  unfold Fits at h
  generalize hB : blkOf (ρ x) = B at *
  generalize hO : offOf (ρ x) = O at *
  simp only [execOp, hx, Sem.run_bind, loadAt_st h, Result.andThen_ok, Sem.run_pure, cutD]
@[go_sem ↓ high] theorem sem_load_st (l : Option Nat) (ρ : Operand → Value) (dst : Option Tmp) (x : Operand) (ty : TypeId) (pos : String) (after : Array Edge) (g : Option (Nat × Bool)) (w : World)
    (hx : ρ x = .pointer (some ⟨blkOf (ρ x), offOf (ρ x), none⟩)) (h : Fits (offOf (ρ x)) 191 (rowD w (blkOf (ρ x)))) :
    (Oper.semAt l ρ ⟨dst, .load 38 x, ty, pos, after, g⟩).run Try.prog w = .ok (.value (.agg (cutD (rowD w (blkOf (ρ x))) (offOf (ρ x)) 191))) w := by rw [Oper.semAt_eq _ _ _ (fun c h => by cases h)]; exact exec_load_st ρ dst x ty pos after g w hx h
@[go_sem ↓ high] theorem exec_store_st (ρ : Operand → Value) (dst : Option Tmp) (x y : Operand) (ty : TypeId) (pos : String) (after : Array Edge) (g : Option (Nat × Bool)) (w : World)
    (hx : ρ x = .pointer (some ⟨blkOf (ρ x), offOf (ρ x), none⟩)) (hy : ρ y = .agg (ρ y).cells) (hs : SizeIs (ρ y).cells 191) (h : Fits (offOf (ρ x)) 191 (rowD w (blkOf (ρ x)))) (hz : frzD w (blkOf (ρ x)) = (0, 0)) (h1 : oneC (ρ y).cells) :
    (execOp ρ ⟨dst, .store 38 x y, ty, pos, after, g⟩).run Try.prog w = .ok .skip (setAt w (blkOf (ρ x)) (offOf (ρ x)) (ρ y).cells) := by
  unfold Fits at h
  unfold SizeIs at hs
  generalize hB : blkOf (ρ x) = B at *
  generalize hO : offOf (ρ x) = O at *
  generalize hC : (ρ y).cells = C at *
  have hst : (Instr.storeAt 38 (.pointer (some ⟨B, O, none⟩)) (.agg C)).run Try.prog w = .ok () (setAt w B O C) :=
    run_storeAt_mid w B O 38 C (fun j hj => ⟨by rw [cell_rowD, Array.getElem?_eq_getElem (by omega)]; rfl, frozen_of_frz hz _⟩) (by rw [info_st, hs]) h1
  simp only [execOp, hx, hy, Sem.run_bind, hst, Result.andThen_ok, Sem.run_pure]
@[go_sem ↓ high] theorem sem_store_st (l : Option Nat) (ρ : Operand → Value) (dst : Option Tmp) (x y : Operand) (ty : TypeId) (pos : String) (after : Array Edge) (g : Option (Nat × Bool)) (w : World)
    (hx : ρ x = .pointer (some ⟨blkOf (ρ x), offOf (ρ x), none⟩)) (hy : ρ y = .agg (ρ y).cells) (hs : SizeIs (ρ y).cells 191) (h : Fits (offOf (ρ x)) 191 (rowD w (blkOf (ρ x)))) (hz : frzD w (blkOf (ρ x)) = (0, 0)) (h1 : oneC (ρ y).cells) :
    (Oper.semAt l ρ ⟨dst, .store 38 x y, ty, pos, after, g⟩).run Try.prog w = .ok .skip (setAt w (blkOf (ρ x)) (offOf (ρ x)) (ρ y).cells) := by rw [Oper.semAt_eq _ _ _ (fun c h => by cases h)]; exact exec_store_st ρ dst x y ty pos after g w hx hy hs h hz h1

theorem info_wd : (Try.prog.info? 53).map (·.size) = some 814 := by kernel_rfl
theorem loadAt_wd {w : World} {b o : Nat} (h : o + 814 ≤ (rowD w b).size) : (Instr.loadAt 53 (.pointer (some ⟨b, o, none⟩))).run Try.prog w = .ok (.agg ((rowD w b).extract o (o + 814))) w := by
  have := run_loadAt_mid w b o 53 ((rowD w b).extract o (o + 814)).toList _ (range_rowD w b o (o + 814)) Try.underlying53 rfl (by rw [info_wd]; simp; omega)
  rwa [Array.toArray_toList] at this
theorem loadVar_wd {w : World} {b o : Nat} (h : o + 814 ≤ (rowD w b).size) : (loadVar 53 ⟨b, o, none⟩).run Try.prog w = .ok (.agg ((rowD w b).extract o (o + 814))) w := by
  have := run_loadVar_mid w b o 53 ((rowD w b).extract o (o + 814)).toList _ (range_rowD w b o (o + 814)) Try.underlying53 rfl (by rw [info_wd]; simp; omega)
  rwa [Array.toArray_toList] at this
@[go_sem ↓ high] theorem exec_load_wd (ρ : Operand → Value) (dst : Option Tmp) (x : Operand) (ty : TypeId) (pos : String) (after : Array Edge) (g : Option (Nat × Bool)) (w : World)
    (hx : ρ x = .pointer (some ⟨blkOf (ρ x), offOf (ρ x), none⟩)) (h : Fits (offOf (ρ x)) 814 (rowD w (blkOf (ρ x)))) :
    (execOp ρ ⟨dst, .load 53 x, ty, pos, after, g⟩).run Try.prog w = .ok (.value (.agg (cutD (rowD w (blkOf (ρ x))) (offOf (ρ x)) 814))) w := by
  unfold Fits at h
  generalize hB : blkOf (ρ x) = B at *
  generalize hO : offOf (ρ x) = O at *
  simp only [execOp, hx, Sem.run_bind, loadAt_wd h, Result.andThen_ok, Sem.run_pure, cutD]
@[go_sem ↓ high] theorem sem_load_wd (l : Option Nat) (ρ : Operand → Value) (dst : Option Tmp) (x : Operand) (ty : TypeId) (pos : String) (after : Array Edge) (g : Option (Nat × Bool)) (w : World)
    (hx : ρ x = .pointer (some ⟨blkOf (ρ x), offOf (ρ x), none⟩)) (h : Fits (offOf (ρ x)) 814 (rowD w (blkOf (ρ x)))) :
    (Oper.semAt l ρ ⟨dst, .load 53 x, ty, pos, after, g⟩).run Try.prog w = .ok (.value (.agg (cutD (rowD w (blkOf (ρ x))) (offOf (ρ x)) 814))) w := by rw [Oper.semAt_eq _ _ _ (fun c h => by cases h)]; exact exec_load_wd ρ dst x ty pos after g w hx h
@[go_sem ↓ high] theorem exec_store_wd (ρ : Operand → Value) (dst : Option Tmp) (x y : Operand) (ty : TypeId) (pos : String) (after : Array Edge) (g : Option (Nat × Bool)) (w : World)
    (hx : ρ x = .pointer (some ⟨blkOf (ρ x), offOf (ρ x), none⟩)) (hy : ρ y = .agg (ρ y).cells) (hs : SizeIs (ρ y).cells 814) (h : Fits (offOf (ρ x)) 814 (rowD w (blkOf (ρ x)))) (hz : frzD w (blkOf (ρ x)) = (0, 0)) (h1 : oneC (ρ y).cells) :
    (execOp ρ ⟨dst, .store 53 x y, ty, pos, after, g⟩).run Try.prog w = .ok .skip (setAt w (blkOf (ρ x)) (offOf (ρ x)) (ρ y).cells) := by
  unfold Fits at h
  unfold SizeIs at hs
  generalize hB : blkOf (ρ x) = B at *
  generalize hO : offOf (ρ x) = O at *
  generalize hC : (ρ y).cells = C at *
  have hst : (Instr.storeAt 53 (.pointer (some ⟨B, O, none⟩)) (.agg C)).run Try.prog w = .ok () (setAt w B O C) :=
    run_storeAt_mid w B O 53 C (fun j hj => ⟨by rw [cell_rowD, Array.getElem?_eq_getElem (by omega)]; rfl, frozen_of_frz hz _⟩) (by rw [info_wd, hs]) h1
  simp only [execOp, hx, hy, Sem.run_bind, hst, Result.andThen_ok, Sem.run_pure]
@[go_sem ↓ high] theorem sem_store_wd (l : Option Nat) (ρ : Operand → Value) (dst : Option Tmp) (x y : Operand) (ty : TypeId) (pos : String) (after : Array Edge) (g : Option (Nat × Bool)) (w : World)
    (hx : ρ x = .pointer (some ⟨blkOf (ρ x), offOf (ρ x), none⟩)) (hy : ρ y = .agg (ρ y).cells) (hs : SizeIs (ρ y).cells 814) (h : Fits (offOf (ρ x)) 814 (rowD w (blkOf (ρ x)))) (hz : frzD w (blkOf (ρ x)) = (0, 0)) (h1 : oneC (ρ y).cells) :
    (Oper.semAt l ρ ⟨dst, .store 53 x y, ty, pos, after, g⟩).run Try.prog w = .ok .skip (setAt w (blkOf (ρ x)) (offOf (ρ x)) (ρ y).cells) := by rw [Oper.semAt_eq _ _ _ (fun c h => by cases h)]; exact exec_store_wd ρ dst x y ty pos after g w hx hy hs h hz h1

theorem info_mds : (Try.prog.info? 44).map (·.size) = some 64 := by kernel_rfl
theorem loadAt_mds {w : World} {b o : Nat} (h : o + 64 ≤ (rowD w b).size) : (Instr.loadAt 44 (.pointer (some ⟨b, o, none⟩))).run Try.prog w = .ok (.agg ((rowD w b).extract o (o + 64))) w := by
  have := run_loadAt_mid w b o 44 ((rowD w b).extract o (o + 64)).toList _ (range_rowD w b o (o + 64)) Try.underlying44 rfl (by rw [info_mds]; simp; omega)
  rwa [Array.toArray_toList] at this
theorem loadVar_mds {w : World} {b o : Nat} (h : o + 64 ≤ (rowD w b).size) : (loadVar 44 ⟨b, o, none⟩).run Try.prog w = .ok (.agg ((rowD w b).extract o (o + 64))) w := by
  have := run_loadVar_mid w b o 44 ((rowD w b).extract o (o + 64)).toList _ (range_rowD w b o (o + 64)) Try.underlying44 rfl (by rw [info_mds]; simp; omega)
  rwa [Array.toArray_toList] at this
@[go_sem ↓ high] theorem exec_load_mds (ρ : Operand → Value) (dst : Option Tmp) (x : Operand) (ty : TypeId) (pos : String) (after : Array Edge) (g : Option (Nat × Bool)) (w : World)
    (hx : ρ x = .pointer (some ⟨blkOf (ρ x), offOf (ρ x), none⟩)) (h : Fits (offOf (ρ x)) 64 (rowD w (blkOf (ρ x)))) :
    (execOp ρ ⟨dst, .load 44 x, ty, pos, after, g⟩).run Try.prog w = .ok (.value (.agg (cutD (rowD w (blkOf (ρ x))) (offOf (ρ x)) 64))) w := by
  unfold Fits at h
  generalize hB : blkOf (ρ x) = B at *
  generalize hO : offOf (ρ x) = O at *
  simp only [execOp, hx, Sem.run_bind, loadAt_mds h, Result.andThen_ok, Sem.run_pure, cutD]
@[go_sem ↓ high] theorem sem_load_mds (l : Option Nat) (ρ : Operand → Value) (dst : Option Tmp) (x : Operand) (ty : TypeId) (pos : String) (after : Array Edge) (g : Option (Nat × Bool)) (w : World)
    (hx : ρ x = .pointer (some ⟨blkOf (ρ x), offOf (ρ x), none⟩)) (h : Fits (offOf (ρ x)) 64 (rowD w (blkOf (ρ x)))) :
    (Oper.semAt l ρ ⟨dst, .load 44 x, ty, pos, after, g⟩).run Try.prog w = .ok (.value (.agg (cutD (rowD w (blkOf (ρ x))) (offOf (ρ x)) 64))) w := by rw [Oper.semAt_eq _ _ _ (fun c h => by cases h)]; exact exec_load_mds ρ dst x ty pos after g w hx h
@[go_sem ↓ high] theorem exec_store_mds (ρ : Operand → Value) (dst : Option Tmp) (x y : Operand) (ty : TypeId) (pos : String) (after : Array Edge) (g : Option (Nat × Bool)) (w : World)
    (hx : ρ x = .pointer (some ⟨blkOf (ρ x), offOf (ρ x), none⟩)) (hy : ρ y = .agg (ρ y).cells) (hs : SizeIs (ρ y).cells 64) (h : Fits (offOf (ρ x)) 64 (rowD w (blkOf (ρ x)))) (hz : frzD w (blkOf (ρ x)) = (0, 0)) (h1 : oneC (ρ y).cells) :
    (execOp ρ ⟨dst, .store 44 x y, ty, pos, after, g⟩).run Try.prog w = .ok .skip (setAt w (blkOf (ρ x)) (offOf (ρ x)) (ρ y).cells) := by
  unfold Fits at h
  unfold SizeIs at hs
  generalize hB : blkOf (ρ x) = B at *
  generalize hO : offOf (ρ x) = O at *
  generalize hC : (ρ y).cells = C at *
  have hst : (Instr.storeAt 44 (.pointer (some ⟨B, O, none⟩)) (.agg C)).run Try.prog w = .ok () (setAt w B O C) :=
    run_storeAt_mid w B O 44 C (fun j hj => ⟨by rw [cell_rowD, Array.getElem?_eq_getElem (by omega)]; rfl, frozen_of_frz hz _⟩) (by rw [info_mds, hs]) h1
  simp only [execOp, hx, hy, Sem.run_bind, hst, Result.andThen_ok, Sem.run_pure]
@[go_sem ↓ high] theorem sem_store_mds (l : Option Nat) (ρ : Operand → Value) (dst : Option Tmp) (x y : Operand) (ty : TypeId) (pos : String) (after : Array Edge) (g : Option (Nat × Bool)) (w : World)
    (hx : ρ x = .pointer (some ⟨blkOf (ρ x), offOf (ρ x), none⟩)) (hy : ρ y = .agg (ρ y).cells) (hs : SizeIs (ρ y).cells 64) (h : Fits (offOf (ρ x)) 64 (rowD w (blkOf (ρ x)))) (hz : frzD w (blkOf (ρ x)) = (0, 0)) (h1 : oneC (ρ y).cells) :
    (Oper.semAt l ρ ⟨dst, .store 44 x y, ty, pos, after, g⟩).run Try.prog w = .ok .skip (setAt w (blkOf (ρ x)) (offOf (ρ x)) (ρ y).cells) := by rw [Oper.semAt_eq _ _ _ (fun c h => by cases h)]; exact exec_store_mds ρ dst x y ty pos after g w hx hy hs h hz h1

theorem info_rows : (Try.prog.info? 31).map (·.size) = some 64 := by kernel_rfl
theorem loadAt_rows {w : World} {b o : Nat} (h : o + 64 ≤ (rowD w b).size) : (Instr.loadAt 31 (.pointer (some ⟨b, o, none⟩))).run Try.prog w = .ok (.agg ((rowD w b).extract o (o + 64))) w := by
  have := run_loadAt_mid w b o 31 ((rowD w b).extract o (o + 64)).toList _ (range_rowD w b o (o + 64)) Try.underlying31 rfl (by rw [info_rows]; simp; omega)
  rwa [Array.toArray_toList] at this
theorem loadVar_rows {w : World} {b o : Nat} (h : o + 64 ≤ (rowD w b).size) : (loadVar 31 ⟨b, o, none⟩).run Try.prog w = .ok (.agg ((rowD w b).extract o (o + 64))) w := by
  have := run_loadVar_mid w b o 31 ((rowD w b).extract o (o + 64)).toList _ (range_rowD w b o (o + 64)) Try.underlying31 rfl (by rw [info_rows]; simp; omega)
  rwa [Array.toArray_toList] at this
@[go_sem ↓ high] theorem exec_load_rows (ρ : Operand → Value) (dst : Option Tmp) (x : Operand) (ty : TypeId) (pos : String) (after : Array Edge) (g : Option (Nat × Bool)) (w : World)
    (hx : ρ x = .pointer (some ⟨blkOf (ρ x), offOf (ρ x), none⟩)) (h : Fits (offOf (ρ x)) 64 (rowD w (blkOf (ρ x)))) :
    (execOp ρ ⟨dst, .load 31 x, ty, pos, after, g⟩).run Try.prog w = .ok (.value (.agg (cutD (rowD w (blkOf (ρ x))) (offOf (ρ x)) 64))) w := by
  unfold Fits at h
  generalize hB : blkOf (ρ x) = B at *
  generalize hO : offOf (ρ x) = O at *
  simp only [execOp, hx, Sem.run_bind, loadAt_rows h, Result.andThen_ok, Sem.run_pure, cutD]
@[go_sem ↓ high] theorem sem_load_rows (l : Option Nat) (ρ : Operand → Value) (dst : Option Tmp) (x : Operand) (ty : TypeId) (pos : String) (after : Array Edge) (g : Option (Nat × Bool)) (w : World)
    (hx : ρ x = .pointer (some ⟨blkOf (ρ x), offOf (ρ x), none⟩)) (h : Fits (offOf (ρ x)) 64 (rowD w (blkOf (ρ x)))) :
    (Oper.semAt l ρ ⟨dst, .load 31 x, ty, pos, after, g⟩).run Try.prog w = .ok (.value (.agg (cutD (rowD w (blkOf (ρ x))) (offOf (ρ x)) 64))) w := by rw [Oper.semAt_eq _ _ _ (fun c h => by cases h)]; exact exec_load_rows ρ dst x ty pos after g w hx h
@[go_sem ↓ high] theorem exec_store_rows (ρ : Operand → Value) (dst : Option Tmp) (x y : Operand) (ty : TypeId) (pos : String) (after : Array Edge) (g : Option (Nat × Bool)) (w : World)
    (hx : ρ x = .pointer (some ⟨blkOf (ρ x), offOf (ρ x), none⟩)) (hy : ρ y = .agg (ρ y).cells) (hs : SizeIs (ρ y).cells 64) (h : Fits (offOf (ρ x)) 64 (rowD w (blkOf (ρ x)))) (hz : frzD w (blkOf (ρ x)) = (0, 0)) (h1 : oneC (ρ y).cells) :
    (execOp ρ ⟨dst, .store 31 x y, ty, pos, after, g⟩).run Try.prog w = .ok .skip (setAt w (blkOf (ρ x)) (offOf (ρ x)) (ρ y).cells) := by
  unfold Fits at h
  unfold SizeIs at hs
  generalize hB : blkOf (ρ x) = B at *
  generalize hO : offOf (ρ x) = O at *
  generalize hC : (ρ y).cells = C at *
  have hst : (Instr.storeAt 31 (.pointer (some ⟨B, O, none⟩)) (.agg C)).run Try.prog w = .ok () (setAt w B O C) :=
    run_storeAt_mid w B O 31 C (fun j hj => ⟨by rw [cell_rowD, Array.getElem?_eq_getElem (by omega)]; rfl, frozen_of_frz hz _⟩) (by rw [info_rows, hs]) h1
  simp only [execOp, hx, hy, Sem.run_bind, hst, Result.andThen_ok, Sem.run_pure]
@[go_sem ↓ high] theorem sem_store_rows (l : Option Nat) (ρ : Operand → Value) (dst : Option Tmp) (x y : Operand) (ty : TypeId) (pos : String) (after : Array Edge) (g : Option (Nat × Bool)) (w : World)
    (hx : ρ x = .pointer (some ⟨blkOf (ρ x), offOf (ρ x), none⟩)) (hy : ρ y = .agg (ρ y).cells) (hs : SizeIs (ρ y).cells 64) (h : Fits (offOf (ρ x)) 64 (rowD w (blkOf (ρ x)))) (hz : frzD w (blkOf (ρ x)) = (0, 0)) (h1 : oneC (ρ y).cells) :
    (Oper.semAt l ρ ⟨dst, .store 31 x y, ty, pos, after, g⟩).run Try.prog w = .ok .skip (setAt w (blkOf (ρ x)) (offOf (ρ x)) (ρ y).cells) := by rw [Oper.semAt_eq _ _ _ (fun c h => by cases h)]; exact exec_store_rows ρ dst x y ty pos after g w hx hy hs h hz h1

theorem info_i16 : (Try.prog.info? 34).map (·.size) = some 16 := by kernel_rfl
theorem loadAt_i16 {w : World} {b o : Nat} (h : o + 16 ≤ (rowD w b).size) : (Instr.loadAt 34 (.pointer (some ⟨b, o, none⟩))).run Try.prog w = .ok (.agg ((rowD w b).extract o (o + 16))) w := by
  have := run_loadAt_mid w b o 34 ((rowD w b).extract o (o + 16)).toList _ (range_rowD w b o (o + 16)) Try.underlying34 rfl (by rw [info_i16]; simp; omega)
  rwa [Array.toArray_toList] at this
theorem loadVar_i16 {w : World} {b o : Nat} (h : o + 16 ≤ (rowD w b).size) : (loadVar 34 ⟨b, o, none⟩).run Try.prog w = .ok (.agg ((rowD w b).extract o (o + 16))) w := by
  have := run_loadVar_mid w b o 34 ((rowD w b).extract o (o + 16)).toList _ (range_rowD w b o (o + 16)) Try.underlying34 rfl (by rw [info_i16]; simp; omega)
  rwa [Array.toArray_toList] at this
@[go_sem ↓ high] theorem exec_load_i16 (ρ : Operand → Value) (dst : Option Tmp) (x : Operand) (ty : TypeId) (pos : String) (after : Array Edge) (g : Option (Nat × Bool)) (w : World)
    (hx : ρ x = .pointer (some ⟨blkOf (ρ x), offOf (ρ x), none⟩)) (h : Fits (offOf (ρ x)) 16 (rowD w (blkOf (ρ x)))) :
    (execOp ρ ⟨dst, .load 34 x, ty, pos, after, g⟩).run Try.prog w = .ok (.value (.agg (cutD (rowD w (blkOf (ρ x))) (offOf (ρ x)) 16))) w := by
  unfold Fits at h
  generalize hB : blkOf (ρ x) = B at *
  generalize hO : offOf (ρ x) = O at *
  simp only [execOp, hx, Sem.run_bind, loadAt_i16 h, Result.andThen_ok, Sem.run_pure, cutD]
@[go_sem ↓ high] theorem sem_load_i16 (l : Option Nat) (ρ : Operand → Value) (dst : Option Tmp) (x : Operand) (ty : TypeId) (pos : String) (after : Array Edge) (g : Option (Nat × Bool)) (w : World)
    (hx : ρ x = .pointer (some ⟨blkOf (ρ x), offOf (ρ x), none⟩)) (h : Fits (offOf (ρ x)) 16 (rowD w (blkOf (ρ x)))) :
    (Oper.semAt l ρ ⟨dst, .load 34 x, ty, pos, after, g⟩).run Try.prog w = .ok (.value (.agg (cutD (rowD w (blkOf (ρ x))) (offOf (ρ x)) 16))) w := by rw [Oper.semAt_eq _ _ _ (fun c h => by cases h)]; exact exec_load_i16 ρ dst x ty pos after g w hx h
@[go_sem ↓ high] theorem exec_store_i16 (ρ : Operand → Value) (dst : Option Tmp) (x y : Operand) (ty : TypeId) (pos : String) (after : Array Edge) (g : Option (Nat × Bool)) (w : World)
    (hx : ρ x = .pointer (some ⟨blkOf (ρ x), offOf (ρ x), none⟩)) (hy : ρ y = .agg (ρ y).cells) (hs : SizeIs (ρ y).cells 16) (h : Fits (offOf (ρ x)) 16 (rowD w (blkOf (ρ x)))) (hz : frzD w (blkOf (ρ x)) = (0, 0)) (h1 : oneC (ρ y).cells) :
    (execOp ρ ⟨dst, .store 34 x y, ty, pos, after, g⟩).run Try.prog w = .ok .skip (setAt w (blkOf (ρ x)) (offOf (ρ x)) (ρ y).cells) := by
  unfold Fits at h
  unfold SizeIs at hs
  generalize hB : blkOf (ρ x) = B at *
  generalize hO : offOf (ρ x) = O at *
  generalize hC : (ρ y).cells = C at *
  have hst : (Instr.storeAt 34 (.pointer (some ⟨B, O, none⟩)) (.agg C)).run Try.prog w = .ok () (setAt w B O C) :=
    run_storeAt_mid w B O 34 C (fun j hj => ⟨by rw [cell_rowD, Array.getElem?_eq_getElem (by omega)]; rfl, frozen_of_frz hz _⟩) (by rw [info_i16, hs]) h1
  simp only [execOp, hx, hy, Sem.run_bind, hst, Result.andThen_ok, Sem.run_pure]
@[go_sem ↓ high] theorem sem_store_i16 (l : Option Nat) (ρ : Operand → Value) (dst : Option Tmp) (x y : Operand) (ty : TypeId) (pos : String) (after : Array Edge) (g : Option (Nat × Bool)) (w : World)
    (hx : ρ x = .pointer (some ⟨blkOf (ρ x), offOf (ρ x), none⟩)) (hy : ρ y = .agg (ρ y).cells) (hs : SizeIs (ρ y).cells 16) (h : Fits (offOf (ρ x)) 16 (rowD w (blkOf (ρ x)))) (hz : frzD w (blkOf (ρ x)) = (0, 0)) (h1 : oneC (ρ y).cells) :
    (Oper.semAt l ρ ⟨dst, .store 34 x y, ty, pos, after, g⟩).run Try.prog w = .ok .skip (setAt w (blkOf (ρ x)) (offOf (ρ x)) (ρ y).cells) := by rw [Oper.semAt_eq _ _ _ (fun c h => by cases h)]; exact exec_store_i16 ρ dst x y ty pos after g w hx hy hs h hz h1

theorem info_md : (Try.prog.info? 43).map (·.size) = some 4 := by kernel_rfl
theorem loadAt_md {w : World} {b o : Nat} (h : o + 4 ≤ (rowD w b).size) : (Instr.loadAt 43 (.pointer (some ⟨b, o, none⟩))).run Try.prog w = .ok (.agg ((rowD w b).extract o (o + 4))) w := by
  have := run_loadAt_mid w b o 43 ((rowD w b).extract o (o + 4)).toList _ (range_rowD w b o (o + 4)) Try.underlying43 rfl (by rw [info_md]; simp; omega)
  rwa [Array.toArray_toList] at this
theorem loadVar_md {w : World} {b o : Nat} (h : o + 4 ≤ (rowD w b).size) : (loadVar 43 ⟨b, o, none⟩).run Try.prog w = .ok (.agg ((rowD w b).extract o (o + 4))) w := by
  have := run_loadVar_mid w b o 43 ((rowD w b).extract o (o + 4)).toList _ (range_rowD w b o (o + 4)) Try.underlying43 rfl (by rw [info_md]; simp; omega)
  rwa [Array.toArray_toList] at this
@[go_sem ↓ high] theorem exec_load_md (ρ : Operand → Value) (dst : Option Tmp) (x : Operand) (ty : TypeId) (pos : String) (after : Array Edge) (g : Option (Nat × Bool)) (w : World)
    (hx : ρ x = .pointer (some ⟨blkOf (ρ x), offOf (ρ x), none⟩)) (h : Fits (offOf (ρ x)) 4 (rowD w (blkOf (ρ x)))) :
    (execOp ρ ⟨dst, .load 43 x, ty, pos, after, g⟩).run Try.prog w = .ok (.value (.agg (cutD (rowD w (blkOf (ρ x))) (offOf (ρ x)) 4))) w := by
  unfold Fits at h
  generalize hB : blkOf (ρ x) = B at *
  generalize hO : offOf (ρ x) = O at *
  simp only [execOp, hx, Sem.run_bind, loadAt_md h, Result.andThen_ok, Sem.run_pure, cutD]
@[go_sem ↓ high] theorem sem_load_md (l : Option Nat) (ρ : Operand → Value) (dst : Option Tmp) (x : Operand) (ty : TypeId) (pos : String) (after : Array Edge) (g : Option (Nat × Bool)) (w : World)
    (hx : ρ x = .pointer (some ⟨blkOf (ρ x), offOf (ρ x), none⟩)) (h : Fits (offOf (ρ x)) 4 (rowD w (blkOf (ρ x)))) :
    (Oper.semAt l ρ ⟨dst, .load 43 x, ty, pos, after, g⟩).run Try.prog w = .ok (.value (.agg (cutD (rowD w (blkOf (ρ x))) (offOf (ρ x)) 4))) w := by rw [Oper.semAt_eq _ _ _ (fun c h => by cases h)]; exact exec_load_md ρ dst x ty pos after g w hx h
@[go_sem ↓ high] theorem exec_store_md (ρ : Operand → Value) (dst : Option Tmp) (x y : Operand) (ty : TypeId) (pos : String) (after : Array Edge) (g : Option (Nat × Bool)) (w : World)
    (hx : ρ x = .pointer (some ⟨blkOf (ρ x), offOf (ρ x), none⟩)) (hy : ρ y = .agg (ρ y).cells) (hs : SizeIs (ρ y).cells 4) (h : Fits (offOf (ρ x)) 4 (rowD w (blkOf (ρ x)))) (hz : frzD w (blkOf (ρ x)) = (0, 0)) (h1 : oneC (ρ y).cells) :
    (execOp ρ ⟨dst, .store 43 x y, ty, pos, after, g⟩).run Try.prog w = .ok .skip (setAt w (blkOf (ρ x)) (offOf (ρ x)) (ρ y).cells) := by
  unfold Fits at h
  unfold SizeIs at hs
  generalize hB : blkOf (ρ x) = B at *
  generalize hO : offOf (ρ x) = O at *
  generalize hC : (ρ y).cells = C at *
  have hst : (Instr.storeAt 43 (.pointer (some ⟨B, O, none⟩)) (.agg C)).run Try.prog w = .ok () (setAt w B O C) :=
    run_storeAt_mid w B O 43 C (fun j hj => ⟨by rw [cell_rowD, Array.getElem?_eq_getElem (by omega)]; rfl, frozen_of_frz hz _⟩) (by rw [info_md, hs]) h1
  simp only [execOp, hx, hy, Sem.run_bind, hst, Result.andThen_ok, Sem.run_pure]
@[go_sem ↓ high] theorem sem_store_md (l : Option Nat) (ρ : Operand → Value) (dst : Option Tmp) (x y : Operand) (ty : TypeId) (pos : String) (after : Array Edge) (g : Option (Nat × Bool)) (w : World)
    (hx : ρ x = .pointer (some ⟨blkOf (ρ x), offOf (ρ x), none⟩)) (hy : ρ y = .agg (ρ y).cells) (hs : SizeIs (ρ y).cells 4) (h : Fits (offOf (ρ x)) 4 (rowD w (blkOf (ρ x)))) (hz : frzD w (blkOf (ρ x)) = (0, 0)) (h1 : oneC (ρ y).cells) :
    (Oper.semAt l ρ ⟨dst, .store 43 x y, ty, pos, after, g⟩).run Try.prog w = .ok .skip (setAt w (blkOf (ρ x)) (offOf (ρ x)) (ρ y).cells) := by rw [Oper.semAt_eq _ _ _ (fun c h => by cases h)]; exact exec_store_md ρ dst x y ty pos after g w hx hy hs h hz h1

theorem info_en : (Try.prog.info? 30).map (·.size) = some 4 := by kernel_rfl
theorem loadAt_en {w : World} {b o : Nat} (h : o + 4 ≤ (rowD w b).size) : (Instr.loadAt 30 (.pointer (some ⟨b, o, none⟩))).run Try.prog w = .ok (.agg ((rowD w b).extract o (o + 4))) w := by
  have := run_loadAt_mid w b o 30 ((rowD w b).extract o (o + 4)).toList _ (range_rowD w b o (o + 4)) Try.underlying30 rfl (by rw [info_en]; simp; omega)
  rwa [Array.toArray_toList] at this
theorem loadVar_en {w : World} {b o : Nat} (h : o + 4 ≤ (rowD w b).size) : (loadVar 30 ⟨b, o, none⟩).run Try.prog w = .ok (.agg ((rowD w b).extract o (o + 4))) w := by
  have := run_loadVar_mid w b o 30 ((rowD w b).extract o (o + 4)).toList _ (range_rowD w b o (o + 4)) Try.underlying30 rfl (by rw [info_en]; simp; omega)
  rwa [Array.toArray_toList] at this
@[go_sem ↓ high] theorem exec_load_en (ρ : Operand → Value) (dst : Option Tmp) (x : Operand) (ty : TypeId) (pos : String) (after : Array Edge) (g : Option (Nat × Bool)) (w : World)
    (hx : ρ x = .pointer (some ⟨blkOf (ρ x), offOf (ρ x), none⟩)) (h : Fits (offOf (ρ x)) 4 (rowD w (blkOf (ρ x)))) :
    (execOp ρ ⟨dst, .load 30 x, ty, pos, after, g⟩).run Try.prog w = .ok (.value (.agg (cutD (rowD w (blkOf (ρ x))) (offOf (ρ x)) 4))) w := by
  unfold Fits at h
  generalize hB : blkOf (ρ x) = B at *
  generalize hO : offOf (ρ x) = O at *
  simp only [execOp, hx, Sem.run_bind, loadAt_en h, Result.andThen_ok, Sem.run_pure, cutD]
@[go_sem ↓ high] theorem sem_load_en (l : Option Nat) (ρ : Operand → Value) (dst : Option Tmp) (x : Operand) (ty : TypeId) (pos : String) (after : Array Edge) (g : Option (Nat × Bool)) (w : World)
    (hx : ρ x = .pointer (some ⟨blkOf (ρ x), offOf (ρ x), none⟩)) (h : Fits (offOf (ρ x)) 4 (rowD w (blkOf (ρ x)))) :
    (Oper.semAt l ρ ⟨dst, .load 30 x, ty, pos, after, g⟩).run Try.prog w = .ok (.value (.agg (cutD (rowD w (blkOf (ρ x))) (offOf (ρ x)) 4))) w := by rw [Oper.semAt_eq _ _ _ (fun c h => by cases h)]; exact exec_load_en ρ dst x ty pos after g w hx h
@[go_sem ↓ high] theorem exec_store_en (ρ : Operand → Value) (dst : Option Tmp) (x y : Operand) (ty : TypeId) (pos : String) (after : Array Edge) (g : Option (Nat × Bool)) (w : World)
    (hx : ρ x = .pointer (some ⟨blkOf (ρ x), offOf (ρ x), none⟩)) (hy : ρ y = .agg (ρ y).cells) (hs : SizeIs (ρ y).cells 4) (h : Fits (offOf (ρ x)) 4 (rowD w (blkOf (ρ x)))) (hz : frzD w (blkOf (ρ x)) = (0, 0)) (h1 : oneC (ρ y).cells) :
    (execOp ρ ⟨dst, .store 30 x y, ty, pos, after, g⟩).run Try.prog w = .ok .skip (setAt w (blkOf (ρ x)) (offOf (ρ x)) (ρ y).cells) := by
  unfold Fits at h
  unfold SizeIs at hs
  generalize hB : blkOf (ρ x) = B at *
  generalize hO : offOf (ρ x) = O at *
  generalize hC : (ρ y).cells = C at *
  have hst : (Instr.storeAt 30 (.pointer (some ⟨B, O, none⟩)) (.agg C)).run Try.prog w = .ok () (setAt w B O C) :=
    run_storeAt_mid w B O 30 C (fun j hj => ⟨by rw [cell_rowD, Array.getElem?_eq_getElem (by omega)]; rfl, frozen_of_frz hz _⟩) (by rw [info_en, hs]) h1
  simp only [execOp, hx, hy, Sem.run_bind, hst, Result.andThen_ok, Sem.run_pure]
@[go_sem ↓ high] theorem sem_store_en (l : Option Nat) (ρ : Operand → Value) (dst : Option Tmp) (x y : Operand) (ty : TypeId) (pos : String) (after : Array Edge) (g : Option (Nat × Bool)) (w : World)
    (hx : ρ x = .pointer (some ⟨blkOf (ρ x), offOf (ρ x), none⟩)) (hy : ρ y = .agg (ρ y).cells) (hs : SizeIs (ρ y).cells 4) (h : Fits (offOf (ρ x)) 4 (rowD w (blkOf (ρ x)))) (hz : frzD w (blkOf (ρ x)) = (0, 0)) (h1 : oneC (ρ y).cells) :
    (Oper.semAt l ρ ⟨dst, .store 30 x y, ty, pos, after, g⟩).run Try.prog w = .ok .skip (setAt w (blkOf (ρ x)) (offOf (ρ x)) (ρ y).cells) := by rw [Oper.semAt_eq _ _ _ (fun c h => by cases h)]; exact exec_store_en ρ dst x y ty pos after g w hx hy hs h hz h1

theorem zsize_67 : (Try.zeroCells47).size = 67 := by kernel_rfl
@[go_sem] theorem fits_z67 {o m : Nat} : Fits o m Try.zeroCells47 = (o + m ≤ 67) := by unfold Fits; rw [zsize_67]

@[go_sem] theorem get_mb_b (m : Mb) (k : Nat) (h : k < 6) : (mbv m)[k]? = some (.int .u8 (m.bk k)) := by
  unfold mbv; rw [get_rowv, if_pos (by omega)]; unfold Mb.at; rw [if_pos h]
@[go_sem] theorem get_mb_m (m : Mb) (k : Nat) (h : k < 3) : (mbv m)[6 + k]? = some (.int .u8 (m.mx k)) := by
  unfold mbv; rw [get_rowv, if_pos (by omega)]; unfold Mb.at; rw [if_neg (by omega), show 6 + k - 6 = k by omega]
/-- The bits of those that are so. -/
def setN (f : Nat → Bool) : Nat → Int
  | 0 => 0
  | k + 1 => setN f k + (if f k then 2 ^ k else 0)
theorem setN_bd (f : Nat → Bool) : ∀ k, 0 ≤ setN f k ∧ setN f k < 2 ^ k
  | 0 => by simp [setN]
  | k + 1 => by
    have := setN_bd f k
    have e : (2 : Int) ^ (k + 1) = 2 ^ k + 2 ^ k := by rw [Int.pow_succ]; omega
    rw [setN, e]
    split <;> omega
theorem pow_wrap {x : Int} {k : Nat} (hk : k < 6) (h0 : 0 ≤ x) (h1 : x < 2 ^ k) : wrap64 (x + wrap64 (2 ^ k)) = x + 2 ^ k := by
  obtain rfl | rfl | rfl | rfl | rfl | rfl : k = 0 ∨ k = 1 ∨ k = 2 ∨ k = 3 ∨ k = 4 ∨ k = 5 := by omega
  all_goals (simp at h1 ⊢; unfold wrap64; omega)
def thereB (s : Int) : Bool := s == 1 || s == 2
def backs (m : Mb) : Int := setN (fun i => thereB (m.bk i)) 6
def takers (m : Mb) : Int := setN (fun i => m.bk i == 1) 6
def muxes (m : Mb) : Int := setN (fun i => thereB (m.mx i)) 3

set_option maxRecDepth 100000 in
set_option maxHeartbeats 1000000 in
theorem rbacks_any (m : Mb) (w : World) :
    Calls Try.prog 7 #[.agg (mbv m)] w fun e w' => e = .returned (.int .u8 (setN (fun i => thereB (m.bk i)) 6)) ∧ Ext w w' := by
  go_enter Try.func7, Try.ntmps7
  go_wp2
  go_loop [3, 4] (fun n i => ∃ k : Nat, k ≤ 6 ∧ i = .int .i64 k ∧ n = .int .i64 (setN (fun i => thereB (m.bk i)) k)) (fun _ i => 6 - (intOf i).toNat)
  case atStart => exact ⟨0, Nat.zero_le _, rfl, rfl⟩
  case round =>
    obtain ⟨k, hk, rfl, rfl⟩ := hrel
    have hd := setN_bd (fun i => thereB (m.bk i)) k
    by_cases hlt : k < 6
    · have hlt' : (k : Int) < 6 := by omega
      cases h1 : (m.bk k == 1) <;> cases h2 : (m.bk k == 2)
      · have HS := Lib.hid (show setN (fun i => thereB (m.bk i)) (k + 1) = setN (fun i => thereB (m.bk i)) k by rw [setN]; simp [thereB, h1, h2])
        go_wp2
        go_round
        case rel => exact ⟨k + 1, by omega, by go_num, by rw [HS.out]⟩
        case measure => simp [intOf]; omega
      all_goals
        have HS := Lib.hid (show setN (fun i => thereB (m.bk i)) (k + 1) = setN (fun i => thereB (m.bk i)) k + 2 ^ k by rw [setN]; simp [thereB, h1, h2])
        generalize hx : setN (fun i => thereB (m.bk i)) k = x at hd HS ⊢
        clear hx
        go_wp2
        go_round
        case rel => exact ⟨k + 1, by omega, by go_num, by rw [HS.out, pow_wrap (by omega) hd.1 hd.2]⟩
        case measure => simp [intOf]; omega
    · obtain rfl : k = 6 := by omega
      generalize hx : setN (fun i => thereB (m.bk i)) 6 = x at hd ⊢
      have hx0 := hd.1
      have hx1 : x < 64 := Int.lt_of_lt_of_le hd.2 (by decide)
      clear hd
      go_wp2
      go_ret
      exact ⟨rfl, by (repeat (first | with_reducible exact Ext.rf _ | with_reducible assumption | with_reducible refine Ext.al ?_ _ | with_reducible refine Ext.dr ?_ | with_reducible refine Ext.dn ?_ _ | ((with_reducible refine Ext.st _ ?_ ?_); focus (first | omega | (simp; omega) | simp)) | with_reducible refine Ext.tr ?_ (by assumption) | with_reducible refine Ext.tr ?_ (up_ext (by assumption)) | with_reducible refine Ext.of (by assumption) ?_))⟩

end Go.Proofs.Ytedamnocolfmlaa

/- Members: the states, the bits of those that are there. -/
namespace Go.Proofs.Ytedamnocolfmlaa
open Go.RowKit

/-- What states returns: a closure over a slice of n states from o on. -/
structure StIs (w : World) (m : Mb) (o n : Nat) (e : Ending) (w' : World) : Prop where
  ret : e = .returned (.func (.func 94) #[] #[.pointer (some ⟨w.heap.size + 1, 0, none⟩)])
  ext : Ext w w'
  cell : w'.cell? ⟨w.heap.size + 1, 0, none⟩ = some (.slice (some ⟨w.heap.size, o, none⟩) n n)
  lt : Lt (w.heap.size + 1) w'
  row : rowD w' w.heap.size = mbv m
  ltr : Lt w.heap.size w'
set_option maxRecDepth 100000 in
set_option maxHeartbeats 1000000 in
theorem mstates_back (m : Mb) (w : World) : Calls Try.prog 85 #[.agg (mbv m), .int .u8 2] w (StIs w m 0 6) := by
  go_enter Try.func85, Try.ntmps85
  go_wp2
  go_ret
  exact ⟨rfl, by (repeat (first | with_reducible exact Ext.rf _ | with_reducible assumption | with_reducible refine Ext.al ?_ _ | with_reducible refine Ext.dr ?_ | with_reducible refine Ext.dn ?_ _ | ((with_reducible refine Ext.st _ ?_ ?_); focus (first | omega | (simp; omega) | simp)) | with_reducible refine Ext.tr ?_ (by assumption) | with_reducible refine Ext.tr ?_ (up_ext (by assumption)) | with_reducible refine Ext.of (by assumption) ?_)), by simp [go_sem], by simp [go_sem], by simp [go_sem], by simp [go_sem]⟩
set_option maxRecDepth 100000 in
set_option maxHeartbeats 1000000 in
theorem mstates_mux (m : Mb) (w : World) : Calls Try.prog 85 #[.agg (mbv m), .int .u8 1] w (StIs w m 6 3) := by
  go_enter Try.func85, Try.ntmps85
  go_wp2
  go_ret
  exact ⟨rfl, by (repeat (first | with_reducible exact Ext.rf _ | with_reducible assumption | with_reducible refine Ext.al ?_ _ | with_reducible refine Ext.dr ?_ | with_reducible refine Ext.dn ?_ _ | ((with_reducible refine Ext.st _ ?_ ?_); focus (first | omega | (simp; omega) | simp)) | with_reducible refine Ext.tr ?_ (by assumption) | with_reducible refine Ext.tr ?_ (up_ext (by assumption)) | with_reducible refine Ext.of (by assumption) ?_)), by simp [go_sem], by simp [go_sem], by simp [go_sem], by simp [go_sem]⟩

def msts (f : Nat → Int) (N : Nat) : List (Nat × Int) := (List.range N).map fun i => (i, f i)
theorem msts_len (f : Nat → Int) (N : Nat) : (msts f N).length = N := by simp [msts]
theorem msts_get (f : Nat → Int) (N i : Nat) (hi : i < N) : (msts f N)[i]? = some (i, f i) := by simp [msts, hi]
theorem enters_mstates1 : ∀ args w, (callFunc 94 args).run Try.prog w = .ok (.enter 94 args) w := enters_of Try.func94 (by kernel_rfl) rfl
set_option maxRecDepth 20000 in
set_option maxHeartbeats 4000000 in
theorem mstates_iter (n : Nat) (f : Nat → Int) (N : Nat) (hN : N ≤ 6) (w : World) (B Bm o : Nat) (U : Nat → Prop) (hc : w.cell? ⟨B, 0, none⟩ = some (.slice (some ⟨Bm, o, none⟩) N N)) (lB : Lt B w) (hm : ∀ i, i < N → w.cell? ⟨Bm, o + i, none⟩ = some (.int .u8 (f i))) (lm : Lt Bm w) (hU : ¬ U Bm) :
    Iter Fence.wide n Try.prog 94 #[.pointer (some ⟨B, 0, none⟩)] (fun x : Nat × Int => #[.int .i64 x.1, .int .u8 x.2]) (fun _ => False) U (msts f N) w := by
  intro y J Jx W hW hJ hJx hY hJ0
  have HJ := Lib.hid hJ
  have HJx := Lib.hid hJx
  have HM := Lib.hid hm
  clear hJ hJx hm
  obtain ⟨yfn, ytm, yas, ybo, hY⟩ := hY
  have HY := Lib.hid hY
  clear hY
  have hcW : W.cell? ⟨B, 0, none⟩ = some (.slice (some ⟨Bm, o, none⟩) N N) := (hW.cell (p := ⟨B, 0, none⟩) lB).trans hc
  have hrW : W.heap[Bm]? = w.heap[Bm]? := hW.block Bm lm
  have hszW : w.heap.size ≤ W.heap.size := hW.size
  clear hc
  refine callsIn_of_wp Try.func94 rfl trivial ?_ rfl
  simp only [Try.ntmps94, List.size_toArray, List.length_cons, List.length_nil, Nat.reduceAdd, Nat.reduceSub, Array.replicate_succ, Array.replicate_zero, List.push_toArray, List.append_toArray, List.nil_append, List.cons_append]
  refine wpIn_wide.2 ?_
  go_wp2
  go_loopw [3, 4, 7] (fun _ _ a wr => ∃ i : Nat, i ≤ N ∧ a = .int .i64 i ∧ J i wr ∧ wr.heap[Bm]? = w.heap[Bm]? ∧ w.heap.size ≤ wr.heap.size) (fun _ _ a _ => N - (intOf a).toNat)
  case atStart => exact ⟨0, Nat.zero_le _, rfl, hJ0, hrW, hszW⟩
  case round =>
    clear hcW hrW hJ0
    obtain ⟨i, hi, rfl, hJi, hri, hsi⟩ := hrel
    by_cases hlt : i < N
    · have hlt' : (i : Int) < N := by omega
      have hce : wr.cell? ⟨Bm, o + i, none⟩ = some (.int .u8 (f i)) := by
        rw [cell_rowD, rowD_same hri, ← cell_rowD]; exact HM.out i hlt
      have lmr : Lt Bm wr := Nat.lt_of_lt_of_le lm hsi
      have hxs := msts_get f N i hlt
      have HXS := Lib.hid hxs
      have HJI := Lib.hid hJi
      have HRI := Lib.hid hri
      clear hxs hJi hri
      go_upto_region 3 with (fail)
      have hrun : (Instr.yield y #[.int .i64 i, .int .u8 (f i)]).run Try.prog wr = .ok (.round y yfn (ytm #[.int .i64 i, .int .u8 (f i)]) yas ybo) wr := (HY.out i (i, f i) wr HJI.out HXS.out).1
      have HRD := Lib.hid (HY.out i (i, f i) wr HJI.out HXS.out).2
      refine (wpIn_wide (n := n)).1 ?_
      gi_wp2
      refine ⟨(fun h => absurd h (by simp [Fence.wide])), (HRD.out).mono ?_⟩
      rintro e w6 ⟨b, rfl, hP⟩
      obtain ⟨rfl, hJ6, hm6⟩ | ⟨rfl, hx6⟩ := hP
      · have hr6 : w6.heap[Bm]? = w.heap[Bm]? := (hm6.same Bm lmr (fun hh => by rcases hh with hh | hh; exact hU hh; exact absurd lm (Nat.not_lt.2 hh))).trans HRI.out
        have hs6 : w.heap.size ≤ w6.heap.size := Nat.le_trans hsi hm6.size
        have HR6 := Lib.hid hr6
        clear hm6 hr6
        gi_wp2
        go_wp2
        go_roundw
        case rel => exact ⟨i + 1, by omega, by go_num, hJ6, HR6.out, hs6⟩
        case measure => simp [intOf]; omega
      · gi_wp2
        go_wp2
        refine bodyPost_ret (results_none rfl _ _ _) rfl ⟨⟨_, rfl⟩, .inr hx6⟩
    · obtain rfl : i = N := by omega
      have HL := Lib.hid (msts_len f i)
      go_wp2
      go_end0
      exact ⟨⟨_, rfl⟩, .inl (by rw [HL.out]; exact hJi)⟩

end Go.Proofs.Ytedamnocolfmlaa

/- A region that draws, in a round, that turns blocks of C alone, but for one operation: what reads is taken first. (My own law; any program.) -/
namespace Go.Proofs.Ytedamnocolfmlaa
open Go.RowKit
section
variable {P : Program} {ops : Array Oper} {md : Region.Mode} {n : Nat} {r : Nat} {F : Fence} {C : Nat → Prop}
def xUponW (P : Program) (N : Value → World → Prop) : Result Next → Prop
  | .ok (.value u) w' => N u w'
  | .ok .skip w' => N undef w'
  | _ => False
theorem xUponW_mono {N N' : Value → World → Prop} (h : ∀ v w, N v w → N' v w) : ∀ r : Result Next, xUponW P N r → xUponW P N' r
  | .ok (.value u) w', hh => h _ _ hh
  | .ok .skip w', hh => h _ _ hh
def xOpW (P : Program) (ops : Array Oper) (i : Nat) (K : Act → World → Prop) (a : Act) (w : World) : Prop :=
  match ops[i]? with
  | none => K a w
  | some o => if Region.wanted o (yielded ops a.tmps) = true then xUponW P (fun v w' => K (a.put o.dst v) w') ((execOp a.eval o).run P w) else K (a.put o.dst undef) w
theorem xOpW_mono {i : Nat} {a : Act} {w : World} {K K' : Act → World → Prop} (h : ∀ a w, K a w → K' a w) (hh : xOpW P ops i K a w) : xOpW P ops i K' a w := by
  unfold xOpW at *
  split
  · exact h _ _ (by simpa [*] using hh)
  · rename_i o ho
    simp only [ho] at hh
    split
    · rename_i hw; simp only [hw, if_true] at hh; exact xUponW_mono (fun v w' h1 => h _ _ h1) _ hh
    · rename_i hw; simp only [hw] at hh; exact h _ _ hh
theorem wpOpIn_of_W {i : Nat} {a : Act} {w : World} {K : Act → World → Prop} {Q : Exit → Act → World → Prop} (hF : ∀ f, F.fn f) (hd : ∀ o, ops[i]? = some o → ∀ c, o.op ≠ .defer c) (hh : xOpW P ops i K a w) : wpOpIn F n P ops Q i K a w := by
  unfold xOpW at hh
  unfold wpOpIn
  split
  · rename_i ho; simp only [ho] at hh; exact hh
  · rename_i o ho
    simp only [ho] at hh
    split
    · rename_i hw
      simp only [hw, if_true] at hh
      refine ⟨fun f _ => hF f, ?_⟩
      have hs : Oper.semAt F.round a.eval o = execOp a.eval o := by
        cases F.round with
        | none => rfl
        | some l => exact Oper.semAt_some l _ _ (hd o ho)
      rw [hs]
      generalize (execOp a.eval o).run P w = q at *
      cases q with
      | ok x w' =>
        cases x <;> simp only [xUponW] at hh <;> simp only [Oper.uponIn]
        case value u => exact hh
        case skip => exact hh
      | halt x w' => simp only [xUponW] at hh
    · rename_i hw; simp only [hw] at hh; exact ⟨fun f _ => hF f, hh⟩
/-- Whatever order is picked from here on; each operation but r makes new blocks alone. -/
def wpAnyW (C : Nat → Prop) (P : Program) (md : Region.Mode) (ops : Array Oper) (r : Nat) (Q : Act → World → Prop) : Nat → Array Bool → Act → World → Prop
  | 0, listed, a, w => Region.ready md ops listed = [] ∧ Q a w
  | fuel + 1, listed, a, w => (Region.ready md ops listed = [] → Q a w) ∧
    ∀ i ∈ Region.ready md ops listed, xOpW P ops i (fun a' w' => (i = r ∨ Mv C w w') ∧ wpAnyW C P md ops r Q fuel (listed.setIfInBounds i true) a' w') a w
theorem wpAnyIn_of_W {Q : Act → World → Prop} {Q' : Exit → Act → World → Prop} (hF : ∀ f, F.fn f) (hd : ∀ (i : Nat) o, ops[i]? = some o → ∀ c, o.op ≠ .defer c) (hQ : ∀ a w, Q a w → Q' .normal a w) : ∀ (fuel : Nat) (listed : Array Bool) (a : Act) (w : World),
    wpAnyW C P md ops r Q fuel listed a w → wpAnyIn F n P md ops Q' fuel listed a w
  | 0, _, _, _, h => ⟨h.1, hQ _ _ h.2⟩
  | fuel + 1, _, _, _, h => ⟨fun h0 => hQ _ _ (h.1 h0), fun i hi => wpOpIn_of_W hF (hd i) (xOpW_mono (fun a' w' h1 => wpAnyIn_of_W hF hd hQ fuel _ a' w' h1.2) (h.2 i hi))⟩
/-- In state 'a', in every world that w grows to, 'o' yields v and does nothing else. -/
def YieldsW (C : Nat → Prop) (P : Program) (ops : Array Oper) (w : World) (o : Oper) (v : Value) (a : Act) : Prop :=
  (Region.wanted o (yielded ops a.tmps) = true ∧ ∀ w', Mv C w w' → (execOp a.eval o).run P w' = .ok (.value v) w') ∨ (Region.wanted o (yielded ops a.tmps) = false ∧ v = undef)
theorem YieldsW.later {w w' : World} {o : Oper} {v : Value} {a : Act} (h : YieldsW C P ops w o v a) (e : Mv C w w') : YieldsW C P ops w' o v a := by
  rcases h with ⟨h1, h2⟩ | h
  · exact .inl ⟨h1, fun w2 e2 => h2 w2 (e.trans e2)⟩
  · exact .inr h
theorem YieldsW.xOp {w : World} {i : Nat} {o : Oper} {v : Value} {a : Act} (hi : ops[i]? = some o) (hy : YieldsW C P ops w o v a) {K : Act → World → Prop} (h : K (a.put o.dst v) w) : xOpW P ops i K a w := by
  unfold xOpW
  simp only [hi]
  rcases hy with ⟨hw, hv⟩ | ⟨hw, rfl⟩
  · simp only [hw, if_true, hv w (Mv.refl _ _), xUponW]; exact h
  · simp only [hw, Bool.false_eq_true, if_false]; exact h
theorem xOpW_put {j : Nat} {oi oj : Oper} {v : Value} {w : World} (hj : ops[j]? = some oj) (hap : oi.apart ops oj = true)
    (hsi : ∀ cs b, oi.op ≠ .select cs b) (hsj : ∀ cs b, oj.op ≠ .select cs b) {K : Act → World → Prop} {a : Act}
    (hy : YieldsW C P ops w oi v a) (h : xOpW P ops j K (a.put oi.dst v) w) :
    xOpW P ops j (fun a' w' => YieldsW C P ops w oi v a' ∧ K (a'.put oi.dst v) w') a w := by
  obtain ⟨h1, h2, h3⟩ := Oper.apart_spec hap
  have keep : ∀ u, YieldsW C P ops w oi v (a.put oj.dst u) := fun u => by
    unfold YieldsW at *
    rw [execOp_put oi hsi a oj.dst u h3, wanted_put oi a oj.dst u h3]
    exact hy
  unfold xOpW at *
  simp only [hj] at *
  rw [wanted_put oj a oi.dst v h1] at h
  split
  · rename_i hw
    simp only [hw, if_true] at h
    rw [execOp_put oj hsj a oi.dst v h1] at h
    exact xUponW_mono (fun u w' h4 => ⟨keep u, by rw [← Act.put_comm a v u h2]; exact h4⟩) _ h
  · rename_i hw
    simp only [hw] at h
    exact ⟨keep _, by rw [← Act.put_comm a v undef h2]; exact h⟩
/-- What reads may be taken first, where the round waits for it. -/
theorem wpAnyW_first {Q : Act → World → Prop} {i : Nat} {oi : Oper} {v : Value} {l : List Nat} (hi : ops[i]? = some oi) (hsel : ∀ (j : Nat) (o : Oper) cs b, ops[j]? = some o → o.op ≠ .select cs b)
    (hwt : waitsB md ops (i :: l) = true) (hla : (i :: l).getLast? = some r) (hir : i ≠ r) :
    ∀ (fuel : Nat) (listed : Array Bool) (a : Act) (w : World), closedX md ops listed →
      (∀ j oj, ops[j]? = some oj → j ≠ i → listed.getD j true = false → (∀ e ∈ oj.after, Region.binds md e = true → e.on ≠ i) → oi.apart ops oj = true) →
      i ∈ Region.ready md ops listed → YieldsW C P ops w oi v a →
      wpAnyW C P md ops r Q fuel (listed.setIfInBounds i true) (a.put oi.dst v) w → wpAnyW C P md ops r Q (fuel + 1) listed a w := by
  intro fuel
  induction fuel with
  | zero =>
    intro listed a w _ _ hr hy H
    refine ⟨fun h => (by rw [h] at hr; cases hr), fun j hj => ?_⟩
    by_cases hji : j = i
    · subst hji; exact hy.xOp hi ⟨.inr (Mv.refl _ _), H⟩
    · have := ready_mono hj hji
      rw [H.1] at this
      cases this
  | succ fuel ih =>
    intro listed a w hcl hfree hr hy H
    refine ⟨fun h => (by rw [h] at hr; cases hr), fun j hj => ?_⟩
    by_cases hji : j = i
    · subst hji; exact hy.xOp hi ⟨.inr (Mv.refl _ _), H⟩
    · have hjr : j ≠ r := fun e => by
        subst e
        have h1 := waits_listed hcl hj l i hwt hla hir
        have h0 := (mem_ready.1 hr).1
        rcases Nat.lt_or_ge i listed.size with h' | h'
        · simp [h'] at h0 h1; rw [h0] at h1; cases h1
        · simp [Array.getElem?_eq_none h'] at h1
      have h1 := H.2 j (ready_mono hj hji)
      obtain ⟨hjun, oj, hoj, hall⟩ := mem_ready.1 hj
      have hnot : ∀ e ∈ oj.after, Region.binds md e = true → e.on ≠ i := fun e he hb heq => by
        have h1 := hall e he hb
        have h0 := (mem_ready.1 hr).1
        rw [heq] at h1
        rcases Nat.lt_or_ge i listed.size with h' | h'
        · simp [h'] at h0 h1; rw [h0] at h1; cases h1
        · simp [Array.getElem?_eq_none h'] at h1
      have h2 := xOpW_put hoj (hfree j oj hoj hji hjun hnot) (fun cs b => hsel i oi cs b hi) (fun cs b => hsel j oj cs b hoj) hy h1
      have hfree' : ∀ k ok, ops[k]? = some ok → k ≠ i → (listed.setIfInBounds j true).getD k true = false →
          (∀ e ∈ ok.after, Region.binds md e = true → e.on ≠ i) → oi.apart ops ok = true := fun k ok hk hki hun hno => by
        refine hfree k ok hk hki ?_ hno
        by_cases hjk : j = k
        · subst hjk; exact hjun
        · rw [getD_set_ne true hjk] at hun; exact hun
      refine xOpW_mono (fun a' w' h3 => ⟨h3.2.1, ih (listed.setIfInBounds j true) a' w' (hcl.set hj) hfree' (ready_mono hr (Ne.symm hji)) (h3.1.later (h3.2.1.resolve_left hjr)) ?_⟩) h2
      have h4 := h3.2.2
      rw [Array.setIfInBounds_comm _ _ hji]
      exact h4
theorem takeW {Q : Act → World → Prop} {N k : Nat} {l : List Nat} {oi : Oper} {v : Value} {fuel : Nat} {a : Act} {w : World} (hs : Region.noSelect ops = true) (hok : okX ops N k = true)
    (hcl : closedB .any ops (lst N k) = true) (hwt : waitsB .any ops (k :: l) = true) (hla : (k :: l).getLast? = some r) (hir : k ≠ r) (hi : ops[k]? = some oi) (hw : Region.wanted oi (yielded ops a.tmps) = true)
    (hy : ∀ w', Mv C w w' → (execOp a.eval oi).run P w' = .ok (.value v) w')
    (H : wpAnyW C P .any ops r Q fuel (lst N (k + 1)) (a.put oi.dst v) w) : wpAnyW C P .any ops r Q (fuel + 1) (lst N k) a w := by
  unfold okX at hok
  rw [Bool.and_eq_true] at hok
  refine wpAnyW_first hi (Region.noSelect_spec hs) hwt hla hir fuel _ a w (closed_of hcl) (Region.free_spec hi hok.1) (by simpa using upX_ready hok.2) (.inl ⟨hw, hy⟩) ?_
  rw [lst_set]
  exact H
theorem soleW {Q : Act → World → Prop} {N k : Nat} {oi : Oper} {fuel : Nat} {a : Act} {w : World} (hr : Region.ready .any ops (lst N k) = [k]) (hi : ops[k]? = some oi) (hw : Region.wanted oi (yielded ops a.tmps) = true)
    (H : xUponW P (fun v w' => (k = r ∨ Mv C w w') ∧ wpAnyW C P .any ops r Q fuel (lst N (k + 1)) (a.put oi.dst v) w') ((execOp a.eval oi).run P w)) : wpAnyW C P .any ops r Q (fuel + 1) (lst N k) a w := by
  refine ⟨fun h0 => ?_, fun j hj => ?_⟩
  · rw [hr] at h0; cases h0
  · rw [hr] at hj
    obtain rfl : j = k := by simpa using hj
    unfold xOpW
    simp only [hi, hw, if_true]
    rw [lst_set]
    exact H
theorem valueW {Q : Act → World → Prop} {N k : Nat} {oi : Oper} {v : Value} {fuel : Nat} {a : Act} {w : World} (hr : Region.ready .any ops (lst N k) = [k]) (hi : ops[k]? = some oi) (hw : Region.wanted oi (yielded ops a.tmps) = true)
    (he : (execOp a.eval oi).run P w = .ok (.value v) w) (H : wpAnyW C P .any ops r Q fuel (lst N (k + 1)) (a.put oi.dst v) w) : wpAnyW C P .any ops r Q (fuel + 1) (lst N k) a w := by
  refine soleW hr hi hw ?_
  rw [he]
  exact ⟨.inr (Mv.refl _ _), H⟩
theorem makeW {Q : Act → World → Prop} {N k : Nat} {oi : Oper} {v : Value} {fuel : Nat} {a : Act} {w w1 : World} (hr : Region.ready .any ops (lst N k) = [k]) (hi : ops[k]? = some oi) (hw : Region.wanted oi (yielded ops a.tmps) = true)
    (he : (execOp a.eval oi).run P w = .ok (.value v) w1) (hE : k = r ∨ Mv C w w1) (H : wpAnyW C P .any ops r Q fuel (lst N (k + 1)) (a.put oi.dst v) w1) : wpAnyW C P .any ops r Q (fuel + 1) (lst N k) a w := by
  refine soleW hr hi hw ?_
  rw [he]
  exact ⟨hE, H⟩
theorem skipW {Q : Act → World → Prop} {N k : Nat} {oi : Oper} {fuel : Nat} {a : Act} {w w1 : World} (hr : Region.ready .any ops (lst N k) = [k]) (hi : ops[k]? = some oi) (hw : Region.wanted oi (yielded ops a.tmps) = true)
    (he : (execOp a.eval oi).run P w = .ok .skip w1) (hE : k = r ∨ Mv C w w1) (H : wpAnyW C P .any ops r Q fuel (lst N (k + 1)) (a.put oi.dst undef) w1) : wpAnyW C P .any ops r Q (fuel + 1) (lst N k) a w := by
  refine soleW hr hi hw ?_
  rw [he]
  exact ⟨hE, H⟩
theorem doneW {Q : Act → World → Prop} {fuel : Nat} {listed : Array Bool} {a : Act} {w : World} (hr : Region.ready md ops listed = []) (H : Q a w) : wpAnyW C P md ops r Q fuel listed a w := by
  cases fuel with
  | zero => exact ⟨hr, H⟩
  | succ m => exact ⟨fun _ => H, fun i hi => by rw [hr] at hi; cases hi⟩
theorem wp_region_W (r : Nat) {id : Nat} {Q : Exit → Act → World → Prop} {a : Act} {w : World} (C : Nat → Prop) (hF : ∀ f, F.fn f) (hd : (ops.all fun o => match o.op with | .defer _ => false | _ => true) = true) (hm : P.follows .mixedOrders = true)
    (h : wpAnyW C P .any ops r (fun a w => Q .normal a w) ops.size (Array.replicate ops.size false) a w.drew) : (Code.region id ops true).wpIn F n P Q a w :=
  wpIn_region_any hm (wpAnyIn_of_W hF (fun i o ho c e => by
    rw [Array.all_eq_true'] at hd
    have := hd o (Array.mem_of_getElem? ho)
    rw [e] at this
    cases this) (fun _ _ h => h) _ _ _ _ h)
theorem withW {P : Program} {ops E : Array Oper} {Q : Act → World → Prop} {N : Nat} {a : Act} {w : World} {R : Array Oper → Prop} (h : ops = E) (hR : R E) (hf : ops.size = N)
    (H : R ops → wpAnyW C P .any ops r Q N (lst N 0) a w) : wpAnyW C P .any ops r Q ops.size (Array.replicate ops.size false) a w := by
  rw [hf, lst_zero]; exact H (h ▸ hR)
end

end Go.Proofs.Ytedamnocolfmlaa

/- Members: the bits of those that are there. -/
namespace Go.Proofs.Ytedamnocolfmlaa
open Go.RowKit

def pathsMth : List (Nat × List Nat) := [(0, [3, 4]), (1, [2, 3, 4]), (2, [3, 4]), (3, [4])]
def SchMth (ops : Array Oper) : Prop := Region.noSelect ops = true ∧ (∀ k, k < 4 → okX ops 5 k = true) ∧ (∀ k, k < 4 → closedB .any ops (lst 5 k) = true) ∧ (∀ k l, (k, l) ∈ pathsMth → waitsB .any ops (k :: l) = true) ∧ Region.ready .any ops (lst 5 4) = [4] ∧ Region.ready .any ops (lst 5 5) = []
theorem schMth : SchMth ((Try.f67.body.bind (findR 5)).getD #[]) := by
  have h1 : ((List.range 4).all fun k => okX ((Try.f67.body.bind (findR 5)).getD #[]) 5 k) = true := by kernel_rfl
  have h2 : ((List.range 4).all fun k => closedB .any ((Try.f67.body.bind (findR 5)).getD #[]) (lst 5 k)) = true := by kernel_rfl
  have h3 : (pathsMth.all fun kl => waitsB .any ((Try.f67.body.bind (findR 5)).getD #[]) (kl.1 :: kl.2)) = true := by kernel_rfl
  exact ⟨by kernel_rfl, fun k hk => List.all_eq_true.1 h1 k (List.mem_range.2 hk), fun k hk => List.all_eq_true.1 h2 k (List.mem_range.2 hk), fun k l h => List.all_eq_true.1 h3 (k, l) h, by kernel_rfl, by kernel_rfl⟩

theorem loadu8 {w : World} {b o : Nat} {x : Int} (h : w.cell? ⟨b, o, none⟩ = some (.int .u8 x)) : (loadVar 5 ⟨b, o, none⟩).run Try.prog w = .ok (.int .u8 x) w := by go_simp
theorem load_u8_W {C : Nat → Prop} {w : World} {B O : Nat} {x : Int} (h0 : w.cell? ⟨B, O, none⟩ = some (.int .u8 x)) (hl : Lt B w) (hC : ¬ C B) (ρ : Operand → Value) (dst : Option Tmp) (y : Operand) (ty : TypeId) (pos : String) (after : Array Edge) (g : Option (Nat × Bool))
    (hx : ρ y = .pointer (some ⟨B, O, none⟩)) : ∀ w', Mv C w w' → (execOp ρ ⟨dst, .load 5 y, ty, pos, after, g⟩).run Try.prog w' = .ok (.value (.int .u8 x)) w' := by
  intro w' hE
  have h0 : w'.cell? ⟨B, O, none⟩ = some (.int .u8 x) := by rw [cell_rowD, rowD_same (hE.same B hl hC), ← cell_rowD]; exact h0
  simp only [execOp, hx]
  go_simp
theorem shlu8_run {i : Nat} (hi : i < 6) (ρ : Operand → Value) (dst : Option Tmp) (x : Operand) (ty : TypeId) (pos : String) (after : Array Edge) (g : Option (Nat × Bool)) (hx : ρ x = .int .i64 (i : Nat)) (hk : ρ (.const (.int .u8 1)) = .int .u8 1) (w : World) :
    (execOp ρ ⟨dst, .binOp .shl 5 (.const (.int .u8 1)) x 3, ty, pos, after, g⟩).run Try.prog w = .ok (.value (.int .u8 (2 ^ i))) w := by
  obtain rfl | rfl | rfl | rfl | rfl | rfl : i = 0 ∨ i = 1 ∨ i = 2 ∨ i = 3 ∨ i = 4 ∨ i = 5 := by omega
  all_goals (simp only [execOp, hx, hk]; go_simp)
  all_goals decide
theorem or_pow : ∀ i, i < 6 → ∀ n, n < 2 ^ i → bits .or .u8 ((n : Nat) : Int) ((2 ^ i : Nat) : Int) = ((n + 2 ^ i : Nat) : Int) := by decide +kernel
theorem oru8_run {i : Nat} {x : Int} (hi : i < 6) (h0 : 0 ≤ x) (h1 : x < 2 ^ i) (ρ : Operand → Value) (dst : Option Tmp) (y z : Operand) (ty : TypeId) (pos : String) (after : Array Edge) (g : Option (Nat × Bool)) (hy : ρ y = .int .u8 x) (hz : ρ z = .int .u8 (2 ^ i)) (w : World) :
    (execOp ρ ⟨dst, .binOp .or 5 y z 5, ty, pos, after, g⟩).run Try.prog w = .ok (.value (.int .u8 (x + 2 ^ i))) w := by
  simp only [execOp, hy, hz]
  go_simp
  obtain ⟨n, rfl⟩ := Int.eq_ofNat_of_zero_le h0
  have h := or_pow i hi n (by have e : ((2 : Int) ^ i) = ((2 ^ i : Nat) : Int) := by simp
                              rw [e] at h1; exact Int.ofNat_lt.1 h1)
  simpa using h
theorem storeu8_run {w : World} {B : Nat} {v u : Int} (hc : w.cell? ⟨B, 0, none⟩ = some (.int .u8 u)) (hf : w.frozen? ⟨B, 0, none⟩ = false) (ρ : Operand → Value) (dst : Option Tmp) (x y : Operand) (ty : TypeId) (pos : String) (after : Array Edge) (g : Option (Nat × Bool))
    (hx : ρ x = .pointer (some ⟨B, 0, none⟩)) (hy : ρ y = .int .u8 v) :
    (execOp ρ ⟨dst, .store 5 x y, ty, pos, after, g⟩).run Try.prog w = .ok .skip (w.setCell ⟨B, 0, none⟩ (.int .u8 v)) := by
  simp only [execOp, hx, hy]
  go_simp
set_option maxRecDepth 100000 in
set_option maxHeartbeats 4000000 in
theorem those_any (m : Mb) (kd : Int) (o N : Nat) (f : Nat → Int) (hN : N ≤ 6) (hst : ∀ W, Calls Try.prog 85 #[.agg (mbv m), .int .u8 kd] W (StIs W m o N)) (hf : ∀ i, i < N → (mbv m)[o + i]? = some (.int .u8 (f i)))
    (g : Nat) (lb : Array Value) (pr : Int → Bool) (hg : ∀ s W, Calls Try.prog g (#[.int .u8 s] ++ lb) W fun e w' => e = .returned (.bool (pr s)) ∧ W = w') (eg : ∀ args w, (callFunc g args).run Try.prog w = .ok (.enter g args) w) (w : World) :
    Calls Try.prog 67 #[.agg (mbv m), .int .u8 kd, .func (.func g) #[] lb] w fun e w' => e = .returned (.int .u8 (setN (fun i => pr (f i)) N)) ∧ Ext w w' := by
  have HST := Lib.hid hst
  have HG := Lib.hid hg
  have HF := Lib.hid hf
  have EG := Lib.hid eg
  clear hst hg hf eg
  refine (callsIn_wide (n := 5)).1 ?_
  refine callsIn_of_wp_marks Try.func67 rfl trivial ?_ rfl
  simp only [Try.ntmps67, List.size_toArray, List.length_cons, List.length_nil, Nat.reduceAdd, Nat.reduceSub, Array.replicate_succ, Array.replicate_zero, List.push_toArray, List.append_toArray, List.nil_append, List.cons_append]
  refine wpIn_wide.2 ?_
  go_wp2_with (go_at_call 85; (with_reducible refine (HST.out _).mono ?_); rintro e w1 ⟨rfl, g1, k1, l1, r1, t1⟩)
  have z1 : w.heap.size + 1 + 1 + 1 + 1 < w1.heap.size := by have := l1; unfold Lt at this; simpa using this
  have f1 : w1.cell? ⟨w.heap.size + 1, 0, none⟩ = some (.func (.func g) #[] lb) := (g1.cell (p := ⟨w.heap.size + 1, 0, none⟩) (by simp)).trans (by simp [go_sem])
  have f2 : w1.cell? ⟨w.heap.size + 1 + 1, 0, none⟩ = some (.int .u8 0) := (g1.cell (p := ⟨w.heap.size + 1 + 1, 0, none⟩) (by simp)).trans (by simp [go_sem])
  have f3 : w1.frozen? ⟨w.heap.size + 1 + 1, 0, none⟩ = false := (g1.frozen (p := ⟨w.heap.size + 1 + 1, 0, none⟩) (by simp)).trans (by simp [go_sem])
  have E1 : Ext w w1 := (Ext.al (Ext.al (Ext.al (Ext.rf _) _) _) _).tr g1
  simp only [World.size_alloc] at k1 l1 r1 t1
  have hcs : ∀ i, i < N → w1.cell? ⟨w.heap.size + 1 + 1 + 1, o + i, none⟩ = some (.int .u8 (f i)) := fun i hi => by rw [cell_rowD, r1]; exact HF.out i hi
  clear g1 r1
  refine (wpIn_wide (n := 5)).1 ?_
  refine wpIn_range rfl (by omega) (gf := 94) (lb := #[.pointer (some ⟨w.heap.size + 1 + 1 + 1 + 1, 0, none⟩)]) rfl trivial enters_mstates1
    (mstates_iter _ f N hN w1 (w.heap.size + 1 + 1 + 1 + 1) (w.heap.size + 1 + 1 + 1) o (fun k => k = w.heap.size + 1 + 1) k1 l1 hcs t1 (fun e => by omega))
    (fun k e => e.elim) (fun k e => by omega) (fun _ => rfl)
    (fun i W => W.cell? ⟨w.heap.size + 1 + 1, 0, none⟩ = some (.int .u8 (setN (fun i => pr (f i)) i)) ∧ W.frozen? ⟨w.heap.size + 1 + 1, 0, none⟩ = false ∧ W.cell? ⟨w.heap.size + 1, 0, none⟩ = some (.func (.func g) #[] lb) ∧ w1.heap.size ≤ W.heap.size) (fun _ _ => False)
    ?hI (fun _ _ _ h _ => h) ⟨f2, f3, f1, Nat.le_refl _⟩
    (fun x a' W => a' = { tmps := #[.agg (mbv m), .int .u8 kd, .func (.func g) #[] lb, .pointer (some ⟨w.heap.size, 0, none⟩), undef, .pointer (some ⟨w.heap.size + 1, 0, none⟩), .pointer (some ⟨w.heap.size + 1 + 1, 0, none⟩), .int .i64 x.1, .int .u8 x.2, .agg (mbv m), .int .u8 kd, .func (.func 94) #[] #[.pointer (some ⟨w.heap.size + 1 + 1 + 1 + 1, 0, none⟩)], .int .i64 x.1, .int .u8 x.2, undef, undef, undef, undef, undef, undef, undef, undef], defers := [] })
    (fun x a' A B h hm => h)
    ?assign ?body ?done ?stop
  case hI =>
    rintro i A B ⟨h1, h2, h3, h4⟩ hm
    have s1 := hm.same (w.heap.size + 1 + 1) (by omega) (by rintro (h | h | h) <;> first | exact h.elim | omega)
    have s2 := hm.same (w.heap.size + 1) (by omega) (by rintro (h | h | h) <;> first | exact h.elim | omega)
    exact ⟨by rw [cell_rowD, rowD_same s1, ← cell_rowD]; exact h1, by rw [frozen_frzD] at h2 ⊢; unfold frzD at h2 ⊢; rw [s1]; exact h2, by rw [cell_rowD, rowD_same s2, ← cell_rowD]; exact h3, Nat.le_trans h4 hm.size⟩
  case assign =>
    rintro y i x W K hsz' hv hI hx hK
    gi_wp2
    repeat (rw [Oper.semAt_some _ _ _ (by intro c h; cases h)]; go_simp; gi_wp2)
    exact hK _ _ (Mv.refl _ _) hI rfl
  case body =>
    rintro y i x a' W hyl ⟨rr, hr⟩ hsz' hv ⟨b1, b2, b3, b4⟩ hx rfl
    have hi : i < N := by have := (List.getElem?_eq_some_iff.1 hx).1; rwa [msts_len] at this
    rw [msts_get f N i hi] at hx
    obtain rfl : (i, f i) = x := by simpa using hx
    have hd := setN_bd (fun i => pr (f i)) i
    have lS : Lt (w.heap.size + 1) W := by unfold Lt; omega
    have lR : Lt (w.heap.size + 1 + 1) W := by unfold Lt; omega
    have HV := Lib.hid hv
    clear hx hr hv f1 f2 f3 k1 hcs
    cases hp : pr (f i)
    · have HS := Lib.hid (show setN (fun i => pr (f i)) (i + 1) = setN (fun i => pr (f i)) i by rw [setN]; simp [hp])
      have HC := Lib.hid (fun W => by have := HG.out (f i) W; rwa [hp] at this : ∀ W, Calls Try.prog g (#[.int .u8 (f i)] ++ lb) W fun e w' => e = .returned (.bool false) ∧ W = w')
      clear hp
      gi_wp2
      repeat (rw [Oper.semAt_some _ _ _ (by intro c h; cases h)]; go_simp; gi_wp2)
      refine ⟨trivial, ?_⟩
      rw [EG.out]
      go_simp
      gi_wp2
      refine (callsIn_wide.2 (HC.out _)).mono ?_
      rintro e w6 ⟨rfl, rfl⟩
      gi_wp2
      exact ⟨Mv.refl _ _, by rw [HS.out]; exact b1, b2, b3, b4⟩
    · have HS := Lib.hid (show setN (fun i => pr (f i)) (i + 1) = setN (fun i => pr (f i)) i + 2 ^ i by rw [setN]; simp [hp])
      have HC := Lib.hid (fun W => by have := HG.out (f i) W; rwa [hp] at this : ∀ W, Calls Try.prog g (#[.int .u8 (f i)] ++ lb) W fun e w' => e = .returned (.bool true) ∧ W = w')
      clear hp
      generalize hx : setN (fun i => pr (f i)) i = x at hd HS b1
      clear hx
      gi_wp2
      repeat (rw [Oper.semAt_some _ _ _ (by intro c h; cases h)]; go_simp; gi_wp2)
      refine ⟨trivial, ?_⟩
      rw [EG.out]
      go_simp
      gi_wp2
      refine (callsIn_wide.2 (HC.out _)).mono ?_
      rintro e w6 ⟨rfl, rfl⟩
      gi_wp2
      refine wp_region_W (F := _) 4 (fun _ => False) (fun _ => trivial) (by kernel_rfl) (by kernel_rfl) ?_
      have bd : W.drew.cell? ⟨w.heap.size + 1 + 1, 0, none⟩ = some (.int .u8 x) := b1
      refine withW (N := 5) (R := SchMth) (E := ((Try.f67.body.bind (findR 5)).getD #[])) (by kernel_rfl) schMth (by kernel_rfl) fun hS => ?_
      refine takeW (N := 5) (k := 0) (l := [3, 4]) (v := .int .u8 x) hS.1 (hS.2.1 0 (by decide)) (hS.2.2.1 0 (by decide)) (hS.2.2.2.1 0 [3, 4] (by decide)) rfl (by decide) rfl (by kernel_rfl) (load_u8_W bd lR (fun h => h) _ _ _ _ _ _ _ (by kernel_rfl)) ?_
      refine takeW (N := 5) (k := 1) (l := [2, 3, 4]) (v := .int .i64 (i : Nat)) hS.1 (hS.2.1 1 (by decide)) (hS.2.2.1 1 (by decide)) (hS.2.2.2.1 1 [2, 3, 4] (by decide)) rfl (by decide) rfl (by kernel_rfl) (fun _ _ => by kernel_rfl) ?_
      refine takeW (N := 5) (k := 2) (l := [3, 4]) (v := .int .u8 (2 ^ i)) hS.1 (hS.2.1 2 (by decide)) (hS.2.2.1 2 (by decide)) (hS.2.2.2.1 2 [3, 4] (by decide)) rfl (by decide) rfl (by kernel_rfl) (fun w' _ => shlu8_run (by omega) _ _ _ _ _ _ _ (by kernel_rfl) rfl w') ?_
      refine takeW (N := 5) (k := 3) (l := [4]) (v := .int .u8 (x + 2 ^ i)) hS.1 (hS.2.1 3 (by decide)) (hS.2.2.1 3 (by decide)) (hS.2.2.2.1 3 [4] (by decide)) rfl (by decide) rfl (by kernel_rfl) (fun w' _ => oru8_run (by omega) hd.1 hd.2 _ _ _ _ _ _ _ _ (by kernel_rfl) (by kernel_rfl) w') ?_
      refine skipW (N := 5) (k := 4) hS.2.2.2.2.1 rfl (by kernel_rfl) (storeu8_run (v := x + 2 ^ i) bd b2 _ _ _ _ _ _ _ _ (by kernel_rfl) (by kernel_rfl)) (.inl rfl) ?_
      refine doneW hS.2.2.2.2.2 ?_
      clear hS
      go_simp
      gi_wp2
      refine ⟨Mv.st _ (.inl (.inl rfl)) (Mv.of_ext (Ext.dr (Ext.rf _))), ?_, ?_, ?_, ?_⟩
      · rw [HS.out]; exact World.cell?_setCell_same _ _ _ bd
      · simpa [go_sem] using b2
      · simpa [go_sem] using b3
      · simpa [go_sem] using b4
  case done =>
    rintro W ⟨b1, b2, b3, b4⟩ hv hK
    rw [msts_len] at b1
    have lR : Lt (w.heap.size + 1 + 1) W := by unfold Lt; omega
    have HV := Lib.hid hv
    clear hv
    go_wp2
    refine ⟨by simp, .inl ⟨_, _, rfl, run_takeDeferred ?_, ?_⟩⟩
    · rw [← hK]
      simp only [World.setCell, Array.getElem?_modify]
      rw [if_neg (by omega)]
    · obtain ⟨W2, hW2⟩ : ∃ W2, ((W.setCell ⟨w.heap.size + 1 + 1, 0, none⟩ (.int .u8 (setN (fun i => pr (f i)) N))).putObj w1.heap.size (.deferred none)) = W2 := ⟨_, rfl⟩
      have hc2 : W2.cell? ⟨w.heap.size + 1 + 1, 0, none⟩ = some (.int .u8 (setN (fun i => pr (f i)) N)) := by
        rw [← hW2, cell_rowD, rowD_same (World.putObj_heap_other (by omega)), ← cell_rowD]
        exact World.cell?_setCell_same _ _ _ b1
      have hE2 : Ext w W := Mv.ext_of E1 HV.out (fun k h => by rcases h with h | h; exact h.elim; omega)
      have hE3 : Ext w W2 := by rw [← hW2]; exact Mv.ext_of (Ext.st _ (by simp; omega) hE2) (Mv.put (C := fun k => k = w1.heap.size) _ _ _ rfl) (fun k h => by have := E1.size; omega)
      rw [hW2]
      refine ⟨_, results_of rfl _ _ (w.heap.size + 1 + 1) rfl (loadu8 hc2), rfl, hE3⟩
  case stop => intro _ _ h; exact h.elim

set_option maxHeartbeats 400000 in
theorem mthere_any (s : Int) (w : World) : Calls Try.prog 68 #[.int .u8 s] w fun e w' => e = .returned (.bool (thereB s)) ∧ w = w' := by
  go_enter Try.func68, Try.ntmps68
  go_wp2
  all_goals (go_ret; exact ⟨ret_bool (by simp_all [thereB]), rfl⟩)
theorem enters_there : ∀ args w, (callFunc 68 args).run Try.prog w = .ok (.enter 68 args) w := enters_of Try.func68 (by kernel_rfl) rfl
theorem mthere_cl (s : Int) (w : World) : Calls Try.prog 68 (#[.int .u8 s] ++ #[]) w fun e w' => e = .returned (.bool (thereB s)) ∧ w = w' := by
  rw [show (#[Value.int .u8 s] ++ #[] : Array Value) = #[.int .u8 s] from rfl]; exact mthere_any s w
set_option maxRecDepth 100000 in
set_option maxHeartbeats 1000000 in
theorem backs_any (m : Mb) (w : World) : Calls Try.prog 49 #[.agg (mbv m)] w fun e w' => e = .returned (.int .u8 (backs m)) ∧ Ext w w' := by
  have H := Lib.hid (fun W => those_any m 2 0 6 m.bk (by omega) (mstates_back m) (fun i hi => by rw [Nat.zero_add]; exact get_mb_b m i hi) 68 #[] thereB mthere_cl enters_there W)
  go_enter Try.func49, Try.ntmps49
  go_wp2_with (go_at_call 67; (with_reducible refine (H.out _).mono ?_); rintro e w1 ⟨rfl, g1⟩)
  go_ret
  exact ⟨rfl, by (repeat (first | with_reducible exact Ext.rf _ | with_reducible assumption | with_reducible refine Ext.al ?_ _ | with_reducible refine Ext.dr ?_ | with_reducible refine Ext.dn ?_ _ | ((with_reducible refine Ext.st _ ?_ ?_); focus (first | omega | (simp; omega) | simp)) | with_reducible refine Ext.tr ?_ (by assumption) | with_reducible refine Ext.tr ?_ (up_ext (by assumption)) | with_reducible refine Ext.of (by assumption) ?_))⟩
set_option maxRecDepth 100000 in
set_option maxHeartbeats 1000000 in
theorem muxes_any (m : Mb) (w : World) : Calls Try.prog 56 #[.agg (mbv m)] w fun e w' => e = .returned (.int .u8 (muxes m)) ∧ Ext w w' := by
  have H := Lib.hid (fun W => those_any m 1 6 3 m.mx (by omega) (mstates_mux m) (fun i hi => get_mb_m m i hi) 68 #[] thereB mthere_cl enters_there W)
  go_enter Try.func56, Try.ntmps56
  go_wp2_with (go_at_call 67; (with_reducible refine (H.out _).mono ?_); rintro e w1 ⟨rfl, g1⟩)
  go_ret
  exact ⟨rfl, by (repeat (first | with_reducible exact Ext.rf _ | with_reducible assumption | with_reducible refine Ext.al ?_ _ | with_reducible refine Ext.dr ?_ | with_reducible refine Ext.dn ?_ _ | ((with_reducible refine Ext.st _ ?_ ?_); focus (first | omega | (simp; omega) | simp)) | with_reducible refine Ext.tr ?_ (by assumption) | with_reducible refine Ext.tr ?_ (up_ext (by assumption)) | with_reducible refine Ext.of (by assumption) ?_))⟩

end Go.Proofs.Ytedamnocolfmlaa

/- The agents of the backends that are there: the iterator. -/
namespace Go.Proofs.Ytedamnocolfmlaa
open Go.RowKit

def pathsAgi : List (Nat × List Nat) := [(0, [3, 4, 5, 9]), (1, [2, 3, 4, 5, 9]), (2, [3, 4, 5, 9]), (3, [4, 5, 9]), (4, [5, 9]), (5, [9]), (6, [9]), (7, [9]), (8, [9])]
def SchAgi (ops : Array Oper) : Prop := Region.noSelect ops = true ∧ (∀ k, k < 9 → okX ops 12 k = true) ∧ (∀ k, k < 9 → closedB .any ops (lst 12 k) = true) ∧ (∀ k l, (k, l) ∈ pathsAgi → waitsB .any ops (k :: l) = true) ∧ Region.ready .any ops (lst 12 9) = [9] ∧ Region.ready .any ops (lst 12 10) = [10] ∧ Region.ready .any ops (lst 12 11) = [11] ∧ Region.ready .any ops (lst 12 12) = []
theorem schAgi : SchAgi ((Try.f50.body.bind (findR 3)).getD #[]) := by
  have h1 : ((List.range 9).all fun k => okX ((Try.f50.body.bind (findR 3)).getD #[]) 12 k) = true := by kernel_rfl
  have h2 : ((List.range 9).all fun k => closedB .any ((Try.f50.body.bind (findR 3)).getD #[]) (lst 12 k)) = true := by kernel_rfl
  have h3 : (pathsAgi.all fun kl => waitsB .any ((Try.f50.body.bind (findR 3)).getD #[]) (kl.1 :: kl.2)) = true := by kernel_rfl
  exact ⟨by kernel_rfl, fun k hk => List.all_eq_true.1 h1 k (List.mem_range.2 hk), fun k hk => List.all_eq_true.1 h2 k (List.mem_range.2 hk), fun k l h => List.all_eq_true.1 h3 (k, l) h, by kernel_rfl, by kernel_rfl, by kernel_rfl, by kernel_rfl⟩

def cntN (f : Nat → Bool) : Nat → Nat
  | 0 => 0
  | k + 1 => cntN f k + (if f k then 1 else 0)
/-- Those of the first n that are so, with what stands there. -/
def pickN {α : Type} (f : Nat → Bool) (g : Nat → α) (n : Nat) : List (Nat × α) := ((List.range n).filter f).map fun i => (i, g i)
theorem pickN_len {α : Type} (f : Nat → Bool) (g : Nat → α) : ∀ n, (pickN f g n).length = cntN f n
  | 0 => rfl
  | n + 1 => by
    have := pickN_len f g n
    unfold pickN at this ⊢
    rw [List.range_succ, List.filter_append, List.map_append, List.length_append, this, cntN]
    by_cases h : f n = true
    · simp [h]
    · simp [h]
theorem pickN_succ {α : Type} (f : Nat → Bool) (g : Nat → α) (n : Nat) : pickN f g (n + 1) = pickN f g n ++ (if f n then [(n, g n)] else []) := by
  unfold pickN
  rw [List.range_succ, List.filter_append, List.map_append]
  by_cases h : f n = true <;> simp [h]
theorem pickN_get {α : Type} (f : Nat → Bool) (g : Nat → α) (n i : Nat) (hi : i < n) (hf : f i = true) : (pickN f g n)[cntN f i]? = some (i, g i) := by
  induction n with
  | zero => omega
  | succ n ih =>
    rw [pickN_succ]
    by_cases h : i < n
    · have := ih h
      rw [List.getElem?_append_left (List.getElem?_eq_some_iff.1 this).1]; exact this
    · obtain rfl : i = n := by omega
      rw [List.getElem?_append_right (by rw [pickN_len]; exact Nat.le_refl _), pickN_len, Nat.sub_self, if_pos hf]
      rfl
theorem setN_congr {f g : Nat → Bool} : ∀ k, (∀ i, i < k → f i = g i) → setN f k = setN g k
  | 0, _ => rfl
  | k + 1, h => by rw [setN, setN, setN_congr k (fun i hi => h i (by omega)), h k (by omega)]
theorem and_pow8 : ∀ a b c d e f : Bool, ∀ i, i < 6 → bits .and .u8 (setN (fun j => ([a, b, c, d, e, f].getD j false)) 6) ((2 ^ i : Nat) : Int) = if [a, b, c, d, e, f].getD i false then ((2 ^ i : Nat) : Int) else 0 := by decide +kernel
theorem and_set (f : Nat → Bool) (i : Nat) (hi : i < 6) : bits .and .u8 (setN f 6) (2 ^ i) = if f i then 2 ^ i else 0 := by
  have e : setN f 6 = setN (fun j => ([f 0, f 1, f 2, f 3, f 4, f 5].getD j false)) 6 := setN_congr 6 fun j hj => by
    obtain rfl | rfl | rfl | rfl | rfl | rfl : j = 0 ∨ j = 1 ∨ j = 2 ∨ j = 3 ∨ j = 4 ∨ j = 5 := by omega
    all_goals rfl
  have h := and_pow8 (f 0) (f 1) (f 2) (f 3) (f 4) (f 5) i hi
  rw [← e] at h
  have e2 : (((2 ^ i : Nat) : Nat) : Int) = 2 ^ i := by simp
  rw [e2] at h
  rw [h]
  obtain rfl | rfl | rfl | rfl | rfl | rfl : i = 0 ∨ i = 1 ∨ i = 2 ∨ i = 3 ∨ i = 4 ∨ i = 5 := by omega
  all_goals rfl
/-- The bits of a set as a number: bit i. -/
def thereW (x : Wd) (i : Nat) : Bool := thereB (x.st.mb.bk i)
def agsL (x : Wd) : List (Nat × Ag) := pickN (thereW x) x.ag 6
structure AgIs (w : World) (x : Wd) (e : Ending) (w' : World) : Prop where
  ret : ∃ B, e = .returned (.func (.func 50) #[] #[.pointer (some ⟨w.heap.size, 0, none⟩), .pointer (some ⟨B, 0, none⟩)]) ∧ w.heap.size < B ∧ Lt B w' ∧ w'.cell? ⟨B, 0, none⟩ = some (.int .u8 (setN (thereW x) 6))
  ext : Ext w w'
  row : rowD w' w.heap.size = wdv x
  lt : Lt w.heap.size w'
set_option maxRecDepth 100000 in
set_option maxHeartbeats 1000000 in
theorem agents_any (x : Wd) (w : World) : Calls Try.prog 30 #[.agg (wdv x)] w (AgIs w x) := by
  go_enter Try.func30, Try.ntmps30
  go_wp2_with (go_at_call 49; (with_reducible refine (backs_any _ _).mono ?_); rintro e w1 ⟨rfl, g1⟩)
  have E1 : Ext w w1 := (Ext.al (Ext.rf _) _).tr g1
  have r1 : rowD w1 w.heap.size = wdv x := by rw [rowD_same (g1.block _ (by simp))]; simp [go_sem]
  have l1 : Lt w.heap.size w1 := Nat.lt_of_lt_of_le (by simp) g1.size
  go_ret
  refine ⟨⟨w1.heap.size, rfl, by have := l1; unfold Lt at this; exact this, by simp [go_sem], by simp [go_sem]; rfl⟩, by simpa [go_sem] using Ext.al E1 _, ?_, ?_⟩
  · simp only [rowD_setCell, rowD_alloc]
    have hlt := l1
    unfold Lt at hlt
    first | exact r1 | (rw [if_neg (by omega)]; first | exact r1 | (rw [if_neg (by omega)]; exact r1))
  · simp [go_sem, l1]
theorem enters_agents1 : ∀ args w, (callFunc 50 args).run Try.prog w = .ok (.enter 50 args) w := enters_of Try.func50 (by kernel_rfl) rfl
theorem isAgg_ag (w : World) : (isAgg 47).run Try.prog w = .ok true w := by kernel_rfl
theorem size_ag (w : World) : (sizeOf 47).run Try.prog w = .ok 67 w := by kernel_rfl
@[go_sem ↓ high] theorem index_ags (l : Nat → Ag) (k : Nat) (w : World) (h1 : (k : Int) < 6) : (Instr.index 48 (.agg (agL l)) (.int .i64 k)).run Try.prog w = .ok (.agg (agv (l k))) w := by
  have hu : (underlying 48).run Try.prog w = .ok (.array 6 47) w := run_underlying Try.underlying48 w
  have h2 : ¬ (6 : Int) ≤ (k : Int) := by omega
  have h3 : k < 6 := by omega
  have hx : (agL l).extract (k * 67) (k * 67 + 67) = agv (l k) := cut_ags_ag l k h3
  simp [Instr.index, asIntOf, Sem.run_bind, hu, h2, h3, part, isAgg_ag, size_ag, hx]
theorem load_u8_X {w : World} {B O : Nat} {x : Int} (h0 : w.cell? ⟨B, O, none⟩ = some (.int .u8 x)) (hl : Lt B w) (ρ : Operand → Value) (dst : Option Tmp) (y : Operand) (ty : TypeId) (pos : String) (after : Array Edge) (g : Option (Nat × Bool))
    (hx : ρ y = .pointer (some ⟨B, O, none⟩)) : ∀ w', Ext w w' → (execOp ρ ⟨dst, .load 5 y, ty, pos, after, g⟩).run Try.prog w' = .ok (.value (.int .u8 x)) w' := by
  intro w' hE
  have h0 := (hE.cell (p := ⟨B, _, none⟩) hl).trans h0
  simp only [execOp, hx]
  go_simp
theorem andset_run {f : Nat → Bool} {i : Nat} (hi : i < 6) (ρ : Operand → Value) (dst : Option Tmp) (y z : Operand) (ty : TypeId) (pos : String) (after : Array Edge) (g : Option (Nat × Bool)) (hy : ρ y = .int .u8 (setN f 6)) (hz : ρ z = .int .u8 (2 ^ i)) (w : World) :
    (execOp ρ ⟨dst, .binOp .and 5 y z 5, ty, pos, after, g⟩).run Try.prog w = .ok (.value (.int .u8 (if f i then 2 ^ i else 0))) w := by
  simp only [execOp, hy, hz]
  go_simp
  exact and_set f i hi
theorem nepow_run {i : Nat} (hi : i < 6) (ρ : Operand → Value) (dst : Option Tmp) (y : Operand) (ty : TypeId) (pos : String) (after : Array Edge) (g : Option (Nat × Bool)) (hy : ρ y = .int .u8 (2 ^ i)) (hz : ρ (.const (.int .u8 0)) = .int .u8 0) (w : World) :
    (execOp ρ ⟨dst, .binOp .neq 5 y (.const (.int .u8 0)) 5, ty, pos, after, g⟩).run Try.prog w = .ok (.value (.bool true)) w := by
  obtain rfl | rfl | rfl | rfl | rfl | rfl : i = 0 ∨ i = 1 ∨ i = 2 ∨ i = 3 ∨ i = 4 ∨ i = 5 := by omega
  all_goals (simp only [execOp, hy, hz]; go_simp)
theorem load_ag_X {w : World} {B : Nat} {x : Ag} (h0 : rowD w B = agv x) (hl : Lt B w) (ρ : Operand → Value) (dst : Option Tmp) (y : Operand) (ty : TypeId) (pos : String) (after : Array Edge) (g : Option (Nat × Bool))
    (hx : ρ y = .pointer (some ⟨B, 0, none⟩)) : ∀ w', Ext w w' → (execOp ρ ⟨dst, .load 47 y, ty, pos, after, g⟩).run Try.prog w' = .ok (.value (.agg (agv x))) w' := by
  intro w' hE
  have h0 : rowD w' B = agv x := row_ext' hE hl h0
  have e := exec_load_ag ρ dst y ty pos after g w' (by rw [hx]; rfl) (by rw [hx]; show Fits 0 67 (rowD w' B); rw [h0, fits_agv]; omega)
  rw [e, hx]
  show Result.ok (Next.value (Value.agg (cutD (rowD w' B) 0 67))) w' = _
  rw [h0, cut_all_agv]
theorem yield2_X {w : World} {y : Nat} {v1 v2 : Value} {R : Result Next} (h : (Instr.yield y #[v1, v2]).run Try.prog w = R) (ρ : Operand → Value) (dst : Option Tmp) (x q1 q2 : Operand) (tys : Array TypeId) (ty : TypeId) (pos : String) (after : Array Edge) (g : Option (Nat × Bool))
    (hx : ρ x = .func (.yield y) #[] #[]) (h1 : ρ q1 = v1) (h2 : ρ q2 = v2) : (execOp ρ ⟨dst, .call { callee := .value x, args := #[q1, q2], argTypes := tys }, ty, pos, after, g⟩).run Try.prog w = R := by
  rw [← h]
  subst h1 h2
  simp only [execOp, hx]
  go_simp
set_option maxRecDepth 100000 in
set_option maxHeartbeats 4000000 in
theorem agents_iter (n : Nat) (x : Wd) (w : World) (A B : Nat) (U : Nat → Prop) (hA : rowD w A = wdv x) (lA : Lt A w) (hB : w.cell? ⟨B, 0, none⟩ = some (.int .u8 (setN (thereW x) 6))) (lB : Lt B w) (hU : ¬ U B) :
    Iter Fence.wide n Try.prog 50 #[.pointer (some ⟨A, 0, none⟩), .pointer (some ⟨B, 0, none⟩)] (fun x : Nat × Ag => #[.int .i64 x.1, .agg (agv x.2)]) (fun _ => False) U (agsL x) w := by
  intro y J Jx W hW hJ hJx hY hJ0
  have HJ := Lib.hid hJ
  have HJx := Lib.hid hJx
  have HU := Lib.hid hU
  clear hJ hJx hU
  obtain ⟨yfn, ytm, yas, ybo, hY⟩ := hY
  have HY := Lib.hid hY
  clear hY
  have hAW : rowD W A = wdv x := row_ext' hW lA hA
  have lAW : Lt A W := Nat.lt_of_lt_of_le lA hW.size
  have hbW : W.heap[B]? = w.heap[B]? := hW.block B lB
  have hszW : w.heap.size ≤ W.heap.size := hW.size
  clear hA
  refine callsIn_of_wp Try.func50 rfl trivial ?_ rfl
  simp only [Try.ntmps50, List.size_toArray, List.length_cons, List.length_nil, Nat.reduceAdd, Nat.reduceSub, Array.replicate_succ, Array.replicate_zero, List.push_toArray, List.append_toArray, List.nil_append, List.cons_append]
  refine wpIn_wide.2 ?_
  go_wp2
  go_loopw [4, 5, 8] (fun _ _ a wr => ∃ i : Nat, i ≤ 6 ∧ a = .int .i64 i ∧ J (cntN (thereW x) i) wr ∧ wr.heap[B]? = w.heap[B]? ∧ w.heap.size ≤ wr.heap.size) (fun _ _ a _ => 6 - (intOf a).toNat)
  case atStart => exact ⟨0, Nat.zero_le _, rfl, hJ0, hbW, hszW⟩
  case round =>
    clear hAW lAW hbW hJ0
    obtain ⟨i, hi, rfl, hJi, hri, hsi⟩ := hrel
    by_cases hlt : i < 6
    · have hlt' : (i : Int) < 6 := by omega
      have hBr : wr.cell? ⟨B, 0, none⟩ = some (.int .u8 (setN (thereW x) 6)) := by
        rw [cell_rowD, rowD_same hri, ← cell_rowD]; exact hB
      have lBr : Lt B wr := Nat.lt_of_lt_of_le lB hsi
      have HJI := Lib.hid hJi
      have HRI := Lib.hid hri
      clear hJi hri
      go_upto_region 3 with (fail)
      obtain ⟨W1, hW1⟩ : ∃ W1, setAt (wr.alloc (.cells Try.zeroCells47 47)) wr.heap.size 0 (agv (x.ag i)) = W1 := ⟨_, rfl⟩
      have g1 : Ext wr W1 := by rw [← hW1]; exact Ext.sa _ (Nat.le_refl _) (Ext.al (Ext.rf _) _)
      have hR1 : rowD W1 wr.heap.size = agv (x.ag i) := by
        rw [← hW1]
        exact setAt_all _ _ _ (by rw [rowD_new, size_agv]; kernel_rfl)
      have lR1 : Lt wr.heap.size W1 := by rw [← hW1]; simp [go_sem]
      have hB1 : W1.cell? ⟨B, 0, none⟩ = some (.int .u8 (setN (thereW x) 6)) := (g1.cell (p := ⟨B, 0, none⟩) lBr).trans hBr
      have lB1 : Lt B W1 := Nat.lt_of_lt_of_le lBr g1.size
      rw [hW1]
      clear hW1
      cases hin : thereW x i
      · have HC := Lib.hid (show cntN (thereW x) (i + 1) = cntN (thereW x) i by rw [cntN, hin]; simp)
        have hands : bits .and .u8 (setN (thereW x) 6) (2 ^ i) = 0 := by rw [and_set _ i hlt, hin]; simp
        have hw8 : IntKind.u8.wrap (2 ^ i) = 2 ^ i := by
          obtain rfl | rfl | rfl | rfl | rfl | rfl : i = 0 ∨ i = 1 ∨ i = 2 ∨ i = 3 ∨ i = 4 ∨ i = 5 := by omega
          all_goals decide
        refine wp_region_later (by kernel_rfl) (by kernel_rfl) ?_; (repeat (go_big_quiet_step (fail))); refine wpQuiet_nil ?_; intro d
        have hd := later_ext d
        have gd := g1.tr hd
        have hJ2 : J (cntN (thereW x) i) (later d) := HJ.out _ _ _ HJI.out (Mv.of_ext gd)
        have HR2 := Lib.hid (show (later d).heap[B]? = w.heap[B]? from (gd.block B lBr).trans HRI.out)
        have hsi2 : w.heap.size ≤ (later d).heap.size := Nat.le_trans hsi gd.size
        generalize later d = w6 at *
        go_wp2
        go_roundw
        case rel => exact ⟨i + 1, by omega, by go_num, by rw [HC.out]; exact hJ2, HR2.out, hsi2⟩
        case measure => simp [intOf]; omega
      · have HC := Lib.hid (show cntN (thereW x) (i + 1) = cntN (thereW x) i + 1 by rw [cntN, hin]; simp)
        have HXS := Lib.hid (pickN_get (thereW x) x.ag 6 i hlt hin)
        refine (wpIn_wide (n := n)).1 ?_
        refine wp_region_R 9 (by kernel_rfl) ?_
        obtain ⟨W2, hW2⟩ : ∃ W2, W1.drew = W2 := ⟨_, rfl⟩
        have g2 : Ext W1 W2 := by rw [← hW2]; exact Ext.dr (Ext.rf _)
        rw [hW2]
        clear hW2
        have hB2 : W2.cell? ⟨B, 0, none⟩ = some (.int .u8 (setN (thereW x) 6)) := (g2.cell (p := ⟨B, 0, none⟩) lB1).trans hB1
        have lB2 : Lt B W2 := Nat.lt_of_lt_of_le lB1 g2.size
        have hR2 : rowD W2 wr.heap.size = agv (x.ag i) := row_ext' g2 lR1 hR1
        have lR2 : Lt wr.heap.size W2 := Nat.lt_of_lt_of_le lR1 g2.size
        have g12 := g1.tr g2
        have hJ2 : J (cntN (thereW x) i) W2 := HJ.out _ _ _ HJI.out (Mv.of_ext g12)
        have hri2 : W2.heap[B]? = w.heap[B]? := (g12.block B lBr).trans HRI.out
        have hsi2 : w.heap.size ≤ W2.heap.size := Nat.le_trans hsi g12.size
        have hrun : (Instr.yield y #[.int .i64 i, .agg (agv (x.ag i))]).run Try.prog W2 = .ok (.round y yfn (ytm #[.int .i64 i, .agg (agv (x.ag i))]) yas ybo) W2 := (HY.out _ (i, x.ag i) W2 hJ2 HXS.out).1
        have HRD := Lib.hid (HY.out _ (i, x.ag i) W2 hJ2 HXS.out).2
        refine withR (N := 12) (R := SchAgi) (E := ((Try.f50.body.bind (findR 3)).getD #[])) (by kernel_rfl) schAgi (by kernel_rfl) fun hS => ?_
        refine takeR (N := 12) (k := 0) (l := [3, 4, 5, 9]) (v := .int .u8 (setN (thereW x) 6)) hS.1 (hS.2.1 0 (by decide)) (hS.2.2.1 0 (by decide)) (hS.2.2.2.1 0 [3, 4, 5, 9] (by decide)) rfl (by decide) rfl (by kernel_rfl) (load_u8_X hB2 lB2 _ _ _ _ _ _ _ (by kernel_rfl)) ?_
        refine takeR (N := 12) (k := 1) (l := [2, 3, 4, 5, 9]) (v := .int .i64 (i : Nat)) hS.1 (hS.2.1 1 (by decide)) (hS.2.2.1 1 (by decide)) (hS.2.2.2.1 1 [2, 3, 4, 5, 9] (by decide)) rfl (by decide) rfl (by kernel_rfl) (fun _ _ => by kernel_rfl) ?_
        refine takeR (N := 12) (k := 2) (l := [3, 4, 5, 9]) (v := .int .u8 (2 ^ i)) hS.1 (hS.2.1 2 (by decide)) (hS.2.2.1 2 (by decide)) (hS.2.2.2.1 2 [3, 4, 5, 9] (by decide)) rfl (by decide) rfl (by kernel_rfl) (fun w' _ => shlu8_run (by omega) _ _ _ _ _ _ _ (by kernel_rfl) rfl w') ?_
        refine takeR (N := 12) (k := 3) (l := [4, 5, 9]) (v := .int .u8 (if thereW x i then 2 ^ i else 0)) hS.1 (hS.2.1 3 (by decide)) (hS.2.2.1 3 (by decide)) (hS.2.2.2.1 3 [4, 5, 9] (by decide)) rfl (by decide) rfl (by kernel_rfl) (fun w' _ => andset_run (by omega) _ _ _ _ _ _ _ _ (by kernel_rfl) (by kernel_rfl) w') ?_
        rw [hin, if_pos rfl]
        refine takeR (N := 12) (k := 4) (l := [5, 9]) (v := .bool true) hS.1 (hS.2.1 4 (by decide)) (hS.2.2.1 4 (by decide)) (hS.2.2.2.1 4 [5, 9] (by decide)) rfl (by decide) rfl (by kernel_rfl) (fun w' _ => nepow_run (by omega) _ _ _ _ _ _ _ (by kernel_rfl) rfl w') ?_
        refine takeR (N := 12) (k := 5) (l := [9]) (v := .bool true) hS.1 (hS.2.1 5 (by decide)) (hS.2.2.1 5 (by decide)) (hS.2.2.2.1 5 [9] (by decide)) rfl (by decide) rfl (by kernel_rfl) (fun _ _ => by kernel_rfl) ?_
        refine takeR (N := 12) (k := 6) (l := [9]) (v := .func (.yield y) #[] #[]) hS.1 (hS.2.1 6 (by decide)) (hS.2.2.1 6 (by decide)) (hS.2.2.2.1 6 [9] (by decide)) rfl (by decide) rfl (by kernel_rfl) (fun _ _ => by kernel_rfl) ?_
        refine takeR (N := 12) (k := 7) (l := [9]) (v := .int .i64 (i : Nat)) hS.1 (hS.2.1 7 (by decide)) (hS.2.2.1 7 (by decide)) (hS.2.2.2.1 7 [9] (by decide)) rfl (by decide) rfl (by kernel_rfl) (fun _ _ => by kernel_rfl) ?_
        refine takeR (N := 12) (k := 8) (l := [9]) (v := .agg (agv (x.ag i))) hS.1 (hS.2.1 8 (by decide)) (hS.2.2.1 8 (by decide)) (hS.2.2.2.1 8 [9] (by decide)) rfl (by decide) rfl (by kernel_rfl) (load_ag_X hR2 lR2 _ _ _ _ _ _ _ (by kernel_rfl)) ?_
        refine roundR (N := 12) hS.2.2.2.2.1 rfl (by kernel_rfl) (yield2_X hrun _ _ _ _ _ _ _ _ _ _ (by kernel_rfl) (by kernel_rfl) (by kernel_rfl)) HRD.out ?_
        rintro e w6 ⟨bb, rfl, hP⟩
        refine ⟨_, rfl, ?_⟩
        refine valueR (N := 12) (k := 10) (v := .bool (!bb)) hS.2.2.2.2.2.1 rfl (by kernel_rfl) (by kernel_rfl) ?_
        refine valueR (N := 12) (k := 11) (v := .bool (!bb)) hS.2.2.2.2.2.2.1 rfl (by kernel_rfl) (by kernel_rfl) ?_
        refine doneR hS.2.2.2.2.2.2.2 ?_
        clear hS
        clear HRD hrun
        go_simp
        obtain ⟨rfl, hJ6, hm6⟩ | ⟨rfl, hx6⟩ := hP
        · have hri6 : w6.heap[B]? = w.heap[B]? := (hm6.same B lB2 (fun h => by rcases h with h | h; exact HU.out h; unfold Lt at lB; omega)).trans hri2
          have hsi6 : w.heap.size ≤ w6.heap.size := Nat.le_trans hsi2 hm6.size
          have HR6 := Lib.hid hri6
          clear hm6 hri2 hri6
          go_wp2
          go_roundw
          case rel => exact ⟨i + 1, by omega, by go_num, by rw [HC.out]; exact hJ6, HR6.out, hsi6⟩
          case measure => simp [intOf]; omega
        · go_wp2
          refine bodyPost_ret (results_none rfl _ _ _) rfl ⟨⟨_, rfl⟩, .inr hx6⟩
    · obtain rfl : i = 6 := by omega
      have HL := Lib.hid (pickN_len (thereW x) x.ag 6)
      go_wp2
      go_end0
      exact ⟨⟨_, rfl⟩, .inl (by unfold agsL; rw [HL.out]; exact hJi)⟩

end Go.Proofs.Ytedamnocolfmlaa

/- Watch: those backends that are there whose agents are so. -/
namespace Go.Proofs.Ytedamnocolfmlaa
open Go.RowKit

/-- A slice of ints reads as a list. -/
def SlI (w : World) (p : Option Addr) (xs : List Int) : Prop := ∀ k, (h : k < xs.length) → ∃ b off, p = some ⟨b, off, none⟩ ∧ b < w.heap.size ∧ w.cell? ⟨b, off + k, none⟩ = some (.int .i64 xs[k])
theorem SlI.ext {w w' : World} {p : Option Addr} {xs : List Int} (h : SlI w p xs) (e : Ext w w') : SlI w' p xs := fun k hk => by
  obtain ⟨b, off, hp, hb, c0⟩ := h k hk
  exact ⟨b, off, hp, Nat.lt_of_lt_of_le hb e.size, (e.cell (p := ⟨b, off + k, none⟩) hb).trans c0⟩
theorem SlI.nil (w : World) (p : Option Addr) : SlI w p [] := fun k hk => by simp at hk
def inC (xs : List Int) : List Value := xs.map fun n => .int .i64 n
theorem inC_snoc (xs : List Int) (n : Int) : inC (xs ++ [n]) = inC xs ++ [.int .i64 n] := by simp [inC]
theorem info_int : (Try.prog.info? 3).map (fun i => (i.zero, i.size, i.bytes)) = some (some (.int .i64 0), 1, 8) := by kernel_rfl
theorem slI_own {w : World} {base : Nat} {v : Value} {xs : List Int} (h : w.ownsRow base 3 1 v xs.length (inC xs)) : ∃ p c, v = .slice p xs.length c ∧ xs.length ≤ c ∧ SlI w p xs := by
  rcases Nat.eq_zero_or_pos xs.length with h0 | h0
  · rcases h.2 with ⟨rfl, _⟩ | ⟨g, cap, cur, rfl, _, _, h1, _⟩
    · exact ⟨none, 0, by rw [h0], by omega, fun k hk => by omega⟩
    · exact ⟨_, cap, rfl, h1, fun k hk => by omega⟩
  · obtain ⟨g, cap, rfl, hg, h1, _, hc⟩ := ownsRow_cell h h0
    refine ⟨_, cap, rfl, h1, fun k hk => ⟨g, 0, rfl, hg, ?_⟩⟩
    rw [Nat.zero_add]; exact hc _ _ (by simp [inC, hk])
/-- A variable holds a slice of ints of its own. -/
def HoldN (B base : Nat) (xs : List Int) (W : World) : Prop := ∃ v, Boxed W B 58 v ∧ W.ownsRow base 3 1 v xs.length (inC xs)
theorem HoldN.mv {B base : Nat} {xs : List Int} {A A' : World} {C : Nat → Prop} (h : HoldN B base xs A) (hm : Mv C A A') (hb : ¬ C B) (hc : ∀ k, base ≤ k → ¬ C k) : HoldN B base xs A' := by
  obtain ⟨v, h1, h2⟩ := h
  exact ⟨v, boxed_mv h1 hm hb, ownsRow_mv h2 hm hc⟩
theorem cell_one_newB (w : World) (a : Value) (t : TypeId) : ∀ j u, [a][j]? = some u → (w.alloc (.cells #[a] t)).cell? ((⟨w.heap.size, 0, none⟩ : Addr).add j) = some u := by
  intro j u hu
  have e : (⟨w.heap.size, 0, none⟩ : Addr).add j = ⟨w.heap.size, j, none⟩ := by unfold Addr.add; split <;> simp_all
  rw [e, cell_rowD, rowD_new]
  simpa using hu

@[go_sem ↓ high] theorem exec_alloc_ag (ρ : Operand → Value) (dst : Option Tmp) (ty : TypeId) (pos : String) (after : Array Edge) (g : Option (Nat × Bool)) (w : World) :
    (execOp ρ ⟨dst, .alloc 47, ty, pos, after, g⟩).run Try.prog w = .ok (.value (.pointer (some ⟨w.heap.size, 0, none⟩))) (w.alloc (.cells Try.zeroCells47 47)) := by kernel_rfl
theorem loadsi {w : World} {b o : Nat} {p : Option Addr} {m c : Nat} (h : w.cell? ⟨b, o, none⟩ = some (.slice p m c)) : (loadVar 58 ⟨b, o, none⟩).run Try.prog w = .ok (.slice p m c) w := by go_simp
@[go_sem ↓ high] theorem size_z47 : (Try.zeroCells47).size = 67 := by kernel_rfl
theorem store_new_ag {a : Ag} (ρ : Operand → Value) (dst : Option Tmp) (x y : Operand) (ty : TypeId) (pos : String) (after : Array Edge) (g : Option (Nat × Bool)) (w : World)
    (hx : ρ x = .pointer (some ⟨w.heap.size, 0, none⟩)) (hy : ρ y = .agg (agv a)) :
    (execOp ρ ⟨dst, .store 47 x y, ty, pos, after, g⟩).run Try.prog (w.alloc (.cells Try.zeroCells47 47)) = .ok .skip (setAt (w.alloc (.cells Try.zeroCells47 47)) w.heap.size 0 (agv a)) := by
  have e := exec_store_ag ρ dst x y ty pos after g (w.alloc (.cells Try.zeroCells47 47)) (by rw [hx]; rfl) (by rw [hy]; rfl) (by rw [hy, cells_agv]; exact sizeIs_agv) (by rw [hx]; show Fits 0 67 (rowD _ w.heap.size); rw [rowD_new]; unfold Fits; rw [size_z47]; exact Nat.le_refl _) (by rw [hx, blkOf_ptr, frzD_alloc, if_pos rfl]) (by rw [hy, cells_agv]; exact all_agv)
  rw [e, hx, hy]
  rfl
def thoseL (x : Wd) (k : Int) (pr : Ag → Bool) : List Int := if 0 ≤ k ∧ k < 16 then ((agsL x).filter fun s => pr s.2).map fun s => (s.1 : Int) else []
/-- .. of the first n of them. -/
def thoseN (x : Wd) (k : Int) (pr : Ag → Bool) (n : Nat) : List Int := if 0 ≤ k ∧ k < 16 then (((agsL x).take n).filter fun s => pr s.2).map fun s => (s.1 : Int) else []
theorem thoseN_yes {x : Wd} {k : Int} {pr : Ag → Bool} {n : Nat} {s : Nat × Ag} (hk : 0 ≤ k ∧ k < 16) (h : (agsL x)[n]? = some s) (hp : pr s.2 = true) : thoseN x k pr (n + 1) = thoseN x k pr n ++ [(s.1 : Int)] := by
  unfold thoseN
  rw [if_pos hk, if_pos hk, List.take_add_one, h]
  simp [hp]
theorem thoseN_no {x : Wd} {k : Int} {pr : Ag → Bool} {n : Nat} {s : Nat × Ag} (h : (agsL x)[n]? = some s) (hp : ¬ (0 ≤ k ∧ k < 16) ∨ pr s.2 = false) : thoseN x k pr (n + 1) = thoseN x k pr n := by
  unfold thoseN
  by_cases hk : 0 ≤ k ∧ k < 16
  · rw [if_pos hk, if_pos hk, List.take_add_one, h]
    have hp := hp.resolve_left (fun e => e hk)
    simp [hp]
  · rw [if_neg hk, if_neg hk]
theorem agsL_len (x : Wd) : (agsL x).length ≤ 6 := by
  unfold agsL pickN
  rw [List.length_map]
  exact Nat.le_trans (List.length_filter_le _ _) (by simp)
theorem thoseN_len (x : Wd) (k : Int) (pr : Ag → Bool) (n : Nat) : (thoseN x k pr n).length ≤ 6 := by
  unfold thoseN
  split
  · rw [List.length_map]
    refine Nat.le_trans (List.length_filter_le _ _) ?_
    rw [List.length_take]
    have := agsL_len x
    omega
  · simp
set_option maxRecDepth 100000 in
set_option maxHeartbeats 400000 in
theorem wthose_any (x : Wd) (k : Int) (g : Nat) (lb : Array Value) (pr : Ag → Bool) (w : World) (hg : 0 ≤ k ∧ k < 16 → ∀ i W, i < 6 → Ext w W → Calls Try.prog g (#[.agg (agv (x.ag i))] ++ lb) W fun e w' => e = .returned (.bool (pr (x.ag i))) ∧ Ext W w') (eg : ∀ args w, (callFunc g args).run Try.prog w = .ok (.enter g args) w) :
    Calls Try.prog 19 #[.agg (wdv x), .int .i64 k, .func (.func g) #[] lb] w fun e w' => ∃ v, e = .returned v ∧ w'.ownsRow w.heap.size 3 1 v (thoseL x k pr).length (inC (thoseL x k pr)) ∧ Ext w w' := by
  obtain ⟨i0, hi, hz0, hz1, hz2⟩ := info_parts info_int
  have HG := Lib.hid hg
  have EG := Lib.hid eg
  clear hg eg
  refine (callsIn_wide (n := 5)).1 ?_
  refine callsIn_of_wp_marks Try.func19 rfl trivial ?_ rfl
  simp only [Try.ntmps19, List.size_toArray, List.length_cons, List.length_nil, Nat.reduceAdd, Nat.reduceSub, Array.replicate_succ, Array.replicate_zero, List.push_toArray, List.append_toArray, List.nil_append, List.cons_append]
  refine wpIn_wide.2 ?_
  go_wp2_with (go_at_call 30; (with_reducible refine (agents_any x _).mono ?_); rintro e w1 ⟨⟨B, rfl, hAB, lB, cB⟩, g1, rA, lA⟩)
  have E1 : Ext w w1 := (Ext.al (Ext.al (Ext.al (Ext.al (Ext.rf _) _) _) _) _).tr g1
  simp only [World.size_alloc] at hAB rA lA
  have z1 : w.heap.size + 1 + 1 + 1 + 1 < w1.heap.size := by have := lA; unfold Lt at this; exact this
  have f1 : w1.cell? ⟨w.heap.size + 1, 0, none⟩ = some (.int .i64 k) := (g1.cell (p := ⟨w.heap.size + 1, 0, none⟩) (by simp)).trans (by simp [go_sem])
  have f2 : w1.cell? ⟨w.heap.size + 1 + 1, 0, none⟩ = some (.func (.func g) #[] lb) := (g1.cell (p := ⟨w.heap.size + 1 + 1, 0, none⟩) (by simp)).trans (by simp [go_sem])
  have f3 : Boxed w1 (w.heap.size + 1 + 1 + 1) 58 (.slice none 0 0) := by
    have h := Boxed.new (((w.alloc (.cells (wdv x) 53)).alloc (.cells #[.int .i64 k] 3)).alloc (.cells #[.func (.func g) #[] lb] 82)) 58 (.slice none 0 0)
    simp only [World.size_alloc] at h
    exact (g1.block _ (by simp)).trans h
  clear g1
  refine (wpIn_wide (n := 5)).1 ?_
  refine wpIn_range rfl (by omega) (gf := 50) (lb := #[.pointer (some ⟨w.heap.size + 1 + 1 + 1 + 1, 0, none⟩), .pointer (some ⟨B, 0, none⟩)]) rfl trivial enters_agents1
    (agents_iter _ x w1 (w.heap.size + 1 + 1 + 1 + 1) B (fun k => k = w.heap.size + 1 + 1 + 1) rA lA cB lB (fun e => by omega))
    (fun k e => e.elim) (fun k e => by omega) (fun _ => rfl)
    (fun i W => HoldN (w.heap.size + 1 + 1 + 1) (w1.heap.size + 2) (thoseN x k pr i) W ∧ W.cell? ⟨w.heap.size + 1, 0, none⟩ = some (.int .i64 k) ∧ W.cell? ⟨w.heap.size + 1 + 1, 0, none⟩ = some (.func (.func g) #[] lb) ∧ w1.heap.size ≤ W.heap.size) (fun _ _ => False)
    ?hI (fun _ _ _ h _ => h) ⟨⟨_, f3, by unfold thoseN; simpa [inC] using World.ownsRow_nil _ _ _ _⟩, f1, f2, Nat.le_refl _⟩
    (fun s a' W => ∃ Bx, w1.heap.size + 2 ≤ Bx ∧ Bx < W.heap.size ∧ rowD W Bx = agv s.2 ∧ a' = { tmps := #[.agg (wdv x), .int .i64 k, .func (.func g) #[] lb, .pointer (some ⟨w.heap.size, 0, none⟩), .pointer (some ⟨w.heap.size + 1, 0, none⟩), .pointer (some ⟨w.heap.size + 1 + 1, 0, none⟩), .pointer (some ⟨w.heap.size + 1 + 1 + 1, 0, none⟩), .int .i64 s.1, .pointer (some ⟨Bx, 0, none⟩), .agg (wdv x), .func (.func 50) #[] #[.pointer (some ⟨w.heap.size + 1 + 1 + 1 + 1, 0, none⟩), .pointer (some ⟨B, 0, none⟩)], .int .i64 s.1, .agg (agv s.2), undef, undef, undef, undef, undef, undef, undef, undef, undef, undef, undef, undef, undef, undef, undef, undef], defers := [] })
    ?hAx ?assign ?body ?done ?stop
  case hI =>
    rintro i A B' ⟨h1, h2, h3, h4⟩ hm
    have s1 := hm.same (w.heap.size + 1) (by omega) (by rintro (h | h | h) <;> first | exact h.elim | omega)
    have s2 := hm.same (w.heap.size + 1 + 1) (by omega) (by rintro (h | h | h) <;> first | exact h.elim | omega)
    exact ⟨h1.mv hm (by rintro (h | h | h) <;> first | exact h.elim | omega) (fun k hk => by rintro (h | h | h) <;> first | exact h.elim | omega), by rw [cell_rowD, rowD_same s1, ← cell_rowD]; exact h2, by rw [cell_rowD, rowD_same s2, ← cell_rowD]; exact h3, Nat.le_trans h4 hm.size⟩
  case hAx =>
    rintro s a' A B' ⟨Bx, h1, h2, h3, h4⟩ hm
    exact ⟨Bx, h1, Nat.lt_of_lt_of_le h2 hm.size, by rw [rowD_same (hm.same Bx h2 (by omega))]; exact h3, h4⟩
  case assign =>
    rintro y i s W K hsz' hv hI hx hK
    gi_upto_region 3 with (fail)
    refine wpIn_region_lit ?_
    refine wpListIn_val rfl (by intro c h; cases h) rfl (exec_alloc_ag _ _ _ _ _ _ _) ?_
    refine wpListIn_skp rfl (by intro c h; cases h) rfl (store_new_ag (a := s.2) _ _ _ _ _ _ _ _ _ (by kernel_rfl) (by kernel_rfl)) ?_
    refine wpListIn_end ?_
    obtain ⟨W2, hW2⟩ : ∃ W2, setAt (W.alloc (.cells Try.zeroCells47 47)) W.heap.size 0 (agv s.2) = W2 := ⟨_, rfl⟩
    have g2 : Ext W W2 := by rw [← hW2]; exact Ext.sa _ (Nat.le_refl _) (Ext.al (Ext.rf _) _)
    have hR2 : rowD W2 W.heap.size = agv s.2 := by
      rw [← hW2]
      exact setAt_all _ _ _ (by rw [rowD_new, size_z47, size_agv])
    have lR2 : W.heap.size < W2.heap.size := by rw [← hW2]; simp [go_sem]
    rw [hW2]
    clear hW2
    obtain ⟨h1, h2, h3, h4⟩ := hI
    have m2 : Mv (fun _ => False) W W2 := Mv.of_ext g2
    refine hK _ _ (Mv.of_ext g2) ⟨h1.mv m2 (fun h => h) (fun _ _ h => h), (g2.cell (p := ⟨w.heap.size + 1, 0, none⟩) (by simp; omega)).trans h2, (g2.cell (p := ⟨w.heap.size + 1 + 1, 0, none⟩) (by simp; omega)).trans h3, Nat.le_trans h4 g2.size⟩ ⟨W.heap.size, hsz', lR2, hR2, rfl⟩
  case body =>
    rintro y i s a' W hyl ⟨rr, hr⟩ hsz' hv ⟨b1, b2, b3, b4⟩ hx ⟨Bx, h1, h2, h3, rfl⟩
    have lK : Lt (w.heap.size + 1) W := by unfold Lt; omega
    have lS : Lt (w.heap.size + 1 + 1) W := by unfold Lt; omega
    have lX : Lt Bx W := h2
    have HX := Lib.hid hx
    have HV := Lib.hid hv
    have HN := Lib.hid b1
    clear hx hr hv f1 f2 f3 rA cB b1
    by_cases hk : 0 ≤ k ∧ k < 16
    · have hk0 : 0 ≤ k := hk.1
      have hk1 : k < 16 := hk.2
      have hEW : Ext w W := Mv.ext_of E1 HV.out (fun k h => by rcases h with h | h; exact h.elim; omega)
      obtain ⟨i6, hs6⟩ : ∃ j, j < 6 ∧ s = (j, x.ag j) := by
        have := List.mem_of_getElem? HX.out
        unfold agsL pickN at this
        rw [List.mem_map] at this
        obtain ⟨j, hj, e⟩ := this
        exact ⟨j, List.mem_range.1 (List.mem_filter.1 hj).1, e.symm⟩
      obtain ⟨hi6, rfl⟩ := hs6
      have h3x : rowD W Bx = agv (x.ag i6) := h3
      have h3c : cutD (rowD W Bx) 0 67 = agv (x.ag i6) := by rw [h3x, cut_all_agv]
      have h3f : Fits 0 67 (rowD W Bx) := by rw [h3x, fits_agv]; omega
      clear h3
      cases hp : pr (x.ag i6)
      · have HT := Lib.hid (thoseN_no (k := k) (pr := pr) HX.out (.inr hp))
        have HC := Lib.hid (fun W h => by have := HG.out hk i6 W hi6 h; rwa [hp] at this : ∀ W, Ext w W → Calls Try.prog g (#[.agg (agv (x.ag i6))] ++ lb) W fun e w' => e = .returned (.bool false) ∧ Ext W w')
        clear hp hk
        gi_wp2
        refine ⟨trivial, ?_⟩
        rw [EG.out]
        go_simp
        gi_wp2
        refine (callsIn_wide.2 (HC.out _ hEW)).mono ?_
        rintro e w6 ⟨rfl, hb6⟩
        have HE := Lib.hid hEW
        have c2 := (hb6.cell (p := ⟨w.heap.size + 1, 0, none⟩) lK).trans b2
        have c3 := (hb6.cell (p := ⟨w.heap.size + 1 + 1, 0, none⟩) lS).trans b3
        have c4 := Nat.le_trans b4 hb6.size
        have HN6 : Hid (HoldN (w.heap.size + 1 + 1 + 1) (w1.heap.size + 2) (thoseN x k pr i) w6) := Lib.hid (HN.out.mv (Mv.of_ext (C := fun _ => False) hb6) (fun h => h) (fun _ _ h => h))
        have HB6 := Lib.hid hb6
        clear hEW hb6 b2 b3 h3x h3c h3f
        gi_wp2
        exact ⟨Mv.of_ext HB6.out, by rw [HT.out]; exact HN6.out, c2, c3, c4⟩
      · have HT := Lib.hid (thoseN_yes (pr := pr) hk HX.out hp)
        have HC := Lib.hid (fun W h => by have := HG.out hk i6 W hi6 h; rwa [hp] at this : ∀ W, Ext w W → Calls Try.prog g (#[.agg (agv (x.ag i6))] ++ lb) W fun e w' => e = .returned (.bool true) ∧ Ext W w')
        clear hp hk
        gi_wp2
        refine ⟨trivial, ?_⟩
        rw [EG.out]
        go_simp
        gi_wp2
        refine (callsIn_wide.2 (HC.out _ hEW)).mono ?_
        rintro e w6 ⟨rfl, hb6⟩
        have HE := Lib.hid hEW
        have c2 := (hb6.cell (p := ⟨w.heap.size + 1, 0, none⟩) lK).trans b2
        have c3 := (hb6.cell (p := ⟨w.heap.size + 1 + 1, 0, none⟩) lS).trans b3
        have c4 := Nat.le_trans b4 hb6.size
        have HN6 : Hid (HoldN (w.heap.size + 1 + 1 + 1) (w1.heap.size + 2) (thoseN x k pr i) w6) := Lib.hid (HN.out.mv (Mv.of_ext (C := fun _ => False) hb6) (fun h => h) (fun _ _ h => h))
        have HB6 := Lib.hid hb6
        clear hEW hb6 b2 b3 h3x h3c h3f
        obtain ⟨v, hb, hrow⟩ := HN6.out
        have hc := hb.cell
        have hlen6 := thoseN_len x k pr i
        obtain ⟨L, hL⟩ : ∃ L, thoseN x k pr i = L := ⟨_, rfl⟩
        rw [hL] at hrow hlen6
        have HL := Lib.hid hL
        have HR := Lib.hid hrow
        have hnB : ∀ r, v.ownBlock = some r → w1.heap.size + 2 ≤ r := ownBlock_ge HR.out
        have HNB := Lib.hid hnB
        have hz6 : w1.heap.size + 2 ≤ w6.heap.size := Nat.le_trans hsz' HB6.out.size
        clear hL hrow hnB HN6
        gi_wp2_with (gi_at_builtin; refine wpListIn_append_own _ rfl _ _ 58 rfl (w1.heap.size + 2) 3 i0 (.int .i64 0) 1 8 Try.underlying58 hi hz0 hz1 hz2 rfl (by decide) _ _ _ rfl (HR.out.alloc _) ⟨w6.heap.size, 0, none⟩ 1 1 [.int .i64 i6] rfl rfl (cell_one_newB _ _ _) (by simp [Value.oneCell']) (by unfold maxLen; omega) (by omega) (by simp; omega) ?_; intro v' w2 hown' hgrow _; have HOW := Lib.hid hown'; obtain ⟨g', cap', rfl⟩ := ownsRow_succ hown'; have hb2 : Boxed w2 (w.heap.size + 1 + 1 + 1) 58 v := (hb.alloc _).kept hgrow (fun e => by have := HNB.out _ e.symm; omega); have hc2 := hb2.cell; have hf2 := hb2.frozen; clear hown')
        have hm2 : Mv (fun k => k = w.heap.size + 1 + 1 + 1 ∨ w1.heap.size + 2 ≤ k) w6 w2 := (Mv.al _ (Mv.refl _ _)).trans (Mv.of_grown hgrow fun r e => .inl (.inr (HNB.out r e)))
        have s1 := hm2.same (w.heap.size + 1) (by omega) (by omega)
        have s2 := hm2.same (w.heap.size + 1 + 1) (by omega) (by omega)
        refine ⟨(Mv.of_ext HB6.out).trans (Mv.st _ (.inl (.inl rfl)) hm2), ⟨_, hb2.set _, ?_⟩, ?_, ?_, ?_⟩
        · rw [HT.out, HL.out, inC_snoc, List.length_append]
          exact ownsRow_mv (C := fun k => k = w.heap.size + 1 + 1 + 1) HOW.out (Mv.st _ (.inl rfl) (Mv.refl _ _)) (fun k hk e => by omega)
        · rw [World.cell?_setCell_other _ _ _ _ (fun e => (show w.heap.size + 1 ≠ w.heap.size + 1 + 1 + 1 by omega) (by first | exact congrArg Addr.block e | exact (congrArg Addr.block e).symm)), cell_rowD, rowD_same s1, ← cell_rowD]; exact c2
        · rw [World.cell?_setCell_other _ _ _ _ (fun e => (show w.heap.size + 1 + 1 ≠ w.heap.size + 1 + 1 + 1 by omega) (by first | exact congrArg Addr.block e | exact (congrArg Addr.block e).symm)), cell_rowD, rowD_same s2, ← cell_rowD]; exact c3
        · have := hm2.size; simp; omega
    · have HT := Lib.hid (thoseN_no (k := k) (pr := pr) HX.out (.inl hk))
      by_cases hk0 : 0 ≤ k
      · have hk1 : ¬ k < 16 := fun e => hk ⟨hk0, e⟩
        clear hk
        gi_wp2
        refine ⟨fun f h => (by cases h), ?_⟩
        gi_wp2
        refine ⟨Mv.refl _ _, by rw [HT.out]; exact HN.out, b2, b3, b4⟩
      · clear hk
        gi_wp2
        refine ⟨fun f h => (by cases h), ?_⟩
        gi_wp2
        refine ⟨Mv.refl _ _, by rw [HT.out]; exact HN.out, b2, b3, b4⟩
  case done =>
    rintro W ⟨⟨v, hb, hrow⟩, b2, b3, b4⟩ hv hK
    have hc := hb.cell
    have hf := hb.frozen
    have hall : thoseN x k pr (agsL x).length = thoseL x k pr := by unfold thoseN thoseL; rw [List.take_length]
    rw [hall] at hrow
    obtain ⟨q, nn, c', rfl⟩ := ownsRow_slice hrow
    have HR := Lib.hid hrow
    have HV := Lib.hid hv
    have HB := Lib.hid hb
    clear hv hrow hall b2 b3 f1 f2 f3 rA cB hb
    go_wp2
    refine ⟨by simp, .inl ⟨_, _, rfl, run_takeDeferred ?_, ?_⟩⟩
    · rw [← hK]
      simp only [World.setCell, Array.getElem?_modify]
      rw [if_neg (by omega)]
    · obtain ⟨W2, hW2⟩ : ∃ W2, ((W.setCell ⟨w.heap.size + 1 + 1 + 1, 0, none⟩ (.slice q nn c')).putObj w1.heap.size (.deferred none)) = W2 := ⟨_, rfl⟩
      have hm2 : Mv (fun k => k = w.heap.size + 1 + 1 + 1 ∨ k = w1.heap.size) W W2 := by
        rw [← hW2]
        exact (Mv.st _ (.inl (.inl rfl)) (Mv.refl _ _)).trans (Mv.put _ _ _ (.inr rfl))
      have hc2 : W2.cell? ⟨w.heap.size + 1 + 1 + 1, 0, none⟩ = some (.slice q nn c') := by
        rw [← hW2, cell_rowD, rowD_same (World.putObj_heap_other (by omega)), ← cell_rowD]
        exact World.cell?_setCell_same _ _ _ hc
      have hE2 : Ext w W := Mv.ext_of E1 HV.out (fun k h => by rcases h with h | h; exact h.elim; omega)
      have hE3 : Ext w W2 := Mv.ext_of hE2 hm2 (fun k h => by have := E1.size; omega)
      rw [hW2]
      refine ⟨_, results_of rfl _ _ (w.heap.size + 1 + 1 + 1) rfl (loadsi hc2), _, rfl, ?_, hE3⟩
      exact ownsRow_le (ownsRow_mv HR.out hm2 (fun k hk e => by omega)) (by omega)
  case stop => intro _ _ h; exact h.elim

end Go.Proofs.Ytedamnocolfmlaa

/- The small functions of hash. -/
namespace Go.Proofs.Ytedamnocolfmlaa
open Go.RowKit

def turn (c : Int) : Int := (167 * c + 13) % 256 % 16 * 16 + (167 * c + 13) % 256 / 16
def xorB (s c : Int) : Int := bits BinOp.xor IntKind.u8 s c
theorem turn_bd (c : Int) : 0 ≤ turn c ∧ turn c < 256 := by unfold turn; omega
theorem xorB_bd (s c : Int) : 0 ≤ xorB s c ∧ xorB s c < 256 := by
  have h1 := bits_lo_u8 .xor s c
  have h2 := bits_hi_u8 .xor s c
  unfold xorB; omega
theorem by256 (p : Int → Prop) [∀ c, Decidable (p c)] (h : ((List.range 256).all fun n => decide (p (n : Int))) = true) {c : Int} (h0 : 0 ≤ c) (h1 : c < 256) : p c := by
  obtain ⟨n, rfl⟩ : ∃ n : Nat, c = n := ⟨c.toNat, by omega⟩
  exact of_decide_eq_true (List.all_eq_true.1 h n (List.mem_range.2 (by omega)))
theorem or_val (n : Int) (h0 : 0 ≤ n) (h1 : n < 256) : bits BinOp.or IntKind.u8 (n * 16 % 256) (n / 16) = n % 16 * 16 + n / 16 := by
  refine by256 (fun n => bits BinOp.or IntKind.u8 (n * 16 % 256) (n / 16) = n % 16 * 16 + n / 16) ?_ h0 h1
  kernel_rfl
/-- A sum's bucket. -/
def fold (s : Int) : Int := s / 16 % 16 + s % 16 - 2 * (bits BinOp.and IntKind.u8 (s / 16) (s % 16))
theorem fold_val (n : Int) (h0 : 0 ≤ n) (h1 : n < 256) : wrap64 (bits BinOp.and IntKind.u8 (bits BinOp.xor IntKind.u8 n (n / 16)) 15) = fold n := by
  refine by256 (fun n => wrap64 (bits BinOp.and IntKind.u8 (bits BinOp.xor IntKind.u8 n (n / 16)) 15) = fold n) ?_ h0 h1
  kernel_rfl
theorem rfold_val (n : Int) (h0 : 0 ≤ n) (h1 : n < 256) : bits BinOp.xor IntKind.i64 ((wrap64 n).tdiv 16) ((wrap64 n).tmod 16) = fold n := by
  refine by256 (fun n => bits BinOp.xor IntKind.i64 ((wrap64 n).tdiv 16) ((wrap64 n).tmod 16) = fold n) ?_ h0 h1
  kernel_rfl
theorem fold_bd (n : Int) (h0 : 0 ≤ n) (h1 : n < 256) : 0 ≤ fold n ∧ fold n < 16 := by
  refine by256 (fun n => 0 ≤ fold n ∧ fold n < 16) ?_ h0 h1
  kernel_rfl
set_option maxHeartbeats 400000 in
theorem rot_any (c : Int) (w : World) (h0 : 0 ≤ c) (h1 : c < 256) : Calls Try.prog 100 #[.int .u8 c, .int .i64 4] w fun e w' => e = .returned (.int .u8 (c % 16 * 16 + c / 16)) ∧ w = w' := by
  have HV := Lib.hid (or_val c h0 h1)
  have b47 : bits BinOp.and IntKind.u64 4 7 = 4 := by kernel_rfl
  clear h0 h1
  go_enter Try.func100, Try.ntmps100
  go_wp2
  go_ret
  exact ⟨by rw [← HV.out]; rfl, rfl⟩
set_option maxHeartbeats 400000 in
theorem folded_any (c : Int) (w : World) (h0 : 0 ≤ c) (h1 : c < 256) : Calls Try.prog 59 #[.int .u8 c] w fun e w' => e = .returned (.int .i64 (fold c)) ∧ w = w' := by
  have HV := Lib.hid (fold_val c h0 h1)
  clear h0 h1
  go_enter Try.func59, Try.ntmps59
  go_wp2
  go_ret
  exact ⟨by rw [← HV.out]; rfl, rfl⟩
set_option maxHeartbeats 400000 in
theorem turn_any (c : Int) (w : World) : Calls Try.prog 92 #[.int .u8 c] w fun e w' => e = .returned (.int .u8 (turn c)) ∧ w = w' := by
  have HR := Lib.hid (fun w => rot_any ((167 * c + 13) % 256) w (by omega) (by omega))
  go_enter Try.func92, Try.ntmps92
  go_wp2_with ((with_reducible refine (HR.out _).mono ?_); (rintro e w' ⟨rfl, rfl⟩))
  exact bodyPost_ret (v := .int .u8 ((167 * c + 13) % 16 * 16 + (167 * c + 13) % 256 / 16)) (by kernel_rfl) rfl ⟨by rw [show (167 * c + 13) % 16 * 16 + (167 * c + 13) % 256 / 16 = turn c by unfold turn; omega], rfl⟩

theorem rturn_val (c : Int) (h0 : 0 ≤ c) (h1 : c < 256) : (wrap64 (wrap64 ((wrap64 (wrap64 (167 * wrap64 c) + 13)).tmod 16 * 16) + wrap64 (((wrap64 (wrap64 (167 * wrap64 c) + 13)).tmod 256).tdiv 16)) % 256) = turn c := by
  refine by256 (fun c => (wrap64 (wrap64 ((wrap64 (wrap64 (167 * wrap64 c) + 13)).tmod 16 * 16) + wrap64 (((wrap64 (wrap64 (167 * wrap64 c) + 13)).tmod 256).tdiv 16)) % 256) = turn c) ?_ h0 h1
  kernel_rfl
set_option maxHeartbeats 400000 in
theorem rturn_any (c : Int) (w : World) (h0 : 0 ≤ c) (h1 : c < 256) : Calls Try.prog 80 #[.int .u8 c] w fun e w' => e = .returned (.int .u8 (turn c)) ∧ w = w' := by
  have HV := Lib.hid (rturn_val c h0 h1)
  clear h0 h1
  go_enter Try.func80, Try.ntmps80
  go_wp2
  go_ret
  exact ⟨by rw [← HV.out]; rfl, rfl⟩

end Go.Proofs.Ytedamnocolfmlaa

/- The states behind bytes. -/
namespace Go.Proofs.Ytedamnocolfmlaa
open Go.RowKit

/-- A slice of bytes reads as a list. -/
def SlB (w : World) (p : Option Addr) (bs : List Int) : Prop := ∀ k, (h : k < bs.length) → ∃ b off, p = some ⟨b, off, none⟩ ∧ b < w.heap.size ∧ w.cell? ⟨b, off + k, none⟩ = some (.int .u8 bs[k])
theorem SlB.ext {w w' : World} {p : Option Addr} {bs : List Int} (h : SlB w p bs) (e : Ext w w') : SlB w' p bs := fun k hk => by
  obtain ⟨b, off, hp, hb, hc⟩ := h k hk
  exact ⟨b, off, hp, Nat.lt_of_lt_of_le hb e.size, (e.cell (p := ⟨b, off + k, none⟩) hb).trans hc⟩
def goL (s : Int) (bs : List Int) : Int := bs.foldl (fun s c => turn (xorB s c)) s
def stL : Int → List Int → List Int
  | _, [] => []
  | s, c :: cs => turn (xorB s c) :: stL (turn (xorB s c)) cs
theorem stL_len : ∀ (bs : List Int) (s : Int), (stL s bs).length = bs.length
  | [], _ => rfl
  | c :: cs, s => by unfold stL; simp [stL_len cs]
theorem stL_get : ∀ (bs : List Int) (s : Int) (i : Nat), i < bs.length → (stL s bs)[i]? = some (goL s (bs.take (i + 1)))
  | c :: cs, s, 0, _ => rfl
  | c :: cs, s, i + 1, h => by
    unfold stL
    rw [List.getElem?_cons_succ, stL_get cs _ i (by simpa using h)]
    rfl
theorem goL_snoc (bs : List Int) (s : Int) (i : Nat) (h : i < bs.length) : goL s (bs.take (i + 1)) = turn (xorB (goL s (bs.take i)) bs[i]) := by
  unfold goL
  rw [List.take_succ_eq_append_getElem h, List.foldl_append]; rfl
theorem goL_bd (bs : List Int) (s : Int) (h0 : 0 ≤ s) (h1 : s < 256) : 0 ≤ goL s bs ∧ goL s bs < 256 := by
  induction bs generalizing s with
  | nil => exact ⟨h0, h1⟩
  | cons c cs ih => have := turn_bd (xorB s c); exact ih _ this.1 this.2
theorem states_any (s : Int) (p : Option Addr) (n c : Nat) (w : World) :
    Calls Try.prog 99 #[.func (.func 92) #[] #[], .int .u8 s, .slice p n c] w fun e w' =>
      e = .returned (.func (.func 104) #[] #[.pointer (some ⟨w.heap.size + 2, 0, none⟩), .pointer (some ⟨w.heap.size, 0, none⟩), .pointer (some ⟨w.heap.size + 1, 0, none⟩)]) ∧
      w' = ((w.alloc (.cells #[.func (.func 92) #[] #[]] 142)).alloc (.cells #[.int .u8 s] 5)).alloc (.cells #[.slice p n c] 106) := by
  go_enter Try.func99, Try.ntmps99
  go_wp2
  go_ret
  exact ⟨rfl, rfl⟩
theorem enters_states : ∀ args w, (callFunc 104 args).run Try.prog w = .ok (.enter 104 args) w := enters_of Try.func104 (by kernel_rfl) rfl
set_option maxRecDepth 20000 in
set_option maxHeartbeats 4000000 in
theorem states_iter (n : Nat) (s0 : Int) (bs : List Int) (p : Option Addr) (c : Nat) (w0 w : World) (Bb Bt Bs : Nat) (U : Nat → Prop) (h0 : Ext w0 w) (hb : SlB w0 p bs) (hl : bs.length ≤ 1000)
    (hcb : w.cell? ⟨Bb, 0, none⟩ = some (.slice p bs.length c)) (hct : w.cell? ⟨Bt, 0, none⟩ = some (.func (.func 92) #[] #[])) (hcs : w.cell? ⟨Bs, 0, none⟩ = some (.int .u8 s0)) (hz : frzD w Bs = (0, 0))
    (lb : Lt Bb w) (lt : Lt Bt w) (ls : Lt Bs w) (n1 : Bb ≠ Bs) (n2 : Bt ≠ Bs) (nb : w0.heap.size ≤ Bs) (hU : ∀ k, U k → w0.heap.size ≤ k ∧ k ≠ Bb ∧ k ≠ Bt ∧ k ≠ Bs) :
    Iter Fence.wide n Try.prog 104 #[.pointer (some ⟨Bb, 0, none⟩), .pointer (some ⟨Bt, 0, none⟩), .pointer (some ⟨Bs, 0, none⟩)] (fun x : Int => #[.int .u8 x]) (fun k => k = Bs) U (stL s0 bs) w := by
  intro y J Jx W hW hJ hJx hY hJ0
  have HJ := Lib.hid hJ
  have HJx := Lib.hid hJx
  have HU := Lib.hid hU
  clear hJ hJx hU
  obtain ⟨yfn, ytm, yas, ybo, hY⟩ := hY
  have HY := Lib.hid hY
  clear hY
  have kb : W.cell? ⟨Bb, 0, none⟩ = some (.slice p bs.length c) := (hW.cell (p := ⟨Bb, 0, none⟩) lb).trans hcb
  have kt : W.cell? ⟨Bt, 0, none⟩ = some (.func (.func 92) #[] #[]) := (hW.cell (p := ⟨Bt, 0, none⟩) lt).trans hct
  have ks : W.cell? ⟨Bs, 0, none⟩ = some (.int .u8 s0) := (hW.cell (p := ⟨Bs, 0, none⟩) ls).trans hcs
  have kz : frzD W Bs = (0, 0) := by unfold frzD; rw [hW.block Bs ls]; exact hz
  have lbW : Lt Bb W := Nat.lt_of_lt_of_le lb hW.size
  have ltW : Lt Bt W := Nat.lt_of_lt_of_le lt hW.size
  have lsW : Lt Bs W := Nat.lt_of_lt_of_le ls hW.size
  have h0W := h0.tr hW
  clear hcb hct hcs hz
  refine callsIn_of_wp Try.func104 rfl trivial ?_ rfl
  simp only [Try.ntmps104, List.size_toArray, List.length_cons, List.length_nil, Nat.reduceAdd, Nat.reduceSub, Array.replicate_succ, Array.replicate_zero, List.push_toArray, List.append_toArray, List.nil_append, List.cons_append]
  refine wpIn_wide.2 ?_
  go_wp2
  go_loopw [6, 9] (fun _ a wr => ∃ i : Nat, i ≤ bs.length ∧ a = .int .i64 i ∧ J i wr ∧ wr.cell? ⟨Bb, 0, none⟩ = some (.slice p bs.length c) ∧ wr.cell? ⟨Bt, 0, none⟩ = some (.func (.func 92) #[] #[]) ∧ wr.cell? ⟨Bs, 0, none⟩ = some (.int .u8 (goL s0 (bs.take i))) ∧ frzD wr Bs = (0, 0) ∧ Lt Bb wr ∧ Lt Bt wr ∧ Lt Bs wr ∧ Ext w0 wr) (fun _ a _ => bs.length - (intOf a).toNat)
  case atStart => exact ⟨0, Nat.zero_le _, rfl, hJ0, kb, kt, ks, kz, lbW, ltW, lsW, h0W⟩
  case round =>
    clear kb kt ks kz lbW ltW lsW h0W hJ0
    obtain ⟨i, hi, rfl, hJi, kb, kt, ks, kz, lbw, ltw, lsw, hE⟩ := hrel
    by_cases hlt : i < bs.length
    · have hlt' : (i : Int) < bs.length := by omega
      obtain ⟨b, off, rfl, hbl, hcell⟩ := (hb.ext hE) i hlt
      have HXS := Lib.hid ((stL_get bs s0 i hlt).trans (congrArg some (goL_snoc bs s0 i hlt)))
      have HGS := Lib.hid (goL_snoc bs s0 i hlt)
      generalize goL s0 (bs.take i) = S at *
      generalize bs[i] = C at *
      have HJI := Lib.hid hJi
      have hf0 := frozen_of_frz kz 0
      obtain ⟨V, hV⟩ : ∃ V, turn (xorB S C) = V := ⟨_, rfl⟩
      rw [hV] at HXS HGS
      have HV := Lib.hid hV
      clear hV
      clear hJi
      go_upto_region 4 with (go_at_call 92; (with_reducible refine (turn_any _ _).mono ?_); rintro e w' ⟨rfl, rfl⟩)
      rw [show turn (bits BinOp.xor IntKind.u8 S C) = V from HV.out]
      obtain ⟨W1, hW1⟩ : ∃ W1, wr.setCell ⟨Bs, 0, none⟩ (.int .u8 V) = W1 := ⟨_, rfl⟩
      have g1 : Mv (fun k => k = Bs) wr W1 := by rw [← hW1]; exact Mv.st _ (.inl rfl) (Mv.refl _ _)
      have ks1 : W1.cell? ⟨Bs, 0, none⟩ = some (.int .u8 V) := by rw [← hW1]; exact World.cell?_setCell_same _ _ _ ks
      have kz1 : frzD W1 Bs = (0, 0) := by rw [← hW1, frzD_setCell]; exact kz
      rw [hW1]
      clear hW1
      have sb : ∀ {k : Nat} {A B : World}, k ≠ Bs → Lt k A → Mv (fun k => k = Bs) A B → B.heap[k]? = A.heap[k]? := fun hk hl hm => hm.same _ hl hk
      have kb1 : W1.cell? ⟨Bb, 0, none⟩ = some (.slice (some ⟨b, off, none⟩) bs.length c) := by rw [cell_rowD, rowD_same (sb n1 lbw g1), ← cell_rowD]; exact kb
      have kt1 : W1.cell? ⟨Bt, 0, none⟩ = some (.func (.func 92) #[] #[]) := by rw [cell_rowD, rowD_same (sb n2 ltw g1), ← cell_rowD]; exact kt
      have lb1 : Lt Bb W1 := Nat.lt_of_lt_of_le lbw g1.size
      have lt1 : Lt Bt W1 := Nat.lt_of_lt_of_le ltw g1.size
      have ls1 : Lt Bs W1 := Nat.lt_of_lt_of_le lsw g1.size
      have hE1 : Ext w0 W1 := Mv.ext_of hE g1 (fun k e => by rw [e]; exact nb)
      have hJ1 : J i W1 := HJ.out _ _ _ HJI.out g1
      have hrun : (Instr.yield y #[.int .u8 V]).run Try.prog W1 = .ok (.round y yfn (ytm #[.int .u8 V]) yas ybo) W1 := (HY.out i V W1 hJ1 HXS.out).1
      have HRD := Lib.hid (HY.out i V W1 hJ1 HXS.out).2
      clear kb kt ks kz hf0 g1 HJI
      refine (wpIn_wide (n := n)).1 ?_
      gi_wp2
      refine ⟨(fun h => by cases h), (HRD.out).mono ?_⟩
      rintro e w6 ⟨bb, rfl, hP⟩
      clear hrun HRD
      obtain ⟨rfl, hJ6, hm6⟩ | ⟨rfl, hx6⟩ := hP
      · have so : ∀ {k : Nat}, k < w.heap.size → k = Bb ∨ k = Bt ∨ k = Bs → Lt k W1 → w6.heap[k]? = W1.heap[k]? := fun hk h hl => hm6.same _ hl (fun hh => by rcases hh with hh | hh; (have := HU.out _ hh; omega); omega)
        have kb6 : w6.cell? ⟨Bb, 0, none⟩ = some (.slice (some ⟨b, off, none⟩) bs.length c) := by rw [cell_rowD, rowD_same (so lb (.inl rfl) lb1), ← cell_rowD]; exact kb1
        have kt6 : w6.cell? ⟨Bt, 0, none⟩ = some (.func (.func 92) #[] #[]) := by rw [cell_rowD, rowD_same (so lt (.inr (.inl rfl)) lt1), ← cell_rowD]; exact kt1
        have ks6 : w6.cell? ⟨Bs, 0, none⟩ = some (.int .u8 V) := by rw [cell_rowD, rowD_same (so ls (.inr (.inr rfl)) ls1), ← cell_rowD]; exact ks1
        have kz6 : frzD w6 Bs = (0, 0) := by unfold frzD at kz1 ⊢; rw [so ls (.inr (.inr rfl)) ls1]; exact kz1
        have lb6 : Lt Bb w6 := Nat.lt_of_lt_of_le lb1 hm6.size
        have lt6 : Lt Bt w6 := Nat.lt_of_lt_of_le lt1 hm6.size
        have ls6 : Lt Bs w6 := Nat.lt_of_lt_of_le ls1 hm6.size
        have hE6 : Ext w0 w6 := Mv.ext_of hE1 hm6 (fun k h => by rcases h with h | h; exact (HU.out _ h).1; exact Nat.le_trans h0.size h)
        clear hm6 kb1 kt1 ks1 kz1 so sb
        gi_wp2
        go_wp2
        go_roundw
        case rel => exact ⟨i + 1, by omega, by go_num, hJ6, kb6, kt6, by rw [HGS.out]; exact ks6, kz6, lb6, lt6, ls6, hE6⟩
        case measure => simp [intOf]; omega
      · gi_wp2
        go_wp2
        refine bodyPost_ret (results_none rfl _ _ _) rfl ⟨⟨_, rfl⟩, .inr hx6⟩
    · obtain rfl : i = bs.length := by omega
      have HLN := Lib.hid (stL_len bs s0)
      go_wp2
      go_end0
      exact ⟨⟨_, rfl⟩, .inl (by rw [HLN.out]; exact hJi)⟩

end Go.Proofs.Ytedamnocolfmlaa

/- The last state; Go. -/
namespace Go.Proofs.Ytedamnocolfmlaa
open Go.RowKit

attribute [local go_sem] Oper.semAt_some
set_option maxRecDepth 100000 in
set_option maxHeartbeats 4000000 in
theorem last_any (s : Int) (bs : List Int) (p : Option Addr) (c : Nat) (w : World) (hb : SlB w p bs) (hl : bs.length ≤ 1000) :
    Calls Try.prog 91 #[.func (.func 92) #[] #[], .int .u8 s, .slice p bs.length c] w fun e w' => e = .returned (.int .u8 (goL s bs)) ∧ Ext w w' := by
  refine (callsIn_wide (n := 5)).1 ?_
  refine callsIn_of_wp_marks Try.func91 rfl trivial ?_ rfl
  simp only [Try.ntmps91, List.size_toArray, List.length_cons, List.length_nil, Nat.reduceAdd, Nat.reduceSub, Array.replicate_succ, Array.replicate_zero, List.push_toArray, List.append_toArray, List.nil_append, List.cons_append]
  refine wpIn_wide.2 ?_
  go_wp2_with (go_at_call 99; (with_reducible refine (states_any s p bs.length c _).mono ?_); rintro e w2 ⟨rfl, rfl⟩)
  obtain ⟨W1, hW1⟩ : ∃ W1, w.alloc (.cells #[.int .u8 s] 5) = W1 := ⟨_, rfl⟩
  have g1 : Ext w W1 := by rw [← hW1]; exact Ext.al (Ext.rf _) _
  have c4 : W1.cell? ⟨w.heap.size, 0, none⟩ = some (.int .u8 s) := by rw [← hW1]; simp [go_sem]
  have z4 : frzD W1 w.heap.size = (0, 0) := by rw [← hW1]; unfold frzD; rw [World.alloc_heap_new]
  have l4 : Lt w.heap.size W1 := by rw [← hW1]; simp [Lt]
  rw [hW1]
  have hsz : W1.heap.size = w.heap.size + 1 := by rw [← hW1]; simp
  clear hW1
  obtain ⟨W2, hW2⟩ : ∃ W2, (((W1.alloc (Obj.cells #[.func (.func 92) #[] #[]] 142)).alloc (Obj.cells #[.int .u8 s] 5)).alloc (Obj.cells #[.slice p bs.length c] 106)) = W2 := ⟨_, rfl⟩
  have g2 : Ext W1 W2 := by rw [← hW2]; exact Ext.al (Ext.al (Ext.al (Ext.rf _) _) _) _
  have hsz2 : W2.heap.size = w.heap.size + 4 := by rw [← hW2]; simp [hsz]
  have cB : W2.cell? ⟨w.heap.size + 1 + 2, 0, none⟩ = some (.slice p bs.length c) := by rw [← hW2]; simp [go_sem, hsz]
  have cT : W2.cell? ⟨w.heap.size + 1, 0, none⟩ = some (.func (.func 92) #[] #[]) := by rw [← hW2]; simp [go_sem, hsz]
  have cS : W2.cell? ⟨w.heap.size + 1 + 1, 0, none⟩ = some (.int .u8 s) := by rw [← hW2]; simp [go_sem, hsz]
  have zS : frzD W2 (w.heap.size + 1 + 1) = (0, 0) := by rw [← hW2]; simp [go_sem, hsz]
  have k4 : W2.cell? ⟨w.heap.size, 0, none⟩ = some (.int .u8 s) := (g2.cell (p := ⟨w.heap.size, 0, none⟩) l4).trans c4
  have y4 : frzD W2 w.heap.size = (0, 0) := by unfold frzD; rw [g2.block _ l4]; exact z4
  rw [hW2]
  clear hW2 c4 z4
  refine (wpIn_wide (n := 5)).1 ?_
  refine wpIn_range rfl (by omega) (gf := 104) (lb := #[.pointer (some ⟨w.heap.size + 1 + 2, 0, none⟩), .pointer (some ⟨w.heap.size + 1, 0, none⟩), .pointer (some ⟨w.heap.size + 1 + 1, 0, none⟩)]) rfl trivial enters_states
    (states_iter _ s bs p c w W2 (w.heap.size + 1 + 2) (w.heap.size + 1) (w.heap.size + 1 + 1) (fun k => k = w.heap.size) (g1.tr g2) hb hl cB cT cS zS (by unfold Lt; omega) (by unfold Lt; omega) (by unfold Lt; omega) (by omega) (by omega) (by omega) (fun k e => by subst e; exact ⟨Nat.le_refl _, by omega, by omega, by omega⟩))
    (fun k e => by omega) (fun k e => by omega) (fun _ => rfl)
    (fun i W => ∃ v, W.cell? ⟨w.heap.size, 0, none⟩ = some (.int .u8 v) ∧ frzD W w.heap.size = (0, 0) ∧ Lt w.heap.size W ∧ (v = goL s (bs.take i) ∨ (stL s bs)[i]? = some v)) (fun _ _ => False)
    (fun i A B h hm => by
      obtain ⟨v, h1, h2, h3, h4⟩ := h
      have hs := hm.same w.heap.size h3 (by omega)
      exact ⟨v, by rw [cell_rowD, rowD_same hs, ← cell_rowD]; exact h1, by unfold frzD at h2 ⊢; rw [hs]; exact h2, Nat.lt_of_lt_of_le h3 hm.size, h4⟩)
    (fun _ _ _ h _ => h) ⟨s, k4, y4, Nat.lt_of_lt_of_le l4 g2.size, .inl rfl⟩
    (fun x a' W => W.cell? ⟨w.heap.size, 0, none⟩ = some (.int .u8 x) ∧ Lt w.heap.size W)
    (fun x a' A B h hm => ⟨by rw [cell_rowD, rowD_same (hm.same w.heap.size h.2 (by omega)), ← cell_rowD]; exact h.1, Nat.lt_of_lt_of_le h.2 hm.size⟩)
    ?assign ?body ?done ?stop
  case assign =>
    rintro y i x W K hsz' hv ⟨v, h1, h2, h3, h4⟩ hx hK
    have hf0 := frozen_of_frz h2 0
    gi_wp2
    repeat (rw [Oper.semAt_some _ _ _ (by intro c h; cases h)]; go_simp; gi_wp2)
    refine hK _ _ (Mv.st _ (.inl (.inl rfl)) (Mv.refl _ _)) ⟨x, World.cell?_setCell_same _ _ _ h1, by rw [frzD_setCell]; exact h2, by rw [Lt_setCell]; exact h3, .inr hx⟩ ⟨World.cell?_setCell_same _ _ _ h1, by rw [Lt_setCell]; exact h3⟩
  case body =>
    rintro y i x a' W hyl ⟨rr, hr⟩ hsz' hv ⟨v, h1, h2, h3, h4⟩ hx ⟨h5, h6⟩
    have hil : i < bs.length := by have := (List.getElem?_eq_some_iff.1 hx).1; rwa [stL_len] at this
    gi_wp2
    refine ⟨Mv.refl _ _, x, h5, h2, h3, .inl ?_⟩
    have := stL_get bs s i hil
    rw [hx] at this
    exact Option.some.inj this
  case done =>
    rintro W ⟨v, h1, h2, h3, h4⟩ hv hK
    have hvv : v = goL s bs := by
      rcases h4 with h | h
      · rw [h, stL_len, List.take_length]
      · rw [List.getElem?_eq_none (Nat.le_refl _)] at h; cases h
    subst hvv
    go_wp2
    refine ⟨by simp, .inl ⟨_, _, rfl, run_takeDeferred hK, ?_⟩⟩
    refine ⟨_, results_tmp rfl _ _ _, rfl, ?_⟩
    have hE2 : Ext w W := Mv.ext_of (g1.tr g2) hv (fun k h => by rcases h with h | h <;> omega)
    exact Mv.ext_of hE2 (Mv.put (C := fun k => k = W2.heap.size) _ _ _ rfl) (fun k h => by omega)
  case stop => intro _ _ h; exact h.elim
set_option maxHeartbeats 400000 in
theorem go_any (s : Int) (bs : List Int) (p : Option Addr) (c : Nat) (w : World) (hb : SlB w p bs) (hl : bs.length ≤ 1000) :
    Calls Try.prog 78 #[.int .u8 s, .slice p bs.length c] w fun e w' => e = .returned (.int .u8 (goL s bs)) ∧ Ext w w' := by
  go_enter Try.func78, Try.ntmps78
  go_wp2_with ((with_reducible refine (last_any s bs p c _ hb hl).mono ?_); rintro e w' ⟨rfl, hb⟩)
  go_ret
  exact ⟨rfl, hb⟩

end Go.Proofs.Ytedamnocolfmlaa

/- A tuple's parts. -/
namespace Go.Proofs.Ytedamnocolfmlaa
open Go.RowKit

def partsL (t : Tu) : List (Int × Int) := [(t.a, 4), (t.b, 4), (t.c, 2), (t.d, 2)]
theorem parts_any (t : Tu) (w : World) :
    Calls Try.prog 93 #[tu t.a t.b t.c t.d] w fun e w' => e = .returned (.func (.func 101) #[] #[.pointer (some ⟨w.heap.size, 0, none⟩)]) ∧ w' = w.alloc (.cells #[.int .u32 t.a, .int .u32 t.b, .int .u16 t.c, .int .u16 t.d] 65) := by
  go_enter Try.func93, Try.ntmps93
  go_wp2
  go_ret
  exact ⟨rfl, rfl⟩
theorem enters_parts : ∀ args w, (callFunc 101 args).run Try.prog w = .ok (.enter 101 args) w := enters_of Try.func101 (by kernel_rfl) rfl
attribute [local go_sem] Oper.semAt_some
set_option maxRecDepth 20000 in
set_option maxHeartbeats 4000000 in
theorem parts_iter (n : Nat) (t : Tu) (hc : t.c % 4294967296 = t.c) (hd : t.d % 4294967296 = t.d) (w : World) (Bt : Nat) (U : Nat → Prop) (ht : TuAt w Bt t) (hU : ∀ k, U k → k ≠ Bt) :
    Iter Fence.wide n Try.prog 101 #[.pointer (some ⟨Bt, 0, none⟩)] (fun x : Int × Int => #[.int .u32 x.1, .int .i64 x.2]) (fun _ => False) U (partsL t) w := by
  intro y J Jx W hW hJ hJx hY hJ0
  have HJ := Lib.hid hJ
  have HJx := Lib.hid hJx
  have HU := Lib.hid hU
  clear hJ hJx hU
  obtain ⟨yfn, ytm, yas, ybo, hY⟩ := hY
  have HY := Lib.hid hY
  clear hY
  have HT := ht.ext hW
  have HC := Lib.hid hc
  have HD := Lib.hid hd
  have HB := Lib.hid ht.2
  clear ht hc hd
  refine callsIn_of_wp Try.func101 rfl trivial ?_ rfl
  simp only [Try.ntmps101, List.size_toArray, List.length_cons, List.length_nil, Nat.reduceAdd, Nat.reduceSub, Array.replicate_succ, Array.replicate_zero, List.push_toArray, List.append_toArray, List.nil_append, List.cons_append]
  have HT0 := HT
  have hJ0 : J 0 W := hJ0
  clear HT hW
  obtain ⟨c0, c1, c2, c3⟩ := HT0.cells
  have HR0 := Lib.hid (HY.out 0 (t.a, 4) W hJ0 rfl)
  have hrun : (Instr.yield y #[.int .u32 t.a, .int .i64 4]).run Try.prog W = .ok (.round y yfn (ytm #[.int .u32 t.a, .int .i64 4]) yas ybo) W := HR0.out.1
  have lB : Lt Bt W := HT0.2
  skip
  gi_wp2
  refine ⟨(fun h => by cases h), (HR0.out.2).mono ?_⟩
  clear c0 c1 c2 c3 hrun lB HR0
  rintro e W1 ⟨bb, rfl, hP⟩
  obtain ⟨rfl, hJ1, hm⟩ | ⟨rfl, hx⟩ := hP
  rotate_left
  · gi_wp2
    repeat (refine ⟨(fun _ h => by cases h), ?_⟩; gi_wp2)
    go_end0
    exact ⟨⟨_, rfl⟩, .inr hx⟩
  have HT1 : TuAt W1 Bt t := ⟨by rw [rowD_same (hm.same Bt HT0.2 (fun h => by rcases h with h | h; exact HU.out _ h rfl; have := HB.out; unfold Lt at this; omega))]; exact HT0.1, Nat.lt_of_lt_of_le HT0.2 hm.size⟩
  clear hm hJ0 HT0
  obtain ⟨c0, c1, c2, c3⟩ := HT1.cells
  have HR1 := Lib.hid (HY.out 1 (t.b, 4) W1 hJ1 rfl)
  have hrun : (Instr.yield y #[.int .u32 t.b, .int .i64 4]).run Try.prog W1 = .ok (.round y yfn (ytm #[.int .u32 t.b, .int .i64 4]) yas ybo) W1 := HR1.out.1
  have lB : Lt Bt W1 := HT1.2
  skip
  gi_wp2
  refine ⟨(fun h => by cases h), (HR1.out.2).mono ?_⟩
  clear c0 c1 c2 c3 hrun lB HR1
  rintro e W2 ⟨bb, rfl, hP⟩
  obtain ⟨rfl, hJ2, hm⟩ | ⟨rfl, hx⟩ := hP
  rotate_left
  · gi_wp2
    repeat (refine ⟨(fun _ h => by cases h), ?_⟩; gi_wp2)
    go_end0
    exact ⟨⟨_, rfl⟩, .inr hx⟩
  have HT2 : TuAt W2 Bt t := ⟨by rw [rowD_same (hm.same Bt HT1.2 (fun h => by rcases h with h | h; exact HU.out _ h rfl; have := HB.out; unfold Lt at this; omega))]; exact HT1.1, Nat.lt_of_lt_of_le HT1.2 hm.size⟩
  clear hm hJ1 HT1
  obtain ⟨c0, c1, c2, c3⟩ := HT2.cells
  have HR2 := Lib.hid (HY.out 2 (t.c, 2) W2 hJ2 rfl)
  have hrun : (Instr.yield y #[.int .u32 t.c, .int .i64 2]).run Try.prog W2 = .ok (.round y yfn (ytm #[.int .u32 t.c, .int .i64 2]) yas ybo) W2 := HR2.out.1
  have lB : Lt Bt W2 := HT2.2
  have hcv := HC.out
  gi_wp2
  refine ⟨(fun h => by cases h), (HR2.out.2).mono ?_⟩
  clear c0 c1 c2 c3 hrun lB HR2 hcv
  rintro e W3 ⟨bb, rfl, hP⟩
  obtain ⟨rfl, hJ3, hm⟩ | ⟨rfl, hx⟩ := hP
  rotate_left
  · gi_wp2
    repeat (refine ⟨(fun _ h => by cases h), ?_⟩; gi_wp2)
    go_end0
    exact ⟨⟨_, rfl⟩, .inr hx⟩
  have HT3 : TuAt W3 Bt t := ⟨by rw [rowD_same (hm.same Bt HT2.2 (fun h => by rcases h with h | h; exact HU.out _ h rfl; have := HB.out; unfold Lt at this; omega))]; exact HT2.1, Nat.lt_of_lt_of_le HT2.2 hm.size⟩
  clear hm hJ2 HT2
  obtain ⟨c0, c1, c2, c3⟩ := HT3.cells
  have HR3 := Lib.hid (HY.out 3 (t.d, 2) W3 hJ3 rfl)
  have hrun : (Instr.yield y #[.int .u32 t.d, .int .i64 2]).run Try.prog W3 = .ok (.round y yfn (ytm #[.int .u32 t.d, .int .i64 2]) yas ybo) W3 := HR3.out.1
  have lB : Lt Bt W3 := HT3.2
  have hcv := HD.out
  gi_wp2
  refine ⟨(fun h => by cases h), (HR3.out.2).mono ?_⟩
  clear c0 c1 c2 c3 hrun lB HR3 hcv
  rintro e W4 ⟨bb, rfl, hP⟩
  obtain ⟨rfl, hJ4, hm⟩ | ⟨rfl, hx⟩ := hP
  rotate_left
  · gi_wp2
    repeat (refine ⟨(fun _ h => by cases h), ?_⟩; gi_wp2)
    go_end0
    exact ⟨⟨_, rfl⟩, .inr hx⟩
  have HT4 : TuAt W4 Bt t := ⟨by rw [rowD_same (hm.same Bt HT3.2 (fun h => by rcases h with h | h; exact HU.out _ h rfl; have := HB.out; unfold Lt at this; omega))]; exact HT3.1, Nat.lt_of_lt_of_le HT3.2 hm.size⟩
  clear hm hJ3 HT3
  gi_wp2
  go_end0
  exact ⟨⟨_, rfl⟩, .inl hJ4⟩

end Go.Proofs.Ytedamnocolfmlaa

/- The drawn region of tuple.Bytes: its operations, one by one. -/
namespace Go.Proofs.Ytedamnocolfmlaa
open Go.RowKit

def byN (n : Int) : Nat → List Int
  | 0 => []
  | k + 1 => (n / 256 ^ k % 256) :: byN n k
theorem byN_len (n : Int) : ∀ k, (byN n k).length = k
  | 0 => rfl
  | k + 1 => by simp [byN, byN_len n k]
theorem byN_get (n : Int) : ∀ (m i : Nat) (h : i < m), (byN n m)[i]? = some (n / 256 ^ (m - 1 - i) % 256)
  | m + 1, 0, _ => by simp [byN]
  | m + 1, i + 1, h => by
    simp only [byN, List.getElem?_cons_succ]
    rw [byN_get n m i (by omega)]
    rw [show m - 1 - i = m + 1 - 1 - (i + 1) by omega]
theorem byN_take (n : Int) (m j : Nat) (h : j < m) : (byN n m).take (m - (j + 1)) ++ [n / 256 ^ j % 256] = (byN n m).take (m - j) := by
  have h1 := byN_get n m (m - (j + 1)) (by omega)
  have h2 : m - j = m - (j + 1) + 1 := by omega
  rw [h2, List.take_add_one, h1, show m - 1 - (m - (j + 1)) = j by omega]
  rfl
theorem load_bs_W {C : Nat → Prop} {w : World} {B O : Nat} {a : Option Addr} {m c : Nat} (h0 : w.cell? ⟨B, O, none⟩ = some (.slice a m c)) (hl : Lt B w) (hC : ¬ C B) (ρ : Operand → Value) (dst : Option Tmp) (x : Operand) (ty : TypeId) (pos : String) (after : Array Edge) (g : Option (Nat × Bool))
    (hx : ρ x = .pointer (some ⟨B, O, none⟩)) : ∀ w', Mv C w w' → (execOp ρ ⟨dst, .load 106 x, ty, pos, after, g⟩).run Try.prog w' = .ok (.value (.slice a m c)) w' := by
  intro w' hE
  have h0 : w'.cell? ⟨B, O, none⟩ = some (.slice a m c) := by rw [cell_rowD, rowD_same (hE.same B hl hC), ← cell_rowD]; exact h0
  simp only [execOp, hx]
  go_simp
theorem mul8_run {j : Nat} (hj : j < 4) (ρ : Operand → Value) (dst : Option Tmp) (x : Operand) (r ty : TypeId) (pos : String) (after : Array Edge) (g : Option (Nat × Bool)) (hx : ρ x = .int .i64 (j : Nat)) (hk : ρ (.const (.int .i64 8)) = .int .i64 8) (w : World) :
    (execOp ρ ⟨dst, .binOp .mul 3 (.const (.int .i64 8)) x r, ty, pos, after, g⟩).run Try.prog w = .ok (.value (.int .i64 ((8 * j : Nat) : Int))) w := by
  obtain rfl | rfl | rfl | rfl : j = 0 ∨ j = 1 ∨ j = 2 ∨ j = 3 := by omega
  all_goals (simp only [execOp, hx, hk]; go_simp; rfl)
theorem shr8_run {n : Int} {j : Nat} (hj : j < 4) (ρ : Operand → Value) (dst : Option Tmp) (x y : Operand) (s r ty : TypeId) (pos : String) (after : Array Edge) (g : Option (Nat × Bool)) (hx : ρ x = .int .u32 n) (hy : ρ y = .int .i64 ((8 * j : Nat) : Int)) (w : World) :
    (execOp ρ ⟨dst, .binOp .shr 62 x y 3, ty, pos, after, g⟩).run Try.prog w = .ok (.value (.int .u32 (n / 256 ^ j))) w := by
  obtain rfl | rfl | rfl | rfl : j = 0 ∨ j = 1 ∨ j = 2 ∨ j = 3 := by omega
  all_goals
    simp only [execOp, hx, hy]
    go_simp
theorem conv8_run {n : Int} (ρ : Operand → Value) (dst : Option Tmp) (x : Operand) (ty : TypeId) (pos : String) (after : Array Edge) (g : Option (Nat × Bool)) (hx : ρ x = .int .u32 n) (w : World) :
    (execOp ρ ⟨dst, .convert 62 5 x, ty, pos, after, g⟩).run Try.prog w = .ok (.value (.int .u8 (n % 256))) w := by
  simp only [execOp, hx]
  go_simp
  simp [IntKind.wrap, IntKind.bits, IntKind.signed]
theorem build_run {v : Int} (ρ : Operand → Value) (dst : Option Tmp) (x : Operand) (ty : TypeId) (pos : String) (after : Array Edge) (g : Option (Nat × Bool)) (hx : ρ x = .int .u8 v) (w : World) :
    (execOp ρ ⟨dst, .buildSlice 106 1 #[(0, x)], ty, pos, after, g⟩).run Try.prog w = .ok (.value (.slice (some ⟨w.heap.size, 0, none⟩) 1 1)) (w.alloc (.cells #[.int .u8 v] 5)) := by
  simp only [execOp]
  go_simp
theorem info_U8 : (Try.prog.info? 5).map (fun i => (i.zero, i.size, i.bytes)) = some (some (.int .u8 0), 1, 1) := by kernel_rfl
theorem app_run {w : World} {B A L K : Nat} {v : Int} {u : Value} (hA : w.cell? ⟨A, 0, none⟩ = some (.int .u8 v)) (hL : L + 1 ≤ K) (hc : w.cell? ⟨B, L, none⟩ = some u) (hf : w.frozen? ⟨B, L, none⟩ = false) (ρ : Operand → Value) (dst : Option Tmp) (x y : Operand) (ty : TypeId) (pos : String) (after : Array Edge) (g : Option (Nat × Bool))
    (hx : ρ x = .slice (some ⟨B, 0, none⟩) L K) (hy : ρ y = .slice (some ⟨A, 0, none⟩) 1 1) :
    (execOp ρ ⟨dst, .call { callee := .builtin .append, args := #[x, y], argTypes := #[106, 106] }, ty, pos, after, g⟩).run Try.prog w = .ok (.value (.slice (some ⟨B, 0, none⟩) (L + 1) K)) (w.setCells B (0 + L * 1) [.int .u8 v]) := by
  obtain ⟨i0, hi, hz0, hz, hz2⟩ := info_parts info_U8
  have h := run_append_room_cells (P := Try.prog) w 106 ty 5 i0 Try.underlying106 hi B 0 L K ⟨A, 0, none⟩ 1 1 [.int .u8 v] (by rw [hz]; rfl) (fun j u h => by
    match j, h with
    | 0, h => cases h; exact hA) (by simp [Value.oneCell']) hL (fun j hj => by
      obtain rfl : j = 0 := by simpa using hj
      rw [hz, show 0 + L * 1 + 0 = L by omega, hc]; rfl) (fun j hj => by
      obtain rfl : j = 0 := by simpa using hj
      rw [hz, show 0 + L * 1 + 0 = L by omega]; exact hf)
  rw [hz] at h
  simp [execOp, resolve, invoke, builtin, hx, hy, h, Result.andThen]
theorem store_run {w : World} {B : Nat} {v u : Value} (hc : w.cell? ⟨B, 0, none⟩ = some u) (hf : w.frozen? ⟨B, 0, none⟩ = false) (hv : ∃ a m c, v = .slice a m c) (ρ : Operand → Value) (dst : Option Tmp) (x y : Operand) (ty : TypeId) (pos : String) (after : Array Edge) (g : Option (Nat × Bool))
    (hx : ρ x = .pointer (some ⟨B, 0, none⟩)) (hy : ρ y = v) :
    (execOp ρ ⟨dst, .store 106 x y, ty, pos, after, g⟩).run Try.prog w = .ok .skip (w.setCell ⟨B, 0, none⟩ v) := by
  obtain ⟨a, m, c, rfl⟩ := hv
  simp only [execOp, hx, hy]
  go_simp
def pathsB : List (Nat × List Nat) := [(0, [7, 8]), (1, [4, 5, 6, 7, 8]), (2, [3, 4, 5, 6, 7, 8]), (3, [4, 5, 6, 7, 8]), (4, [5, 6, 7, 8]), (5, [6, 7, 8])]
def SchB (ops : Array Oper) : Prop := Region.noSelect ops = true ∧ (∀ k, k < 6 → okX ops 9 k = true) ∧ (∀ k, k < 6 → closedB .any ops (lst 9 k) = true) ∧ (∀ k l, (k, l) ∈ pathsB → waitsB .any ops (k :: l) = true) ∧ Region.ready .any ops (lst 9 6) = [6] ∧ Region.ready .any ops (lst 9 7) = [7] ∧ Region.ready .any ops (lst 9 8) = [8] ∧ Region.ready .any ops (lst 9 9) = []
theorem schB : SchB ((Try.f79.body.bind (findR 8)).getD #[]) := by
  have h1 : ((List.range 6).all fun k => okX ((Try.f79.body.bind (findR 8)).getD #[]) 9 k) = true := by kernel_rfl
  have h2 : ((List.range 6).all fun k => closedB .any ((Try.f79.body.bind (findR 8)).getD #[]) (lst 9 k)) = true := by kernel_rfl
  have h3 : (pathsB.all fun kl => waitsB .any ((Try.f79.body.bind (findR 8)).getD #[]) (kl.1 :: kl.2)) = true := by kernel_rfl
  exact ⟨by kernel_rfl, fun k hk => List.all_eq_true.1 h1 k (List.mem_range.2 hk), fun k hk => List.all_eq_true.1 h2 k (List.mem_range.2 hk), fun k l h => List.all_eq_true.1 h3 (k, l) h, by kernel_rfl, by kernel_rfl, by kernel_rfl, by kernel_rfl⟩

end Go.Proofs.Ytedamnocolfmlaa

/- A tuple's bytes. -/
namespace Go.Proofs.Ytedamnocolfmlaa
open Go.RowKit

def partN (x : Int × Int) : List Int := byN x.1 x.2.toNat
def tb (t : Tu) : List Int := (partsL t).flatMap partN
/-- A variable holds a row of twelve that is being filled. -/
def BAt (W : World) (Bv Br : Nat) (bs : List Int) : Prop := W.cell? ⟨Bv, 0, none⟩ = some (.slice (some ⟨Br, 0, none⟩) bs.length 12) ∧ frzD W Bv = (0, 0) ∧ Lt Bv W ∧ ∃ cur : Array Value, W.heap[Br]? = some (.cells cur 5 (0, 0)) ∧ cur.size = 12 ∧ cur.toList.take bs.length = bs.map (Value.int .u8)
theorem BAt.same {A B : World} {Bv Br : Nat} {bs : List Int} (h : BAt A Bv Br bs) (hs : A.heap.size ≤ B.heap.size) (h1 : B.heap[Bv]? = A.heap[Bv]?) (h2 : B.heap[Br]? = A.heap[Br]?) : BAt B Bv Br bs := by
  obtain ⟨a1, a2, a3, cur, a4, a5, a6⟩ := h
  exact ⟨by rw [cell_rowD, rowD_same h1, ← cell_rowD]; exact a1, by unfold frzD at a2 ⊢; rw [h1]; exact a2, Nat.lt_of_lt_of_le a3 hs, cur, by rw [h2]; exact a4, a5, a6⟩
theorem BAt.push {W : World} {Bv Br L : Nat} {bs bs' : List Int} {v : Int} (hne : Bv ≠ Br) (h : BAt W Bv Br bs) (hL : bs.length = L) (h12 : L < 12) (hb : bs ++ [v] = bs') : BAt ((W.setCells Br (0 + L * 1) [.int .u8 v]).setCell ⟨Bv, 0, none⟩ (.slice (some ⟨Br, 0, none⟩) (L + 1) 12)) Bv Br bs' := by
  obtain ⟨a1, a2, a3, cur, a4, a5, a6⟩ := h
  subst hL hb
  have hl : bs.length + 1 = (bs ++ [v]).length := by simp
  rw [show 0 + bs.length * 1 = bs.length by omega]
  have e1 : (W.setCells Br bs.length [.int .u8 v]) = W.setCell ⟨Br, bs.length, none⟩ (.int .u8 v) := rfl
  rw [e1]
  refine ⟨?_, by rw [frzD_setCell, frzD_setCell]; exact a2, by rw [Lt_setCell, Lt_setCell]; exact a3, cur.setIfInBounds bs.length (.int .u8 v), ?_, by simpa using a5, ?_⟩
  · rw [← hl]
    have a7 : (W.setCell ⟨Br, bs.length, none⟩ (.int .u8 v)).cell? ⟨Bv, 0, none⟩ = some (.slice (some ⟨Br, 0, none⟩) bs.length 12) := by
      rw [World.cell?_setCell_other _ _ _ _ (fun e => hne (by first | exact congrArg Addr.block e | exact (congrArg Addr.block e).symm))]
      exact a1
    exact World.cell?_setCell_same _ _ _ a7
  · simp only [World.setCell]
    rw [Array.getElem?_modify, if_neg (by simpa using hne), Array.getElem?_modify, if_pos rfl, a4]
    rfl
  · have hlt : bs.length < cur.toList.length := by simpa [a5] using h12
    rw [Array.toList_setIfInBounds, ← hl, List.take_add_one, List.take_set_of_le (Nat.le_refl _), a6, List.getElem?_set_self hlt]
    simp
def zrow : Array Value := Array.replicate 12 (Value.int .u8 0)
theorem mk12 (w : World) : (Instr.makeSlice 106 (.int .i64 0) (.int .i64 12)).run Try.prog w = .ok (.slice (some ⟨w.heap.size, 0, none⟩) 0 12) (w.alloc (.cells zrow 5)) := by kernel_rfl
attribute [local go_sem] Oper.semAt_some
set_option maxRecDepth 100000 in
set_option maxHeartbeats 8000000 in
theorem bytes_any (t : Tu) (hc : t.c % 4294967296 = t.c) (hd : t.d % 4294967296 = t.d) (w : World) :
    Calls Try.prog 79 #[tu t.a t.b t.c t.d] w fun e w' => ∃ b, e = .returned (.slice (some ⟨b, 0, none⟩) 12 12) ∧ SlB w' (some ⟨b, 0, none⟩) (tb t) ∧ Ext w w' := by
  refine (callsIn_wide (n := 5)).1 ?_
  refine callsIn_of_wp_marks Try.func79 rfl trivial ?_ rfl
  simp only [Try.ntmps79, List.size_toArray, List.length_cons, List.length_nil, Nat.reduceAdd, Nat.reduceSub, Array.replicate_succ, Array.replicate_zero, List.push_toArray, List.append_toArray, List.nil_append, List.cons_append]
  refine wpIn_wide.2 ?_
  have mk := mk12
  go_wp2_with (go_at_call 93; (with_reducible refine (parts_any t _).mono ?_); rintro e w2 ⟨rfl, rfl⟩)
  obtain ⟨W2, hW2⟩ : ∃ W2, ((((w.alloc (.cells #[.int .u32 t.a, .int .u32 t.b, .int .u16 t.c, .int .u16 t.d] 65)).alloc (.cells zrow 5)).alloc (.cells #[.slice (some ⟨w.heap.size + 1, 0, none⟩) 0 12] 106)).alloc (.cells #[.int .u32 t.a, .int .u32 t.b, .int .u16 t.c, .int .u16 t.d] 65)) = W2 := ⟨_, rfl⟩
  have g2 : Ext w W2 := by rw [← hW2]; exact Ext.al (Ext.al (Ext.al (Ext.al (Ext.rf _) _) _) _) _
  have hsz2 : W2.heap.size = w.heap.size + 4 := by rw [← hW2]; simp
  have ht2 : TuAt W2 (w.heap.size + 3) t := ⟨by rw [← hW2]; simp [go_sem], by unfold Lt; omega⟩
  have hB2 : BAt W2 (w.heap.size + 2) (w.heap.size + 1) [] := by
    refine ⟨by rw [← hW2]; simp [go_sem], by rw [← hW2]; simp [go_sem], by unfold Lt; omega, zrow, ?_, rfl, rfl⟩
    rw [← hW2]
    rw [Below.heap_alloc _ _ _ (by simp), Below.heap_alloc _ _ _ (by simp)]
    have := World.alloc_heap_new (w.alloc (.cells #[.int .u32 t.a, .int .u32 t.b, .int .u16 t.c, .int .u16 t.d] 65)) (.cells zrow 5)
    rwa [World.size_alloc] at this
  rw [hW2]
  clear hW2 mk
  refine (wpIn_wide (n := 5)).1 ?_
  refine wpIn_range rfl (by omega) (gf := 101) (lb := #[.pointer (some ⟨w.heap.size + 3, 0, none⟩)]) rfl trivial enters_parts
    (parts_iter _ t hc hd W2 (w.heap.size + 3) (fun k => k = w.heap.size + 1 ∨ k = w.heap.size + 2) ht2 (fun k e => by omega))
    (fun k e => e.elim) (fun k e => by omega) (fun _ => rfl)
    (fun i W => BAt W (w.heap.size + 2) (w.heap.size + 1) (((partsL t).take i).flatMap partN)) (fun _ _ => False)
    (fun i A B h hm => h.same hm.size (hm.same _ h.2.2.1 (by rintro (h | h | h) <;> first | exact h.elim | omega)) (hm.same _ (Nat.lt_of_lt_of_le (Nat.lt_succ_self _) (Nat.le_of_lt h.2.2.1)) (by rintro (h | h | h) <;> first | exact h.elim | omega)))
    (fun _ _ _ h _ => h) hB2
    (fun x a' W => a' = { tmps := #[tu t.a t.b t.c t.d, .pointer (some ⟨w.heap.size, 0, none⟩), .slice none 0 0, .pointer (some ⟨w.heap.size + 2, 0, none⟩), .int .u32 x.1, .int .i64 x.2, .slice (some ⟨w.heap.size + 1, 0, none⟩) 0 12, tu t.a t.b t.c t.d, .func (.func 101) #[] #[.pointer (some ⟨w.heap.size + 3, 0, none⟩)], .int .u32 x.1, .int .i64 x.2, undef, undef, undef, undef, undef, undef, undef, undef, undef, undef, undef, undef, undef, undef, undef], defers := [] })
    (fun x a' A B h hm => h)
    ?assign ?body ?done ?stop
  case assign =>
    rintro y i x W K hsz' hv hI hx hK
    gi_wp2
    repeat (rw [Oper.semAt_some _ _ _ (by intro c h; cases h)]; go_simp; gi_wp2)
    exact hK _ _ (Mv.refl _ _) hI rfl
  case body =>
    rintro y i x a' W hyl ⟨rr, hr⟩ hsz' hv hI hx rfl
    obtain ⟨n, q, rfl⟩ : ∃ n q, x = (n, q) := ⟨x.1, x.2, rfl⟩
    obtain ⟨bs, hbs⟩ : ∃ bs, ((partsL t).take i).flatMap partN = bs := ⟨_, rfl⟩
    obtain ⟨m, rfl, hm4, hm12, hnext⟩ : ∃ m : Nat, q = m ∧ m ≤ 4 ∧ bs.length + m ≤ 12 ∧ ((partsL t).take (i + 1)).flatMap partN = bs ++ byN n m := by
      subst hbs
      match i, hx with
      | 0, h => cases h; exact ⟨4, rfl, by omega, by simp [partsL, partN, byN], rfl⟩
      | 1, h => cases h; exact ⟨4, rfl, by omega, by simp [partsL, partN, byN], rfl⟩
      | 2, h => cases h; exact ⟨2, rfl, by omega, by simp [partsL, partN, byN], rfl⟩
      | 3, h => cases h; exact ⟨2, rfl, by omega, by simp [partsL, partN, byN], rfl⟩
    rw [hbs] at hI
    have HNX := Lib.hid hnext
    clear hbs hnext hx hr hv
    gi_wp2
    repeat (rw [Oper.semAt_some _ _ _ (by intro c h; cases h)]; go_simp; gi_wp2)
    gi_loopw [5] (fun a wr => ∃ q : Nat, q ≤ m ∧ a = .int .i64 ((q : Int) - 1) ∧ BAt wr (w.heap.size + 2) (w.heap.size + 1) (bs ++ (byN n m).take (m - q)) ∧ Mv (fun k => (k = w.heap.size + 1 ∨ k = w.heap.size + 2) ∨ W2.heap.size + 2 ≤ k) W wr) (fun a _ => (intOf a + 1).toNat)
    case atStart => exact ⟨m, Nat.le_refl _, rfl, by rw [Nat.sub_self]; simpa using hI, Mv.refl _ _⟩
    case round =>
      obtain ⟨q, hq, rfl, hB, hM⟩ := hrel
      clear hI
      by_cases h0 : q = 0
      · subst h0
        have HB := Lib.hid hB
        clear hB
        gi_wp2
        refine ⟨hM, ?_⟩
        show BAt wr _ _ (List.flatMap partN (List.take (i + 1) (partsL t)))
        rw [HNX.out]
        have := HB.out
        rwa [Nat.sub_zero, List.take_of_length_le (by rw [byN_len]; omega)] at this
      · obtain ⟨j, rfl⟩ : ∃ j, q = j + 1 := ⟨q - 1, by omega⟩
        have hb0 : decide ((0 : Int) ≤ ((j + 1 : Nat) : Int) - 1) = true := decide_eq_true (by omega)
        have HB := Lib.hid hB
        have HM := Lib.hid hM
        obtain ⟨b1, b2, b3, -⟩ := hB
        clear hM
        obtain ⟨L, hL⟩ : ∃ L, (bs ++ (byN n m).take (m - (j + 1))).length = L := ⟨_, rfl⟩
        rw [hL] at b1
        have HL := Lib.hid hL
        clear hL hB2 ht2
        have hL12 : L < 12 := by rw [← HL.out, List.length_append, List.length_take]; omega
        have hLc : L + 1 ≤ 12 := by omega
        gi_wp2
        repeat (rw [Oper.semAt_some _ _ _ (by intro c h; cases h)]; go_simp; gi_wp2)
        rw [show (((j + 1 : Nat) : Int) - 1) = j by omega]
        go_wp2_with (fail)
        refine wp_region_W (F := _) 8 (fun k => k = w.heap.size + 1) (fun _ => trivial) (by kernel_rfl) (by kernel_rfl) ?_
        obtain ⟨W1, hW1⟩ : ∃ W1, wr.drew = W1 := ⟨_, rfl⟩
        have g1 : Ext wr W1 := by rw [← hW1]; exact Ext.dr (Ext.rf _)
        rw [hW1]
        clear hW1
        have lt1 : Lt (w.heap.size + 2) W1 := Nat.lt_of_lt_of_le b3 g1.size
        have hBL : BAt W1 (w.heap.size + 2) (w.heap.size + 1) (bs ++ (byN n m).take (m - (j + 1))) := HB.out.same g1.size (g1.block _ b3) (g1.block _ (Nat.lt_of_lt_of_le (Nat.lt_succ_self _) (Nat.le_of_lt b3)))
        have d1 : W1.cell? ⟨w.heap.size + 2, 0, none⟩ = some (.slice (some ⟨w.heap.size + 1, 0, none⟩) L 12) := (g1.cell (p := ⟨w.heap.size + 2, 0, none⟩) b3).trans b1
        have hj4 : j < 4 := by omega
        refine withW (N := 9) (R := SchB) (E := ((Try.f79.body.bind (findR 8)).getD #[])) (by kernel_rfl) schB (by kernel_rfl) fun hS => ?_
        refine takeW (N := 9) (k := 0) (l := [7, 8]) (v := .slice (some ⟨w.heap.size + 1, 0, none⟩) L 12) hS.1 (hS.2.1 0 (by decide)) (hS.2.2.1 0 (by decide)) (hS.2.2.2.1 0 [7, 8] (by decide)) rfl (by decide) rfl (by kernel_rfl) (load_bs_W d1 lt1 (by omega) _ _ _ _ _ _ _ (by kernel_rfl)) ?_
        refine takeW (N := 9) (k := 1) (l := [4, 5, 6, 7, 8]) (v := .int .u32 n) hS.1 (hS.2.1 1 (by decide)) (hS.2.2.1 1 (by decide)) (hS.2.2.2.1 1 [4, 5, 6, 7, 8] (by decide)) rfl (by decide) rfl (by kernel_rfl) (fun _ _ => by kernel_rfl) ?_
        refine takeW (N := 9) (k := 2) (l := [3, 4, 5, 6, 7, 8]) (v := .int .i64 (j : Nat)) hS.1 (hS.2.1 2 (by decide)) (hS.2.2.1 2 (by decide)) (hS.2.2.2.1 2 [3, 4, 5, 6, 7, 8] (by decide)) rfl (by decide) rfl (by kernel_rfl) (fun _ _ => by kernel_rfl) ?_
        refine takeW (N := 9) (k := 3) (l := [4, 5, 6, 7, 8]) (v := .int .i64 ((8 * j : Nat) : Int)) hS.1 (hS.2.1 3 (by decide)) (hS.2.2.1 3 (by decide)) (hS.2.2.2.1 3 [4, 5, 6, 7, 8] (by decide)) rfl (by decide) rfl (by kernel_rfl) (fun w' _ => mul8_run hj4 _ _ _ _ _ _ _ _ (by kernel_rfl) rfl w') ?_
        refine takeW (N := 9) (k := 4) (l := [5, 6, 7, 8]) (v := .int .u32 (n / 256 ^ j)) hS.1 (hS.2.1 4 (by decide)) (hS.2.2.1 4 (by decide)) (hS.2.2.2.1 4 [5, 6, 7, 8] (by decide)) rfl (by decide) rfl (by kernel_rfl) (fun w' _ => shr8_run hj4 _ _ _ _ 3 3 _ _ _ _ (by kernel_rfl) (by kernel_rfl) w') ?_
        refine takeW (N := 9) (k := 5) (l := [6, 7, 8]) (v := .int .u8 (n / 256 ^ j % 256)) hS.1 (hS.2.1 5 (by decide)) (hS.2.2.1 5 (by decide)) (hS.2.2.2.1 5 [6, 7, 8] (by decide)) rfl (by decide) rfl (by kernel_rfl) (fun w' _ => conv8_run _ _ _ _ _ _ _ (by kernel_rfl) w') ?_
        refine makeW (N := 9) (k := 6) hS.2.2.2.2.1 rfl (by kernel_rfl) (build_run (v := n / 256 ^ j % 256) _ _ _ _ _ _ _ (by kernel_rfl) _) (.inr (Mv.of_ext (Ext.al (Ext.rf _) _))) ?_
        obtain ⟨W3, hW3⟩ : ∃ W3, W1.alloc (.cells #[.int .u8 (n / 256 ^ j % 256)] 5) = W3 := ⟨_, rfl⟩
        have g3 : Ext W1 W3 := by rw [← hW3]; exact Ext.al (Ext.rf _) _
        have cA : W3.cell? ⟨W1.heap.size, 0, none⟩ = some (.int .u8 (n / 256 ^ j % 256)) := by rw [← hW3]; simp [go_sem]
        rw [hW3]
        clear hW3
        have hB3 : BAt W3 (w.heap.size + 2) (w.heap.size + 1) (bs ++ (byN n m).take (m - (j + 1))) := hBL.same g3.size (g3.block _ lt1) (g3.block _ (Nat.lt_of_lt_of_le (Nat.lt_succ_self _) (Nat.le_of_lt lt1)))
        have hM3 : Mv (fun k => (k = w.heap.size + 1 ∨ k = w.heap.size + 2) ∨ W2.heap.size + 2 ≤ k) W W3 := (HM.out.tr g1).tr g3
        obtain ⟨f1, f2, f3, cur, f4, f5, f6⟩ := Lib.hid hB3
        have hc5 : L < cur.size := by rw [f5]; exact hL12
        refine makeW (N := 9) (k := 7) hS.2.2.2.2.2.1 rfl (by kernel_rfl) (app_run (u := cur[L]'hc5) cA hLc (by rw [cell_rowD]; unfold rowD; rw [f4]; exact Array.getElem?_eq_getElem hc5) (frozen_of_frz (by unfold frzD; rw [f4]) L) _ _ _ _ _ _ _ _ (by kernel_rfl) (by kernel_rfl)) (.inr (Mv.sc (C := fun k => k = w.heap.size + 1) rfl _ _ _ _ (Mv.refl _ _))) ?_
        refine skipW (N := 9) (k := 8) hS.2.2.2.2.2.2.1 rfl (by kernel_rfl) (store_run (B := w.heap.size + 2) (v := .slice (some ⟨w.heap.size + 1, 0, none⟩) (L + 1) 12) (u := .slice (some ⟨w.heap.size + 1, 0, none⟩) L 12) ?_ ?_ ⟨_, _, _, rfl⟩ _ _ _ _ _ _ _ _ (by kernel_rfl) (by kernel_rfl)) (.inl rfl) ?_
        rotate_left 2
        refine doneW hS.2.2.2.2.2.2.2 ?_
        have hB4 := BAt.push (v := n / 256 ^ j % 256) (by omega) hB3 HL.out hL12 (by rw [List.append_assoc, byN_take n m j (by omega)])
        have hM4 : Mv (fun k => (k = w.heap.size + 1 ∨ k = w.heap.size + 2) ∨ W2.heap.size + 2 ≤ k) W ((W3.setCells (w.heap.size + 1) (0 + L * 1) [.int .u8 (n / 256 ^ j % 256)]).setCell ⟨w.heap.size + 2, 0, none⟩ (.slice (some ⟨w.heap.size + 1, 0, none⟩) (L + 1) 12)) :=
          Mv.st _ (.inl (.inl (.inr rfl))) (Mv.sc (.inl (.inl rfl)) _ _ _ _ hM3)
        obtain ⟨W4, hW4⟩ : ∃ W4, ((W3.setCells (w.heap.size + 1) (0 + L * 1) [.int .u8 (n / 256 ^ j % 256)]).setCell ⟨w.heap.size + 2, 0, none⟩ (.slice (some ⟨w.heap.size + 1, 0, none⟩) (L + 1) 12)) = W4 := ⟨_, rfl⟩
        rw [hW4] at hB4 hM4 ⊢
        clear hW4 hS hB3 hM3 HM HB HNX hBL d1 f1 f2 f4 f5 f6 b1 b2
        have hw1 : IntKind.i64.wrap ((j : Int) - 1) = (j : Int) - 1 := by rw [IntKind.wrap_i64]; omega
        go_simp
        gi_wp2
        repeat (rw [Oper.semAt_some _ _ _ (by intro c h; cases h)]; go_simp; gi_wp2)
        exact ⟨⟨j, by omega, rfl, hB4, hM4⟩, by first | (simp [intOf]; done) | (simp [intOf]; omega)⟩
        · show (W3.setCell ⟨w.heap.size + 1, 0 + L * 1, none⟩ _).cell? _ = _
          rw [World.cell?_setCell_other _ _ _ _ (fun e => (show w.heap.size + 2 ≠ w.heap.size + 1 by omega) (by first | exact congrArg Addr.block e | exact (congrArg Addr.block e).symm))]
          have := hB3.1
          rwa [HL.out] at this
        · refine frozen_of_frz ?_ 0
          rw [frz_setCells]
          exact f2
  case done =>
    rintro W ⟨c1, c2, c3, cur, c4, c5, c6⟩ hv hK
    rw [List.take_length] at c1 c6
    change W.cell? _ = some (.slice _ (tb t).length 12) at c1
    change List.take (tb t).length _ = (tb t).map _ at c6
    rw [show (tb t).length = 12 from rfl] at c1 c6
    have c1' := c1
    go_wp2
    refine ⟨by simp, .inl ⟨_, _, rfl, run_takeDeferred hK, ?_⟩⟩
    refine ⟨_, results_tmp rfl _ _ _, ⟨_, rfl, ?_, ?_⟩⟩
    · intro k hk
      have hB1 : w.heap.size + 1 < W.heap.size := Nat.lt_of_lt_of_le (Nat.lt_succ_self _) (Nat.le_of_lt c3)
      have hmp : Mv (fun k => k = W2.heap.size) W (W.putObj W2.heap.size (.deferred none)) := Mv.put _ _ _ rfl
      have hk' : k < 12 := hk
      refine ⟨w.heap.size + 1, 0, rfl, Nat.lt_of_lt_of_le hB1 hmp.size, ?_⟩
      rw [cell_rowD, rowD_same (hmp.same _ hB1 (by omega))]
      unfold rowD
      rw [c4]
      have e1 : (List.take 12 cur.toList)[k]? = ((tb t).map (Value.int .u8))[k]? := by rw [c6]
      rw [List.getElem?_take, if_pos hk', Array.getElem?_toList, List.getElem?_map, List.getElem?_eq_getElem hk] at e1
      rw [Nat.zero_add]
      exact e1
    · have hE2 : Ext w W := Mv.ext_of g2 hv (fun k h => by rcases h with (h | h) | h <;> omega)
      exact Mv.ext_of hE2 (Mv.put (C := fun k => k = W2.heap.size) _ _ _ rfl) (fun k h => by omega)
  case stop => intro _ _ h; exact h.elim

end Go.Proofs.Ytedamnocolfmlaa

/- A tuple's bucket; a bucket's connections, and the others. -/
namespace Go.Proofs.Ytedamnocolfmlaa
open Go.RowKit

def TuR (t : Tu) : Prop := (0 ≤ t.a ∧ t.a < 4294967296) ∧ (0 ≤ t.b ∧ t.b < 4294967296) ∧ (0 ≤ t.c ∧ t.c < 65536) ∧ (0 ≤ t.d ∧ t.d < 65536)
def sumT (t : Tu) : Int := goL 0 (tb t)
def ofT (t : Tu) : Int := fold (sumT t)
theorem sumT_bd (t : Tu) : 0 ≤ sumT t ∧ sumT t < 256 := goL_bd _ _ (by omega) (by omega)
theorem tb_len (t : Tu) : (tb t).length = 12 := rfl
theorem ofT_bd (t : Tu) : 0 ≤ ofT t ∧ ofT t < 16 := fold_bd _ (sumT_bd t).1 (sumT_bd t).2
def inB (k : Int) (x : Co) : Bool := ofT x.t == k
theorem go12 (t : Tu) (p : Option Addr) (w : World) (hb : SlB w p (tb t)) : Calls Try.prog 78 #[.int .u8 0, .slice p 12 12] w fun e w' => e = .returned (.int .u8 (sumT t)) ∧ Ext w w' := go_any 0 (tb t) p 12 w hb (by rw [tb_len]; omega)
set_option maxHeartbeats 1000000 in
theorem sum_any (t : Tu) (hr : TuR t) (w : World) :
    Calls Try.prog 60 #[tu t.a t.b t.c t.d] w fun e w' => e = .returned (.int .u8 (sumT t)) ∧ Ext w w' := by
  have hc : t.c % 4294967296 = t.c := by obtain ⟨-, -, h, -⟩ := hr; omega
  have hd : t.d % 4294967296 = t.d := by obtain ⟨-, -, -, h⟩ := hr; omega
  have HC := Lib.hid hc
  have HD := Lib.hid hd
  clear hc hd hr
  go_enter Try.func60, Try.ntmps60
  go_wp2_with (first | (go_at_call 79; (with_reducible refine (bytes_any t HC.out HD.out _).mono ?_); rintro e w1 ⟨b, rfl, hb, hE1⟩; have HB := Lib.hid hb; clear hb) | (go_at_call 78; (with_reducible refine (go12 t _ _ HB.out).mono ?_); rintro e w2 ⟨rfl, hE2⟩))
  go_ret
  refine ⟨rfl, ?_⟩
  exact (Ext.tr (Ext.al (Ext.rf _) _) hE1).tr hE2
set_option maxHeartbeats 1000000 in
theorem of_any (t : Tu) (hr : TuR t) (w : World) :
    Calls Try.prog 41 #[tu t.a t.b t.c t.d] w fun e w' => e = .returned (.int .i64 (ofT t)) ∧ Ext w w' := by
  have HR := Lib.hid hr
  clear hr
  go_enter Try.func41, Try.ntmps41
  go_wp2_with (first | (go_at_call 60; (with_reducible refine (sum_any t HR.out _).mono ?_); rintro e w1 ⟨rfl, hE1⟩) | (go_at_call 59; (with_reducible refine (folded_any (sumT t) _ (sumT_bd t).1 (sumT_bd t).2).mono ?_); rintro e w2 ⟨rfl, rfl⟩))
  go_ret
  exact ⟨rfl, Ext.tr (Ext.al (Ext.rf _) _) hE1⟩

set_option maxHeartbeats 1000000 in
theorem cof1_any (x : Co) (hr : TuR x.t) (k : Int) (bk : Nat) (w : World) (lk : Lt bk w) (hk : w.cell? ⟨bk, 0, none⟩ = some (.int .i64 k)) :
    Calls Try.prog 40 #[.agg #[.int .u32 x.t.a, .int .u32 x.t.b, .int .u16 x.t.c, .int .u16 x.t.d, .int .i64 x.s, .int .i64 x.l], .pointer (some ⟨bk, 0, none⟩)] w fun e w' => e = .returned (.bool (inB k x)) ∧ Ext w w' := by
  have HR := Lib.hid hr
  clear hr
  go_enter Try.func40, Try.ntmps40
  go_upto_region 1 with (fail)
  obtain ⟨W0, hW⟩ : ∃ W0, w.alloc (.cells #[.int .u32 x.t.a, .int .u32 x.t.b, .int .u16 x.t.c, .int .u16 x.t.d, .int .i64 x.s, .int .i64 x.l] 67) = W0 := ⟨_, rfl⟩
  have e0 : Ext w W0 := by rw [← hW]; exact Ext.al (Ext.rf _) _
  have c0 : W0.cell? ⟨w.heap.size, 0, none⟩ = some (.int .u32 x.t.a) := by rw [← hW]; simp [go_sem]
  have c1 : W0.cell? ⟨w.heap.size, 1, none⟩ = some (.int .u32 x.t.b) := by rw [← hW]; simp [go_sem]
  have c2 : W0.cell? ⟨w.heap.size, 2, none⟩ = some (.int .u16 x.t.c) := by rw [← hW]; simp [go_sem]
  have c3 : W0.cell? ⟨w.heap.size, 3, none⟩ = some (.int .u16 x.t.d) := by rw [← hW]; simp [go_sem]
  have l0 : Lt w.heap.size W0 := by rw [← hW]; simp [Lt]
  have lk0 : Lt bk W0 := Nat.lt_of_lt_of_le lk e0.size
  have hk0 : W0.cell? ⟨bk, 0, none⟩ = some (.int .i64 k) := (e0.cell (p := ⟨bk, 0, none⟩) lk).trans hk
  rw [hW]
  clear hW hk
  generalize w.heap.size = B at *
  refine wp_region_later (by kernel_rfl) (by kernel_rfl) ?_; (repeat (go_big_quiet_step ((go_at_call 41; exact calls_later (of_any x.t HR.out _))))); refine wpQuiet_nil ?_; intro d
  have hd := later_ext d
  go_wp2
  go_ret
  exact ⟨rfl, e0.tr hd⟩
theorem cof1_cl (x : Co) (hr : TuR x.t) (k : Int) (bk : Nat) (w : World) (lk : Lt bk w) (hk : w.cell? ⟨bk, 0, none⟩ = some (.int .i64 k)) :
    Calls Try.prog 40 (#[.agg #[.int .u32 x.t.a, .int .u32 x.t.b, .int .u16 x.t.c, .int .u16 x.t.d, .int .i64 x.s, .int .i64 x.l]] ++ #[.pointer (some ⟨bk, 0, none⟩)]) w fun e w' => e = .returned (.bool (inB k x)) ∧ Ext w w' := by
  rw [show (#[Value.agg #[.int .u32 x.t.a, .int .u32 x.t.b, .int .u16 x.t.c, .int .u16 x.t.d, .int .i64 x.s, .int .i64 x.l]] ++ #[Value.pointer (some ⟨bk, 0, none⟩)] : Array Value) = #[.agg #[.int .u32 x.t.a, .int .u32 x.t.b, .int .u16 x.t.c, .int .u16 x.t.d, .int .i64 x.s, .int .i64 x.l], .pointer (some ⟨bk, 0, none⟩)] from rfl]
  exact cof1_any x hr k bk w lk hk
theorem enters_cof : ∀ args w, (callFunc 40 args).run Try.prog w = .ok (.enter 40 args) w := enters_of Try.func40 (by kernel_rfl) rfl

set_option maxRecDepth 20000 in
set_option maxHeartbeats 2000000 in
theorem cof_any (p : Option Addr) (xs : List Co) (c : Nat) (k : Int) (w : World) (hs : SlC w p xs) (hl : xs.length ≤ 1000) (hr : ∀ x ∈ xs, TuR x.t) :
    Calls Try.prog 21 #[.slice p xs.length c, .int .i64 k] w fun e w' => ∃ v, e = .returned v ∧ w'.ownsRow w.heap.size 67 6 v (xs.filter (inB k)).length (flC (xs.filter (inB k))) ∧ Ext w w' := by
  have HR := Lib.hid hr
  clear hr
  go_enter Try.func21, Try.ntmps21
  go_upto_region 1 with (fail)
  obtain ⟨W0, hW⟩ : ∃ W0, w.alloc (.cells #[.int .i64 k] 3) = W0 := ⟨_, rfl⟩
  have g0 : Ext w W0 := by rw [← hW]; exact Ext.al (Ext.rf _) _
  have ck : W0.cell? ⟨w.heap.size, 0, none⟩ = some (.int .i64 k) := by rw [← hW]; simp [go_sem]
  have lk : Lt w.heap.size W0 := by rw [← hW]; simp [Lt]
  have s0 := hs.ext g0
  have hsz : w.heap.size ≤ W0.heap.size := g0.size
  rw [hW]
  clear hW hs
  have HCL := Lib.hid (fun (x : Co) (W : World) (hm : x ∈ xs) (hE : Ext W0 W) => cof1_cl x (HR.out x hm) k _ W (Nat.lt_of_lt_of_le lk hE.size) ((hE.cell (p := ⟨w.heap.size, 0, none⟩) lk).trans ck))
  go_wp2_with (go_at_call 39; go_must (with_reducible refine (parted_any 40 #[.pointer (some ⟨w.heap.size, 0, none⟩)] enters_cof (inB k) p xs c _ s0 hl HCL.out).mono ?_); rintro e w' ⟨v1, v2, rfl, ⟨o1, o2, o3⟩, g1⟩; have O1 := Lib.hid o1; have O2 := Lib.hid o2; clear o1 o2 o3)
  exact bodyPost_ret (v := v1) (by simp [results, Try.results21, go_sem]) rfl ⟨v1, rfl, ownsRow_le O1.out hsz, g0.tr g1⟩

end Go.Proofs.Ytedamnocolfmlaa

/- Watch: who holds, who takes a bucket. -/
namespace Go.Proofs.Ytedamnocolfmlaa
open Go.RowKit

def takesM (m : Md) : Bool := m.kind == 1 || m.kind == 2
set_option maxHeartbeats 400000 in
theorem takes_any (m : Md) (w : World) : Calls Try.prog 23 #[.agg (mdv m)] w fun e w' => e = .returned (.bool (takesM m)) ∧ Ext w w' := by
  cases h1 : (m.kind == 1) <;> cases h2 : (m.kind == 2)
  all_goals
    go_enter Try.func23, Try.ntmps23
    go_wp2
    go_ret
    exact ⟨ret_bool (by unfold takesM; rw [h1, h2]; rfl), by (repeat (first | with_reducible exact Ext.rf _ | with_reducible assumption | with_reducible refine Ext.al ?_ _ | with_reducible refine Ext.dr ?_ | with_reducible refine Ext.dn ?_ _ | ((with_reducible refine Ext.st _ ?_ ?_); focus (first | omega | (simp; omega) | simp)) | with_reducible refine Ext.tr ?_ (by assumption) | with_reducible refine Ext.tr ?_ (up_ext (by assumption)) | with_reducible refine Ext.of (by assumption) ?_))⟩
/-- The closures of Takers and Holders. -/
theorem enters_takers1 : ∀ args w, (callFunc 22 args).run Try.prog w = .ok (.enter 22 args) w := enters_of Try.func22 (by kernel_rfl) rfl
theorem enters_holders1 : ∀ args w, (callFunc 20 args).run Try.prog w = .ok (.enter 20 args) w := enters_of Try.func20 (by kernel_rfl) rfl
set_option maxRecDepth 100000 in
set_option maxHeartbeats 1000000 in
theorem takers1_any (a : Ag) (k : Nat) (hk : k < 16) (B : Nat) (w : World) (hc : w.cell? ⟨B, 0, none⟩ = some (.int .i64 k)) (lB : Lt B w) :
    Calls Try.prog 22 (#[.agg (agv a)] ++ #[.pointer (some ⟨B, 0, none⟩)]) w fun e w' => e = .returned (.bool (takesM (a.md k))) ∧ Ext w w' := by
  have hk' : (k : Int) < 16 := by omega
  have hfit : 2 + k * 4 + 4 ≤ 67 := by omega
  go_enter Try.func22, Try.ntmps22
  go_wp2_with (go_at_call 23; (with_reducible refine (takes_any _ _).mono ?_); rintro e w1 ⟨rfl, g1⟩)
  go_ret
  exact ⟨rfl, by (repeat (first | with_reducible exact Ext.rf _ | with_reducible assumption | with_reducible refine Ext.al ?_ _ | with_reducible refine Ext.dr ?_ | with_reducible refine Ext.dn ?_ _ | ((with_reducible refine Ext.st _ ?_ ?_); focus (first | omega | (simp; omega) | simp)) | with_reducible refine Ext.tr ?_ (by assumption) | with_reducible refine Ext.tr ?_ (up_ext (by assumption)) | with_reducible refine Ext.of (by assumption) ?_))⟩
set_option maxRecDepth 100000 in
set_option maxHeartbeats 1000000 in
theorem wtakers_any (x : Wd) (k : Int) (w : World) :
    Calls Try.prog 9 #[.agg (wdv x), .int .i64 k] w fun e w' => ∃ v, e = .returned v ∧ w'.ownsRow w.heap.size 3 1 v (thoseL x k (fun a => takesM (a.md k.toNat))).length (inC (thoseL x k (fun a => takesM (a.md k.toNat)))) ∧ Ext w w' := by
  have H := Lib.hid (fun W (hb : Lt (w.heap.size + 1) W) (hc : W.cell? ⟨w.heap.size + 1, 0, none⟩ = some (.int .i64 k)) => wthose_any x k 22 #[.pointer (some ⟨w.heap.size + 1, 0, none⟩)] (fun a => takesM (a.md k.toNat)) W
    (fun hk i V hi hE => by
      have e : ((k.toNat : Nat) : Int) = k := Int.toNat_of_nonneg hk.1
      exact takers1_any (x.ag i) k.toNat (by omega) (w.heap.size + 1) V (by rw [e]; exact (hE.cell (p := ⟨w.heap.size + 1, 0, none⟩) hb).trans hc) (Nat.lt_of_lt_of_le hb hE.size)) enters_takers1)
  go_enter Try.func9, Try.ntmps9
  go_wp2_with (go_at_call 19; (with_reducible refine (H.out _ (by simp [go_sem]) (by simp [go_sem])).mono ?_); rintro e w1 ⟨v, rfl, o1, g1⟩)
  go_ret
  exact ⟨v, rfl, ownsRow_le o1 (by simp; omega), by (repeat (first | with_reducible exact Ext.rf _ | with_reducible assumption | with_reducible refine Ext.al ?_ _ | with_reducible refine Ext.dr ?_ | with_reducible refine Ext.dn ?_ _ | ((with_reducible refine Ext.st _ ?_ ?_); focus (first | omega | (simp; omega) | simp)) | with_reducible refine Ext.tr ?_ (by assumption) | with_reducible refine Ext.tr ?_ (up_ext (by assumption)) | with_reducible refine Ext.of (by assumption) ?_))⟩
theorem ownsRow_num {w : World} {base : Nat} {e : TypeId} {size n m c : Nat} {p : Option Addr} {xs : List Value} (h : w.ownsRow base e size (.slice p m c) n xs) : m = n := by
  rcases h.2 with ⟨h, h0⟩ | ⟨g, cap, cur, h, _⟩
  · cases h; omega
  · cases h; rfl
def holdB (k : Int) (a : Ag) : Bool := decide (0 < (a.xs.filter (inB k)).length)
set_option maxRecDepth 100000 in
set_option maxHeartbeats 1000000 in
theorem holders1_any (a : Ag) (k : Int) (B : Nat) (w : World) (hs : SlC w a.p a.xs) (hl : a.xs.length ≤ 1000) (hr : ∀ c ∈ a.xs, TuR c.t) (hc : w.cell? ⟨B, 0, none⟩ = some (.int .i64 k)) (lB : Lt B w) :
    Calls Try.prog 20 (#[.agg (agv a)] ++ #[.pointer (some ⟨B, 0, none⟩)]) w fun e w' => e = .returned (.bool (holdB k a)) ∧ Ext w w' := by
  have H := Lib.hid (fun W (hE : Ext w W) => cof_any a.p a.xs a.c k W (hs.ext hE) hl hr)
  clear hr hs
  go_enter Try.func20, Try.ntmps20
  go_wp2_with (go_at_call 21; (with_reducible refine (H.out _ (by (repeat (first | with_reducible exact Ext.rf _ | with_reducible assumption | with_reducible refine Ext.al ?_ _ | with_reducible refine Ext.dr ?_ | with_reducible refine Ext.dn ?_ _ | ((with_reducible refine Ext.st _ ?_ ?_); focus (first | omega | (simp; omega) | simp)) | with_reducible refine Ext.tr ?_ (by assumption) | with_reducible refine Ext.tr ?_ (up_ext (by assumption)) | with_reducible refine Ext.of (by assumption) ?_)))).mono ?_); rintro e w1 ⟨v, rfl, o1, g1⟩; obtain ⟨q, n, c, rfl⟩ := ownsRow_slice o1; have HO := Lib.hid o1; clear o1)
  go_ret
  have hn : n = (a.xs.filter (inB k)).length := ownsRow_num HO.out
  exact ⟨ret_bool (by rw [hn]; unfold holdB; simp), by (repeat (first | with_reducible exact Ext.rf _ | with_reducible assumption | with_reducible refine Ext.al ?_ _ | with_reducible refine Ext.dr ?_ | with_reducible refine Ext.dn ?_ _ | ((with_reducible refine Ext.st _ ?_ ?_); focus (first | omega | (simp; omega) | simp)) | with_reducible refine Ext.tr ?_ (by assumption) | with_reducible refine Ext.tr ?_ (up_ext (by assumption)) | with_reducible refine Ext.of (by assumption) ?_))⟩
set_option maxRecDepth 100000 in
set_option maxHeartbeats 1000000 in
theorem wholders_any (x : Wd) (k : Int) (w : World) (hx : ∀ i, i < 6 → SlC w (x.ag i).p (x.ag i).xs ∧ (x.ag i).xs.length ≤ 1000 ∧ ∀ c ∈ (x.ag i).xs, TuR c.t) :
    Calls Try.prog 8 #[.agg (wdv x), .int .i64 k] w fun e w' => ∃ v, e = .returned v ∧ w'.ownsRow w.heap.size 3 1 v (thoseL x k (holdB k)).length (inC (thoseL x k (holdB k))) ∧ Ext w w' := by
  have H := Lib.hid (fun W (hW : Ext w W) (hb : Lt (w.heap.size + 1) W) (hc : W.cell? ⟨w.heap.size + 1, 0, none⟩ = some (.int .i64 k)) => wthose_any x k 20 #[.pointer (some ⟨w.heap.size + 1, 0, none⟩)] (holdB k) W
    (fun hk i V hi hE => holders1_any (x.ag i) k (w.heap.size + 1) V ((hx i hi).1.ext (hW.tr hE)) (hx i hi).2.1 (hx i hi).2.2 ((hE.cell (p := ⟨w.heap.size + 1, 0, none⟩) hb).trans hc) (Nat.lt_of_lt_of_le hb hE.size)) enters_holders1)
  clear hx
  go_enter Try.func8, Try.ntmps8
  go_wp2_with (go_at_call 19; (with_reducible refine (H.out _ (by (repeat (first | with_reducible exact Ext.rf _ | with_reducible assumption | with_reducible refine Ext.al ?_ _ | with_reducible refine Ext.dr ?_ | with_reducible refine Ext.dn ?_ _ | ((with_reducible refine Ext.st _ ?_ ?_); focus (first | omega | (simp; omega) | simp)) | with_reducible refine Ext.tr ?_ (by assumption) | with_reducible refine Ext.tr ?_ (up_ext (by assumption)) | with_reducible refine Ext.of (by assumption) ?_))) (by simp [go_sem]) (by simp [go_sem])).mono ?_); rintro e w1 ⟨v, rfl, o1, g1⟩)
  go_ret
  exact ⟨v, rfl, ownsRow_le o1 (by simp; omega), by (repeat (first | with_reducible exact Ext.rf _ | with_reducible assumption | with_reducible refine Ext.al ?_ _ | with_reducible refine Ext.dr ?_ | with_reducible refine Ext.dn ?_ _ | ((with_reducible refine Ext.st _ ?_ ?_); focus (first | omega | (simp; omega) | simp)) | with_reducible refine Ext.tr ?_ (by assumption) | with_reducible refine Ext.tr ?_ (up_ext (by assumption)) | with_reducible refine Ext.of (by assumption) ?_))⟩

end Go.Proofs.Ytedamnocolfmlaa
