/- What law 21's wakes asks, reckoned: plain values, and the contracts at them. -/
import Derived.Test.YtlacidecomflkaaP20
set_option linter.unusedSimpArgs false
set_option linter.unusedVariables false
namespace Go.Proofs.Ytlacidecomflkaa
open Go.RowKit

def z0 : Nat → Int := fun _ => 0
def mn : Nat → Int := fun _ => -1
def xs8 : List Sh := addX z0 [0] 1
def xs16 : List Sh := fillX mn [2, 4]
def pr : Nat → Int := apply z0 xs8
def xb8 : List Sh := remX pr [0, 1] 1
theorem k_add : addE z0 [0] 1 = 0 := by kernel_rfl
theorem k_add0 : addE z0 [0] 0 = 201 := by kernel_rfl
theorem k_rem0 : remE z0 [0] 0 = 200 := by kernel_rfl
theorem k_rem2 : remE z0 [0] 2 = 202 := by kernel_rfl
theorem k_fill0 : fillE z0 [] = 200 := by kernel_rfl
theorem k_fill : fillE mn [2, 4] = 0 := by kernel_rfl
theorem k_rem : remE pr [0, 1] 1 = 0 := by kernel_rfl
theorem k_xs8 : xs8.length = 8 := by kernel_rfl
theorem k_xs16 : xs16.length = 16 := by kernel_rfl
theorem k_xb8 : xb8.length = 8 := by kernel_rfl
theorem k_x0 : xs8[0]? = some ⟨15, 1⟩ := by kernel_rfl
theorem k_x7 : xs8[7]? = some ⟨8, 1⟩ := by kernel_rfl
theorem k_y0 : xs16[0]?.map (·.t) = some 2 := by kernel_rfl
theorem k_y1 : xs16[1]?.map (·.t) = some 4 := by kernel_rfl
theorem k_pick : pick pr [0, 1] = 0 := by kernel_rfl
theorem k_pickB : pickB pr [0, 1] = true := by kernel_rfl
theorem k_pick0 : pickB z0 [] = false := by kernel_rfl
theorem k_back : eqO (apply pr xb8) z0 = true := by kernel_rfl
theorem k_load : load pr 1 = 8 := by kernel_rfl
theorem k_sp : spread pr [0, 1] = 0 := by kernel_rfl
theorem k_sp0 : spread z0 [0, 1] = 16 := by kernel_rfl
theorem k_r1 : rightP z0 [0, 5] = true := by kernel_rfl
theorem k_r2 : rightP z0 [1, 0] = false := by kernel_rfl
theorem sl_lit1 (a : Int) (t : TypeId) (W : World) : Sl (W.alloc (.cells #[.int .i64 a] t)) (some ⟨W.heap.size, 0, none⟩) [a] := fun k hk => by
  obtain rfl : k = 0 := by simpa using hk
  exact ⟨W.heap.size, 0, rfl, by simp, by rw [cell_rowD, rowD_new]; rfl⟩
theorem sl_lit2 (a b : Int) (t : TypeId) (W : World) : Sl (W.alloc (.cells #[.int .i64 a, .int .i64 b] t)) (some ⟨W.heap.size, 0, none⟩) [a, b] := fun k hk => by
  have : k < 2 := by simpa using hk
  obtain rfl | rfl : k = 0 ∨ k = 1 := by omega
  · exact ⟨W.heap.size, 0, rfl, by simp, by rw [cell_rowD, rowD_new]; rfl⟩
  · exact ⟨W.heap.size, 0, rfl, by simp, by rw [cell_rowD, rowD_new]; rfl⟩
/-- A plan's return, its slice laid open. -/
def PlanSl (xs : List Sh) (er : Int) (w : World) (e : Ending) (w' : World) : Prop := ∃ p c, e = .returned (.tuple #[.slice p xs.length c, .int .i64 er]) ∧ xs.length ≤ c ∧ SlS w' p xs ∧ Ext w w'
theorem PlanRet.sl {xs : List Sh} {er : Int} {w : World} {e : Ending} {w' : World} (h : PlanRet xs er w e w') : PlanSl xs er w e w' := by
  obtain ⟨v, rfl, h1, h2⟩ := h
  obtain ⟨p, c, rfl, h3, h4⟩ := slS_own h1
  exact ⟨p, c, rfl, h3, h4, h2⟩
abbrev A1 (W : World) (a : Int) : World := W.alloc (.cells #[.int .i64 a] 3)
abbrev A2 (W : World) (a b : Int) : World := W.alloc (.cells #[.int .i64 a, .int .i64 b] 3)
theorem w_add (o : Nat → Int) (a who : Int) (W : World) : Calls Try.prog 14 #[.agg (ov o), .slice (some ⟨W.heap.size, 0, none⟩) 1 1, .int .i64 who] (W.alloc (.cells #[.int .i64 a] 3)) (PlanSl (addX o [a] who) (addE o [a] who) (W.alloc (.cells #[.int .i64 a] 3))) :=
  (add_any o _ [a] 1 who _ (sl_lit1 a 3 W) (by simp) (by simp)).mono fun _ _ h => h.sl
theorem w_rem1 (o : Nat → Int) (a who : Int) (W : World) : Calls Try.prog 16 #[.agg (ov o), .slice (some ⟨W.heap.size, 0, none⟩) 1 1, .int .i64 who] (W.alloc (.cells #[.int .i64 a] 3)) (PlanSl (remX o [a] who) (remE o [a] who) (W.alloc (.cells #[.int .i64 a] 3))) :=
  (remove_any o _ [a] 1 who _ (sl_lit1 a 3 W) (by simp) (by simp)).mono fun _ _ h => h.sl
theorem w_rem2 (o : Nat → Int) (a b who : Int) (W : World) : Calls Try.prog 16 #[.agg (ov o), .slice (some ⟨W.heap.size, 0, none⟩) 2 2, .int .i64 who] (W.alloc (.cells #[.int .i64 a, .int .i64 b] 3)) (PlanSl (remX o [a, b] who) (remE o [a, b] who) (W.alloc (.cells #[.int .i64 a, .int .i64 b] 3))) :=
  (remove_any o _ [a, b] 2 who _ (sl_lit2 a b 3 W) (by simp) (by simp)).mono fun _ _ h => h.sl
theorem w_fill0 (o : Nat → Int) (W : World) : Calls Try.prog 18 #[.agg (ov o), .slice none 0 0] W (PlanSl (fillX o []) (fillE o []) W) :=
  (fill_any o none [] 0 W (Sl.nil _ _) (by simp) (by simp)).mono fun _ _ h => h.sl
theorem w_fill2 (o : Nat → Int) (a b : Int) (W : World) : Calls Try.prog 18 #[.agg (ov o), .slice (some ⟨W.heap.size, 0, none⟩) 2 2] (W.alloc (.cells #[.int .i64 a, .int .i64 b] 3)) (PlanSl (fillX o [a, b]) (fillE o [a, b]) (W.alloc (.cells #[.int .i64 a, .int .i64 b] 3))) :=
  (fill_any o _ [a, b] 2 _ (sl_lit2 a b 3 W) (by simp) (by simp)).mono fun _ _ h => h.sl

end Go.Proofs.Ytlacidecomflkaa
