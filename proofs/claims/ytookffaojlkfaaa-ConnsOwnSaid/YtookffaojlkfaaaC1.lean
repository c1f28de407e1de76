/- Tuples: how they are compared. -/
import Derived.Test.YtookffaojlkfaaaX
set_option linter.unusedSimpArgs false
set_option linter.unusedVariables false
namespace Go.Proofs.Ytookffaojlkfaaa
open Go.RowKit

structure Tu where
  a : Int
  b : Int
  c : Int
  d : Int
  deriving DecidableEq
abbrev tu (a b c d : Int) : Value := .agg #[.int .u32 a, .int .u32 b, .int .u16 c, .int .u16 d]
abbrev Tu.v (t : Tu) : Value := tu t.a t.b t.c t.d
def cmpI (x y : Int) : Int := if x < y then -1 else if y < x then 1 else 0
/-- The first that is not nought, of the last r of four. -/
def orR (f : Nat → Int) : Nat → Int
  | 0 => 0
  | r + 1 => if f (3 - r) = 0 then orR f r else f (3 - r)
def four (x y z t : Int) : Nat → Int
  | 0 => x
  | 1 => y
  | 2 => z
  | _ => t
def cmpT (s t : Tu) : Int := orR (four (cmpI s.a t.a) (cmpI s.b t.b) (cmpI s.c t.c) (cmpI s.d t.d)) 4

theorem nan_u32 (x : Int) (w : World) : Calls Try.prog 111 #[.int .u32 x] w fun e w' => e = .returned (.bool false) ∧ w = w' := by
  go_enter Try.func111, Try.ntmps111
  go_wp2
  go_ret
  exact ⟨ret_bool (by simp), rfl⟩
theorem compare_u32 (x y : Int) (w : World) : Calls Try.prog 88 #[.int .u32 x, .int .u32 y] w fun e w' => e = .returned (.int .i64 (cmpI x y)) ∧ w = w' := by
  go_enter Try.func88, Try.ntmps88
  go_wp2_with (go_at_call 111; (with_reducible refine (nan_u32 _ _).mono ?_); rintro e w' ⟨rfl, rfl⟩)
  all_goals (go_ret; refine ⟨?_, rfl⟩)
  all_goals (refine congrArg (fun z => Ending.returned (.int .i64 z)) ?_; unfold cmpI; first | (simp [*]; done) | (simp_all; omega) | (split <;> (try split) <;> omega))
theorem load_u32_X {w : World} {B O : Nat} {a : Int} (h0 : w.cell? ⟨B, O, none⟩ = some (.int .u32 a)) (hl : Lt B w) (ρ : Operand → Value) (dst : Option Tmp) (x : Operand) (ty : TypeId) (pos : String) (after : Array Edge) (g : Option (Nat × Bool))
    (hx : ρ x = .pointer (some ⟨B, O, none⟩)) : ∀ w', Ext w w' → (execOp ρ ⟨dst, .load 23 x, ty, pos, after, g⟩).run Try.prog w' = .ok (.value (.int .u32 a)) w' := by
  intro w' hE
  have h0 := (hE.cell (p := ⟨B, _, none⟩) hl).trans h0
  simp only [execOp, hx]
  go_simp

theorem nan_u16 (x : Int) (w : World) : Calls Try.prog 112 #[.int .u16 x] w fun e w' => e = .returned (.bool false) ∧ w = w' := by
  go_enter Try.func112, Try.ntmps112
  go_wp2
  go_ret
  exact ⟨ret_bool (by simp), rfl⟩
theorem compare_u16 (x y : Int) (w : World) : Calls Try.prog 89 #[.int .u16 x, .int .u16 y] w fun e w' => e = .returned (.int .i64 (cmpI x y)) ∧ w = w' := by
  go_enter Try.func89, Try.ntmps89
  go_wp2_with (go_at_call 112; (with_reducible refine (nan_u16 _ _).mono ?_); rintro e w' ⟨rfl, rfl⟩)
  all_goals (go_ret; refine ⟨?_, rfl⟩)
  all_goals (refine congrArg (fun z => Ending.returned (.int .i64 z)) ?_; unfold cmpI; first | (simp [*]; done) | (simp_all; omega) | (split <;> (try split) <;> omega))
theorem load_u16_X {w : World} {B O : Nat} {a : Int} (h0 : w.cell? ⟨B, O, none⟩ = some (.int .u16 a)) (hl : Lt B w) (ρ : Operand → Value) (dst : Option Tmp) (x : Operand) (ty : TypeId) (pos : String) (after : Array Edge) (g : Option (Nat × Bool))
    (hx : ρ x = .pointer (some ⟨B, O, none⟩)) : ∀ w', Ext w w' → (execOp ρ ⟨dst, .load 24 x, ty, pos, after, g⟩).run Try.prog w' = .ok (.value (.int .u16 a)) w' := by
  intro w' hE
  have h0 := (hE.cell (p := ⟨B, _, none⟩) hl).trans h0
  simp only [execOp, hx]
  go_simp

set_option maxHeartbeats 1000000 in
theorem or_four (x y z t : Int) (W : World) :
    Calls Try.prog 87 #[.slice (some ⟨W.heap.size, 0, none⟩) 4 4] (W.alloc (.cells #[.int .i64 x, .int .i64 y, .int .i64 z, .int .i64 t] 3)) fun e w' => e = .returned (.int .i64 (orR (four x y z t) 4)) ∧ Ext (W.alloc (.cells #[.int .i64 x, .int .i64 y, .int .i64 z, .int .i64 t] 3)) w' := by
  have hcells : ∀ j, j < 4 → (W.alloc (.cells #[.int .i64 x, .int .i64 y, .int .i64 z, .int .i64 t] 3)).cell? ⟨W.heap.size, j, none⟩ = some (.int .i64 (four x y z t j)) := fun j hj => by
    rw [cell_rowD, rowD_new]
    obtain rfl | rfl | rfl | rfl : j = 0 ∨ j = 1 ∨ j = 2 ∨ j = 3 := by omega
    all_goals rfl
  have HC := Lib.hid hcells
  clear hcells
  obtain ⟨f, hf⟩ : ∃ f, four x y z t = f := ⟨_, rfl⟩
  rw [hf] at HC ⊢
  clear hf
  generalize hV : W.alloc (.cells #[.int .i64 x, .int .i64 y, .int .i64 z, .int .i64 t] 3) = V at *
  have hL : Lt W.heap.size V := by rw [← hV]; simp [Lt]
  clear hV
  generalize W.heap.size = B at *
  go_enter Try.func87, Try.ntmps87
  go_wp2
  go_loopw [5, 8] (fun _ a wr => ∃ k : Nat, k ≤ 4 ∧ a = .int .i64 k ∧ orR f 4 = orR f (4 - k) ∧ Ext V wr) (fun _ a _ => 4 - (intOf a).toNat)
  case atStart => exact ⟨0, Nat.zero_le _, rfl, rfl, Ext.rf _⟩
  case round =>
    obtain ⟨k, hk, rfl, hO, hE⟩ := hrel
    have hk4 : (k : Int) ≤ 4 := by omega
    by_cases hlt : k < 4
    · have hkl : (k : Int) < 4 := by omega
      have hc := (hE.cell (p := ⟨B, k, none⟩) hL).trans (HC.out k hlt)
      have hs : orR f (4 - k) = (if f k = 0 then orR f (4 - (k + 1)) else f k) := by
        obtain ⟨r, hr⟩ : ∃ r, 4 - k = r + 1 := ⟨4 - (k + 1), by omega⟩
        rw [hr, show 4 - (k + 1) = r by omega]
        show (if f (3 - r) = 0 then orR f r else f (3 - r)) = _
        rw [show 3 - r = k by omega]
      have HO := Lib.hid (hO.trans hs)
      clear hO hs
      cases hq : (f k == 0)
      · have hqn : (f k != 0) = true := by rw [bne, hq]; rfl
        have HV := Lib.hid (show orR f 4 = f k by rw [HO.out, if_neg (by simpa using hq)])
        go_wp2
        go_ret
        exact ⟨by rw [HV.out]; rfl, hE⟩
      · have hqn : (f k != 0) = false := by rw [bne, hq]; rfl
        have HV := Lib.hid (show orR f 4 = orR f (4 - (k + 1)) by rw [HO.out, if_pos (by simpa using hq)])
        go_wp2
        go_roundw
        case rel => exact ⟨k + 1, by omega, by go_num, HV.out, hE⟩
        case measure => simp [intOf]; omega
    · obtain rfl : k = 4 := by omega
      have HV := Lib.hid (show orR f 4 = 0 from hO)
      clear hO
      go_wp2
      go_ret
      exact ⟨by rw [HV.out]; rfl, hE⟩

end Go.Proofs.Ytookffaojlkfaaa
