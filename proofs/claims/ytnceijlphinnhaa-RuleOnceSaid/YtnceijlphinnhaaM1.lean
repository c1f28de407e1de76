/- What the functions node, New and Right of the package mode return. -/
import Derived.Test.YtnceijlphinnhaaA
namespace Go.Proofs.Ytnceijlphinnhaa
open Go.RowKit

set_option maxHeartbeats 400000 in
theorem node_any (n : Int) (w : World) :
    Calls Try.prog 45 #[.int .i64 n] w fun e w' => e = .returned (.bool (decide (0 ≤ n) && decide (n < 6))) ∧ w = w' := by
  go_enter Try.func45, Try.ntmps45
  go_wp2
  all_goals (go_ret; exact ⟨by simp_all <;> omega, rfl⟩)

abbrev mv (k p g : Int) (r : Bool) : Value := .agg #[.int .u8 k, .int .i64 p, .int .i64 g, .bool r]

set_option maxHeartbeats 400000 in
theorem new_any (w : World) :
    Calls Try.prog 18 #[] w fun e w' => e = .returned (mv 0 (-1) 0 false) ∧ Ext w w' := by
  go_enter Try.func18, Try.ntmps18
  go_wp2
  refine bodyPost_ret (v := mv 0 (-1) 0 false) (by simp [results, Try.results18, go_sem]) rfl ⟨rfl, ?_⟩
  (repeat (first | with_reducible exact Ext.rf _ | with_reducible assumption | with_reducible refine Ext.al ?_ _ | with_reducible refine Ext.dr ?_ | ((with_reducible refine Ext.st _ ?_ ?_); focus (first | omega | (simp; omega) | simp)) | with_reducible refine Ext.tr ?_ (by assumption)))

def rightB (k p g : Int) (r : Bool) : Bool :=
  if k ≥ 4 then false
  else if k = 0 then decide (p = -1) && decide (g = 0) && !r
  else if g < 1 ∨ g ≥ 2147483648 then false
  else if k = 1 then decide (p = -1) && !r
  else (decide (0 ≤ p) && decide (p < 6)) && (!r || decide (k = 3))

@[go_sem ↓ high] theorem eq_mode (k p g : Int) (r : Bool) (k' p' g' : Int) (r' : Bool) (w : World) :
    (binOp .eql 23 (mv k p g r) (mv k' p' g' r')).run Try.prog w = .ok (.bool (k == k' && p == p' && g == g' && r == r')) w := by
  go_simp
  by_cases h1 : k = k' <;> by_cases h2 : p = p' <;> by_cases h3 : g = g' <;> by_cases h4 : r = r' <;> simp [*]


set_option maxHeartbeats 1000000 in
theorem right_any (k p g : Int) (r : Bool) (w : World) (h0 : 0 ≤ k) :
    Calls Try.prog 24 #[mv k p g r] w fun e w' => e = .returned (.bool (rightB k p g r)) ∧ Ext w w' := by
  go_enter Try.func24, Try.ntmps24
  go_wp2
  refine wp_scope_fwd 0 rfl ?_
  go_wp2_with (first | (go_at_call 45; refine (node_any _ _).mono ?_; rintro e w' ⟨rfl, rfl⟩))
  all_goals (try (refine wp_named ?_; intro W hc hf hl hz hW; go_region_held3 (Up W) (first | exact Up.start _ | exact Up.next (by assumption) (by assumption)) (first | (go_at_call 18; refine (new_any _).mono ?_; rintro e w' ⟨rfl, hb⟩)); rename_i w' hU; have hE := (Ext.of hW (Ext.al (Ext.rf _) _)).tr hU.2.2.2.2; go_wp2))
  all_goals (try (go_step3; refine ⟨rfl, ?_⟩; go_wp2; rw [Exit.noGoto_ret]))
  all_goals (try simp only [Exit.jump])
  all_goals go_ret
  all_goals refine ⟨ret_bool ?_, ?_⟩
  all_goals (first | (guard_target =~ Below _ _ _; (first | assumption | (repeat (first | with_reducible exact Ext.rf _ | with_reducible assumption | with_reducible refine Ext.al ?_ _ | with_reducible refine Ext.dr ?_ | ((with_reducible refine Ext.st _ ?_ ?_); focus (first | omega | (simp; omega) | simp)) | with_reducible refine Ext.tr ?_ (by assumption))))) | grind [rightB])

/-- A mode: its kind, its peer, its generation, whether it was retired. -/
structure Md where
  k : Int
  p : Int
  g : Int
  r : Bool
  deriving DecidableEq

abbrev Md.v (m : Md) : Value := mv m.k m.p m.g m.r
def Md.right (m : Md) : Bool := rightB m.k m.p m.g m.r

theorem right_md (m : Md) (w : World) (h0 : 0 ≤ m.k) :
    Calls Try.prog 24 #[mv m.k m.p m.g m.r] w fun e w' => e = .returned (.bool m.right) ∧ Ext w w' := right_any _ _ _ _ w h0

end Go.Proofs.Ytnceijlphinnhaa
