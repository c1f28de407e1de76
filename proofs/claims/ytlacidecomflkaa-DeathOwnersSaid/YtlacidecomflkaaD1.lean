/- Moves: what the small functions of the package move and of its reference return. -/
import Derived.Test.YtlacidecomflkaaV4
set_option linter.unusedSimpArgs false
set_option linter.unusedVariables false
namespace Go.Proofs.Ytlacidecomflkaa
open Go.RowKit

/-- A move: its phase, who has it, who gets it, its generation, a tick, a version. -/
structure Mo where
  ph : Int
  cur : Int
  nxt : Int
  gen : Int
  tick : Int
  ver : Int
  deriving DecidableEq
abbrev mo (ph cur nxt gen tick ver : Int) : Value := .agg #[.int .u8 ph, .int .i64 cur, .int .i64 nxt, .int .i64 gen, .int .i64 tick, .int .i64 ver]
abbrev Mo.v (m : Mo) : Value := mo m.ph m.cur m.nxt m.gen m.tick m.ver
def nodeB (n : Int) : Bool := decide (0 ≤ n) && decide (n ≤ 5)
def tickB (n : Int) : Bool := decide (0 ≤ n) && decide (n ≤ 1099511627776)
def whoM (m : Mo) : Bool :=
  if m.ph = 0 then m.cur == -1 && m.nxt == -1
  else if m.ph = 1 then nodeB m.cur && m.nxt == -1
  else if m.ph = 6 then m.cur == -1 && nodeB m.nxt
  else nodeB m.cur && nodeB m.nxt && m.cur != m.nxt
def genB (m : Mo) : Bool := decide (0 ≤ m.gen) && decide (m.gen ≤ 2147483647) && (decide (1 ≤ m.gen) || m.ph == 0)
def Mo.right (m : Mo) : Bool := decide (m.ph < 7) && whoM m && genB m && tickB m.tick && tickB m.ver
@[go_sem ↓ high] theorem eq_mo (a b c d e f a' b' c' d' e' f' : Int) (w : World) :
    (binOp .eql 48 (mo a b c d e f) (mo a' b' c' d' e' f')).run Try.prog w = .ok (.bool (a == a' && b == b' && c == c' && d == d' && e == e' && f == f')) w := by
  go_simp
  by_cases h1 : a = a' <;> by_cases h2 : b = b' <;> by_cases h3 : c = c' <;> by_cases h4 : d = d' <;> by_cases h5 : e = e' <;> by_cases h6 : f = f' <;> simp [*]
@[go_sem ↓ high] theorem ne_mo (a b c d e f a' b' c' d' e' f' : Int) (w : World) :
    (binOp .neq 48 (mo a b c d e f) (mo a' b' c' d' e' f')).run Try.prog w = .ok (.bool (!(a == a' && b == b' && c == c' && d == d' && e == e' && f == f'))) w := by
  go_simp
  by_cases h1 : a = a' <;> by_cases h2 : b = b' <;> by_cases h3 : c = c' <;> by_cases h4 : d = d' <;> by_cases h5 : e = e' <;> by_cases h6 : f = f' <;> simp [*]
set_option maxHeartbeats 400000 in
theorem within_any (n h : Int) (w : World) :
    Calls Try.prog 83 #[.int .i64 n, .int .i64 h] w fun e w' => e = .returned (.bool (decide (0 ≤ n) && decide (n ≤ h))) ∧ w = w' := by
  go_enter Try.func83, Try.ntmps83
  go_wp2
  all_goals (go_ret; exact ⟨ret_bool (by simp_all <;> omega), rfl⟩)
theorem wgen_any (n : Int) (w : World) :
    Calls Try.prog 83 #[.int .i64 n, .int .i64 2147483647] w fun e w' => e = .returned (.bool (decide (0 ≤ n) && decide (n ≤ 2147483647))) ∧ w = w' := within_any n _ w
theorem wtick_any (n : Int) (w : World) :
    Calls Try.prog 83 #[.int .i64 n, .int .i64 1099511627776] w fun e w' => e = .returned (.bool (tickB n)) ∧ w = w' := within_any n _ w
set_option maxHeartbeats 400000 in
theorem mnode_any (n : Int) (w : World) :
    Calls Try.prog 82 #[.int .i64 n] w fun e w' => e = .returned (.bool (nodeB n)) ∧ w = w' := by
  go_enter Try.func82, Try.ntmps82
  go_wp2_with ((go_at_call 83; (with_reducible refine (within_any n 5 _).mono ?_); rintro e w' ⟨rfl, rfl⟩))
  all_goals (go_ret; exact ⟨rfl, rfl⟩)
set_option maxHeartbeats 400000 in
theorem rnode_any (n : Int) (w : World) :
    Calls Try.prog 89 #[.int .i64 n] w fun e w' => e = .returned (.bool (nodeB n)) ∧ w = w' := by
  go_enter Try.func89, Try.ntmps89
  go_wp2
  all_goals (go_ret; exact ⟨ret_bool (by simp_all [nodeB] <;> omega), rfl⟩)
set_option maxHeartbeats 400000 in
theorem rtick_any (n : Int) (w : World) :
    Calls Try.prog 66 #[.int .i64 n] w fun e w' => e = .returned (.bool (tickB n)) ∧ w = w' := by
  go_enter Try.func66, Try.ntmps66
  go_wp2
  all_goals (go_ret; exact ⟨ret_bool (by simp_all [tickB] <;> omega), rfl⟩)
set_option maxHeartbeats 1000000 in
theorem rwho_any (m : Mo) (w : World) :
    Calls Try.prog 65 #[mo m.ph m.cur m.nxt m.gen m.tick m.ver] w fun e w' => e = .returned (.bool (whoM m)) ∧ Ext w w' := by
  cases m
  go_enter Try.func65, Try.ntmps65
  go_wp2_with ((go_at_call 89; (with_reducible refine (rnode_any _ _).mono ?_); rintro e w' ⟨rfl, rfl⟩))
  all_goals go_ret
  all_goals refine ⟨ret_bool ?_, ?_⟩
  all_goals first | (guard_target =~ Below _ _ _; (repeat (first | with_reducible exact Ext.rf _ | with_reducible assumption | with_reducible refine Ext.al ?_ _ | with_reducible refine Ext.dr ?_ | with_reducible refine Ext.dn ?_ _ | ((with_reducible refine Ext.st _ ?_ ?_); focus (first | omega | (simp; omega) | simp)) | with_reducible refine Ext.tr ?_ (by assumption) | with_reducible refine Ext.tr ?_ (up_ext (by assumption)) | with_reducible refine Ext.of (by assumption) ?_))) | (simp_all [whoM]; done) | grind [whoM]
set_option maxHeartbeats 1000000 in
theorem rright22_any (m : Mo) (w : World) (h0 : 0 ≤ m.ph) :
    Calls Try.prog 36 #[mo m.ph m.cur m.nxt m.gen m.tick m.ver] w fun e w' => e = .returned (.bool m.right) ∧ Ext w w' := by
  go_enter Try.func36, Try.ntmps36
  go_wp2_with (first | (go_at_call 65; (with_reducible refine (rwho_any m _).mono ?_); rintro e w' ⟨rfl, hb⟩; obtain ⟨hc, hf, hl, hz, -⟩ := kept hb; (try simp at hz)) | (go_at_call 66; (with_reducible refine (rtick_any _ _).mono ?_); rintro e w' ⟨rfl, rfl⟩))
  all_goals go_ret
  all_goals refine ⟨ret_bool ?_, ?_⟩
  all_goals first | (guard_target =~ Below _ _ _; (repeat (first | with_reducible exact Ext.rf _ | with_reducible assumption | with_reducible refine Ext.al ?_ _ | with_reducible refine Ext.dr ?_ | with_reducible refine Ext.dn ?_ _ | ((with_reducible refine Ext.st _ ?_ ?_); focus (first | omega | (simp; omega) | simp)) | with_reducible refine Ext.tr ?_ (by assumption) | with_reducible refine Ext.tr ?_ (up_ext (by assumption)) | with_reducible refine Ext.of (by assumption) ?_))) | (simp_all [Mo.right, genB]; done) | grind [Mo.right, genB]
set_option maxHeartbeats 4000000 in
theorem mright_any (m : Mo) (w : World) (h0 : 0 ≤ m.ph) :
    Calls Try.prog 63 #[mo m.ph m.cur m.nxt m.gen m.tick m.ver] w fun e w' => e = .returned (.bool m.right) ∧ Ext w w' := by
  obtain ⟨ph, cur, nxt, gen, tick, ver⟩ := m
  dsimp only at h0 ⊢
  have hE0 : Ext w (w.alloc (.cells #[.int .u8 ph, .int .i64 cur, .int .i64 nxt, .int .i64 gen, .int .i64 tick, .int .i64 ver] 48)) := Ext.al (Ext.rf _) _
  go_enter Try.func63, Try.ntmps63
  go_wp2_with (fail)
  refine wp_scope_fwd 0 rfl ?_
  go_wp2_with (fail)
  refine wp_region_later (by kernel_rfl) (by kernel_rfl) ?_; (repeat (go_big_quiet_step ((go_at_call 82; exact calls_later_same (mnode_any _ _))))); refine wpQuiet_nil ?_; intro d
  have hE := hE0.tr (later_ext d)
  go_wp2_with (first | (go_at_call 83; (with_reducible refine (wgen_any _ _).mono ?_); rintro e w' ⟨rfl, rfl⟩) | (go_at_call 83; (with_reducible refine (wtick_any _ _).mono ?_); rintro e w' ⟨rfl, rfl⟩))
  all_goals (try (with_reducible refine wp_label ?_; go_wp2))
  all_goals (try (go_step3; refine ⟨rfl, ?_⟩; go_wp2; rw [Exit.noGoto_ret]))
  all_goals (try simp only [Exit.jump])
  all_goals (try go_ret)
  all_goals refine ⟨ret_bool ?_, ?_⟩
  all_goals first | (guard_target =~ Below _ _ _; exact hE) | (simp_all [Mo.right, genB, whoM, tickB]; done) | grind [Mo.right, genB, whoM, tickB, nodeB]

end Go.Proofs.Ytlacidecomflkaa
