/- Deaths: Death, in each phase. -/
import Derived.Test.YtlacidecomflkaaD4
set_option linter.unusedSimpArgs false
set_option linter.unusedVariables false
namespace Go.Proofs.Ytlacidecomflkaa
open Go.RowKit

@[go_sem ↓ high] theorem index_way1 (b : Nat) (w : World) : (Instr.index 80 (.agg #[.nilFunc, (.func (.func 84) #[] #[.pointer (some ⟨b, 0, none⟩)]), (.func (.func 86) #[] #[.pointer (some ⟨b, 0, none⟩)]), (.func (.func 86) #[] #[.pointer (some ⟨b, 0, none⟩)]), (.func (.func 86) #[] #[.pointer (some ⟨b, 0, none⟩)]), (.func (.func 86) #[] #[.pointer (some ⟨b, 0, none⟩)]), (.func (.func 84) #[] #[.pointer (some ⟨b, 0, none⟩)])]) (.int .u8 1)).run Try.prog w = .ok (.func (.func 84) #[] #[.pointer (some ⟨b, 0, none⟩)]) w := by kernel_rfl
@[go_sem ↓ high] theorem notnil_way1 (b : Nat) (w : World) : (binOp .neq 79 (.func (.func 84) #[] #[.pointer (some ⟨b, 0, none⟩)]) .nilFunc).run Try.prog w = .ok (.bool true) w := by kernel_rfl
set_option maxRecDepth 100000 in
set_option maxHeartbeats 4000000 in
theorem death_p1 (cur nxt gen tick ver dead pick : Int) (w : World) (hr : Mo.right ⟨1, cur, nxt, gen, tick, ver⟩ = true) (ho : ofM ⟨1, cur, nxt, gen, tick, ver⟩ dead = true) (b1 : (pick == dead) = false) (b2 : decide (pick < -1) = false) (b3 : decide (6 ≤ pick) = false) :
    Calls Try.prog 35 #[mo 1 cur nxt gen tick ver, .int .i64 dead, .int .i64 pick] w fun e w' => e = .returned (.tuple #[(settlesM ⟨1, cur, nxt, gen, tick, ver⟩ pick).v, .bool true]) ∧ Ext w w' := by
  have HR : ∀ W, Calls Try.prog 63 #[mo 1 cur nxt gen tick ver] W fun e w' => e = .returned (.bool true) ∧ Ext W w' := fun W => by
    have := mright_any ⟨1, cur, nxt, gen, tick, ver⟩ W (by show (0 : Int) ≤ 1; omega)
    rwa [hr] at this
  have HO : ∀ W, Calls Try.prog 42 #[mo 1 cur nxt gen tick ver, .int .i64 dead] W fun e w' => e = .returned (.bool true) ∧ Ext W w' := fun W => by
    have := of_any ⟨1, cur, nxt, gen, tick, ver⟩ dead W
    rwa [ho] at this
  have HW : ∀ W, Calls Try.prog 64 #[mo 1 cur nxt gen tick ver] W fun e w' => ∃ b, e = .returned (.agg #[.nilFunc, (.func (.func 84) #[] #[.pointer (some ⟨b, 0, none⟩)]), (.func (.func 86) #[] #[.pointer (some ⟨b, 0, none⟩)]), (.func (.func 86) #[] #[.pointer (some ⟨b, 0, none⟩)]), (.func (.func 86) #[] #[.pointer (some ⟨b, 0, none⟩)]), (.func (.func 86) #[] #[.pointer (some ⟨b, 0, none⟩)]), (.func (.func 84) #[] #[.pointer (some ⟨b, 0, none⟩)])]) ∧ MoAt w' b ⟨1, cur, nxt, gen, tick, ver⟩ ∧ Ext W w' := fun W => ways_any ⟨1, cur, nxt, gen, tick, ver⟩ W
  clear hr ho
  go_enter Try.func35, Try.ntmps35
  go_wp2
  refine wp_scope_fwd 0 rfl ?_
  go_wp2_with (first | (go_at_call 63; (with_reducible refine (HR _).mono ?_); rintro e w' ⟨rfl, hb⟩; obtain ⟨hc, hf, hl, hz, -⟩ := kept hb; (try simp at hz)) | (go_at_call 42; (with_reducible refine (HO _).mono ?_); rintro e w' ⟨rfl, hb⟩; obtain ⟨hc, hf, hl, hz, -⟩ := kept hb; (try simp at hz)))
  go_region_with (go_at_call 64; (with_reducible refine (HW _).mono ?_); rintro e w' ⟨b, rfl, hm, hb⟩; obtain ⟨hc, hf, hl, hz, -⟩ := kept hb; (try simp at hz))
  all_goals (go_wp2_with (go_at_call 84; (with_reducible refine (alone_any ⟨1, cur, nxt, gen, tick, ver⟩ pick (cur == dead) b _ (by show (0 : Int) ≤ 1; omega) (by first | assumption | (refine MoAt.ext (by assumption) ?_; (repeat (first | with_reducible exact Ext.rf _ | with_reducible assumption | with_reducible refine Ext.al ?_ _ | with_reducible refine Ext.dr ?_ | with_reducible refine Ext.dn ?_ _ | ((with_reducible refine Ext.st _ ?_ ?_); focus (first | omega | (simp; omega) | simp)) | with_reducible refine Ext.tr ?_ (by assumption) | with_reducible refine Ext.tr ?_ (up_ext (by assumption)) | with_reducible refine Ext.of (by assumption) ?_))))).mono ?_); rintro e w' ⟨rfl, hb⟩; obtain ⟨hc, hf, hl, hz, -⟩ := kept hb; (try simp at hz)))
  all_goals (try simp only [Exit.jump])
  all_goals (refine bodyPost_ret (v := .tuple #[(settlesM ⟨1, cur, nxt, gen, tick, ver⟩ pick).v, .bool true]) (by simp [results, Try.results35, go_sem, *]) rfl ⟨rfl, ?_⟩; (repeat (first | with_reducible exact Ext.rf _ | with_reducible assumption | with_reducible refine Ext.al ?_ _ | with_reducible refine Ext.dr ?_ | with_reducible refine Ext.dn ?_ _ | ((with_reducible refine Ext.st _ ?_ ?_); focus (first | omega | (simp; omega) | simp)) | with_reducible refine Ext.tr ?_ (by assumption) | with_reducible refine Ext.tr ?_ (up_ext (by assumption)) | with_reducible refine Ext.of (by assumption) ?_)))

@[go_sem ↓ high] theorem index_way2 (b : Nat) (w : World) : (Instr.index 80 (.agg #[.nilFunc, (.func (.func 84) #[] #[.pointer (some ⟨b, 0, none⟩)]), (.func (.func 86) #[] #[.pointer (some ⟨b, 0, none⟩)]), (.func (.func 86) #[] #[.pointer (some ⟨b, 0, none⟩)]), (.func (.func 86) #[] #[.pointer (some ⟨b, 0, none⟩)]), (.func (.func 86) #[] #[.pointer (some ⟨b, 0, none⟩)]), (.func (.func 84) #[] #[.pointer (some ⟨b, 0, none⟩)])]) (.int .u8 2)).run Try.prog w = .ok (.func (.func 86) #[] #[.pointer (some ⟨b, 0, none⟩)]) w := by kernel_rfl
@[go_sem ↓ high] theorem notnil_way2 (b : Nat) (w : World) : (binOp .neq 79 (.func (.func 86) #[] #[.pointer (some ⟨b, 0, none⟩)]) .nilFunc).run Try.prog w = .ok (.bool true) w := by kernel_rfl
set_option maxRecDepth 100000 in
set_option maxHeartbeats 4000000 in
theorem death_p2 (cur nxt gen tick ver dead pick : Int) (w : World) (hr : Mo.right ⟨2, cur, nxt, gen, tick, ver⟩ = true) (ho : ofM ⟨2, cur, nxt, gen, tick, ver⟩ dead = true) (b1 : (pick == dead) = false) (b2 : decide (pick < -1) = false) (b3 : decide (6 ≤ pick) = false) :
    Calls Try.prog 35 #[mo 2 cur nxt gen tick ver, .int .i64 dead, .int .i64 pick] w fun e w' => e = .returned (.tuple #[(twoM ⟨2, cur, nxt, gen, tick, ver⟩ pick (cur == dead)).v, .bool true]) ∧ Ext w w' := by
  have HR : ∀ W, Calls Try.prog 63 #[mo 2 cur nxt gen tick ver] W fun e w' => e = .returned (.bool true) ∧ Ext W w' := fun W => by
    have := mright_any ⟨2, cur, nxt, gen, tick, ver⟩ W (by show (0 : Int) ≤ 2; omega)
    rwa [hr] at this
  have HO : ∀ W, Calls Try.prog 42 #[mo 2 cur nxt gen tick ver, .int .i64 dead] W fun e w' => e = .returned (.bool true) ∧ Ext W w' := fun W => by
    have := of_any ⟨2, cur, nxt, gen, tick, ver⟩ dead W
    rwa [ho] at this
  have HW : ∀ W, Calls Try.prog 64 #[mo 2 cur nxt gen tick ver] W fun e w' => ∃ b, e = .returned (.agg #[.nilFunc, (.func (.func 84) #[] #[.pointer (some ⟨b, 0, none⟩)]), (.func (.func 86) #[] #[.pointer (some ⟨b, 0, none⟩)]), (.func (.func 86) #[] #[.pointer (some ⟨b, 0, none⟩)]), (.func (.func 86) #[] #[.pointer (some ⟨b, 0, none⟩)]), (.func (.func 86) #[] #[.pointer (some ⟨b, 0, none⟩)]), (.func (.func 84) #[] #[.pointer (some ⟨b, 0, none⟩)])]) ∧ MoAt w' b ⟨2, cur, nxt, gen, tick, ver⟩ ∧ Ext W w' := fun W => ways_any ⟨2, cur, nxt, gen, tick, ver⟩ W
  clear hr ho
  go_enter Try.func35, Try.ntmps35
  go_wp2
  refine wp_scope_fwd 0 rfl ?_
  go_wp2_with (first | (go_at_call 63; (with_reducible refine (HR _).mono ?_); rintro e w' ⟨rfl, hb⟩; obtain ⟨hc, hf, hl, hz, -⟩ := kept hb; (try simp at hz)) | (go_at_call 42; (with_reducible refine (HO _).mono ?_); rintro e w' ⟨rfl, hb⟩; obtain ⟨hc, hf, hl, hz, -⟩ := kept hb; (try simp at hz)))
  go_region_with (go_at_call 64; (with_reducible refine (HW _).mono ?_); rintro e w' ⟨b, rfl, hm, hb⟩; obtain ⟨hc, hf, hl, hz, -⟩ := kept hb; (try simp at hz))
  all_goals (go_wp2_with (go_at_call 86; (with_reducible refine (two_any ⟨2, cur, nxt, gen, tick, ver⟩ pick (cur == dead) b _ (by show (0 : Int) ≤ 2; omega) (by first | assumption | (refine MoAt.ext (by assumption) ?_; (repeat (first | with_reducible exact Ext.rf _ | with_reducible assumption | with_reducible refine Ext.al ?_ _ | with_reducible refine Ext.dr ?_ | with_reducible refine Ext.dn ?_ _ | ((with_reducible refine Ext.st _ ?_ ?_); focus (first | omega | (simp; omega) | simp)) | with_reducible refine Ext.tr ?_ (by assumption) | with_reducible refine Ext.tr ?_ (up_ext (by assumption)) | with_reducible refine Ext.of (by assumption) ?_))))).mono ?_); rintro e w' ⟨rfl, hb⟩; obtain ⟨hc, hf, hl, hz, -⟩ := kept hb; (try simp at hz)))
  all_goals (try simp only [Exit.jump])
  all_goals (refine bodyPost_ret (v := .tuple #[(twoM ⟨2, cur, nxt, gen, tick, ver⟩ pick (cur == dead)).v, .bool true]) (by simp [results, Try.results35, go_sem, *]) rfl ⟨rfl, ?_⟩; (repeat (first | with_reducible exact Ext.rf _ | with_reducible assumption | with_reducible refine Ext.al ?_ _ | with_reducible refine Ext.dr ?_ | with_reducible refine Ext.dn ?_ _ | ((with_reducible refine Ext.st _ ?_ ?_); focus (first | omega | (simp; omega) | simp)) | with_reducible refine Ext.tr ?_ (by assumption) | with_reducible refine Ext.tr ?_ (up_ext (by assumption)) | with_reducible refine Ext.of (by assumption) ?_)))

@[go_sem ↓ high] theorem index_way3 (b : Nat) (w : World) : (Instr.index 80 (.agg #[.nilFunc, (.func (.func 84) #[] #[.pointer (some ⟨b, 0, none⟩)]), (.func (.func 86) #[] #[.pointer (some ⟨b, 0, none⟩)]), (.func (.func 86) #[] #[.pointer (some ⟨b, 0, none⟩)]), (.func (.func 86) #[] #[.pointer (some ⟨b, 0, none⟩)]), (.func (.func 86) #[] #[.pointer (some ⟨b, 0, none⟩)]), (.func (.func 84) #[] #[.pointer (some ⟨b, 0, none⟩)])]) (.int .u8 3)).run Try.prog w = .ok (.func (.func 86) #[] #[.pointer (some ⟨b, 0, none⟩)]) w := by kernel_rfl
@[go_sem ↓ high] theorem notnil_way3 (b : Nat) (w : World) : (binOp .neq 79 (.func (.func 86) #[] #[.pointer (some ⟨b, 0, none⟩)]) .nilFunc).run Try.prog w = .ok (.bool true) w := by kernel_rfl
set_option maxRecDepth 100000 in
set_option maxHeartbeats 4000000 in
theorem death_p3 (cur nxt gen tick ver dead pick : Int) (w : World) (hr : Mo.right ⟨3, cur, nxt, gen, tick, ver⟩ = true) (ho : ofM ⟨3, cur, nxt, gen, tick, ver⟩ dead = true) (b1 : (pick == dead) = false) (b2 : decide (pick < -1) = false) (b3 : decide (6 ≤ pick) = false) :
    Calls Try.prog 35 #[mo 3 cur nxt gen tick ver, .int .i64 dead, .int .i64 pick] w fun e w' => e = .returned (.tuple #[(twoM ⟨3, cur, nxt, gen, tick, ver⟩ pick (cur == dead)).v, .bool true]) ∧ Ext w w' := by
  have HR : ∀ W, Calls Try.prog 63 #[mo 3 cur nxt gen tick ver] W fun e w' => e = .returned (.bool true) ∧ Ext W w' := fun W => by
    have := mright_any ⟨3, cur, nxt, gen, tick, ver⟩ W (by show (0 : Int) ≤ 3; omega)
    rwa [hr] at this
  have HO : ∀ W, Calls Try.prog 42 #[mo 3 cur nxt gen tick ver, .int .i64 dead] W fun e w' => e = .returned (.bool true) ∧ Ext W w' := fun W => by
    have := of_any ⟨3, cur, nxt, gen, tick, ver⟩ dead W
    rwa [ho] at this
  have HW : ∀ W, Calls Try.prog 64 #[mo 3 cur nxt gen tick ver] W fun e w' => ∃ b, e = .returned (.agg #[.nilFunc, (.func (.func 84) #[] #[.pointer (some ⟨b, 0, none⟩)]), (.func (.func 86) #[] #[.pointer (some ⟨b, 0, none⟩)]), (.func (.func 86) #[] #[.pointer (some ⟨b, 0, none⟩)]), (.func (.func 86) #[] #[.pointer (some ⟨b, 0, none⟩)]), (.func (.func 86) #[] #[.pointer (some ⟨b, 0, none⟩)]), (.func (.func 84) #[] #[.pointer (some ⟨b, 0, none⟩)])]) ∧ MoAt w' b ⟨3, cur, nxt, gen, tick, ver⟩ ∧ Ext W w' := fun W => ways_any ⟨3, cur, nxt, gen, tick, ver⟩ W
  clear hr ho
  go_enter Try.func35, Try.ntmps35
  go_wp2
  refine wp_scope_fwd 0 rfl ?_
  go_wp2_with (first | (go_at_call 63; (with_reducible refine (HR _).mono ?_); rintro e w' ⟨rfl, hb⟩; obtain ⟨hc, hf, hl, hz, -⟩ := kept hb; (try simp at hz)) | (go_at_call 42; (with_reducible refine (HO _).mono ?_); rintro e w' ⟨rfl, hb⟩; obtain ⟨hc, hf, hl, hz, -⟩ := kept hb; (try simp at hz)))
  go_region_with (go_at_call 64; (with_reducible refine (HW _).mono ?_); rintro e w' ⟨b, rfl, hm, hb⟩; obtain ⟨hc, hf, hl, hz, -⟩ := kept hb; (try simp at hz))
  all_goals (go_wp2_with (go_at_call 86; (with_reducible refine (two_any ⟨3, cur, nxt, gen, tick, ver⟩ pick (cur == dead) b _ (by show (0 : Int) ≤ 3; omega) (by first | assumption | (refine MoAt.ext (by assumption) ?_; (repeat (first | with_reducible exact Ext.rf _ | with_reducible assumption | with_reducible refine Ext.al ?_ _ | with_reducible refine Ext.dr ?_ | with_reducible refine Ext.dn ?_ _ | ((with_reducible refine Ext.st _ ?_ ?_); focus (first | omega | (simp; omega) | simp)) | with_reducible refine Ext.tr ?_ (by assumption) | with_reducible refine Ext.tr ?_ (up_ext (by assumption)) | with_reducible refine Ext.of (by assumption) ?_))))).mono ?_); rintro e w' ⟨rfl, hb⟩; obtain ⟨hc, hf, hl, hz, -⟩ := kept hb; (try simp at hz)))
  all_goals (try simp only [Exit.jump])
  all_goals (refine bodyPost_ret (v := .tuple #[(twoM ⟨3, cur, nxt, gen, tick, ver⟩ pick (cur == dead)).v, .bool true]) (by simp [results, Try.results35, go_sem, *]) rfl ⟨rfl, ?_⟩; (repeat (first | with_reducible exact Ext.rf _ | with_reducible assumption | with_reducible refine Ext.al ?_ _ | with_reducible refine Ext.dr ?_ | with_reducible refine Ext.dn ?_ _ | ((with_reducible refine Ext.st _ ?_ ?_); focus (first | omega | (simp; omega) | simp)) | with_reducible refine Ext.tr ?_ (by assumption) | with_reducible refine Ext.tr ?_ (up_ext (by assumption)) | with_reducible refine Ext.of (by assumption) ?_)))

@[go_sem ↓ high] theorem index_way4 (b : Nat) (w : World) : (Instr.index 80 (.agg #[.nilFunc, (.func (.func 84) #[] #[.pointer (some ⟨b, 0, none⟩)]), (.func (.func 86) #[] #[.pointer (some ⟨b, 0, none⟩)]), (.func (.func 86) #[] #[.pointer (some ⟨b, 0, none⟩)]), (.func (.func 86) #[] #[.pointer (some ⟨b, 0, none⟩)]), (.func (.func 86) #[] #[.pointer (some ⟨b, 0, none⟩)]), (.func (.func 84) #[] #[.pointer (some ⟨b, 0, none⟩)])]) (.int .u8 4)).run Try.prog w = .ok (.func (.func 86) #[] #[.pointer (some ⟨b, 0, none⟩)]) w := by kernel_rfl
@[go_sem ↓ high] theorem notnil_way4 (b : Nat) (w : World) : (binOp .neq 79 (.func (.func 86) #[] #[.pointer (some ⟨b, 0, none⟩)]) .nilFunc).run Try.prog w = .ok (.bool true) w := by kernel_rfl
set_option maxRecDepth 100000 in
set_option maxHeartbeats 4000000 in
theorem death_p4 (cur nxt gen tick ver dead pick : Int) (w : World) (hr : Mo.right ⟨4, cur, nxt, gen, tick, ver⟩ = true) (ho : ofM ⟨4, cur, nxt, gen, tick, ver⟩ dead = true) (b1 : (pick == dead) = false) (b2 : decide (pick < -1) = false) (b3 : decide (6 ≤ pick) = false) :
    Calls Try.prog 35 #[mo 4 cur nxt gen tick ver, .int .i64 dead, .int .i64 pick] w fun e w' => e = .returned (.tuple #[(twoM ⟨4, cur, nxt, gen, tick, ver⟩ pick (cur == dead)).v, .bool true]) ∧ Ext w w' := by
  have HR : ∀ W, Calls Try.prog 63 #[mo 4 cur nxt gen tick ver] W fun e w' => e = .returned (.bool true) ∧ Ext W w' := fun W => by
    have := mright_any ⟨4, cur, nxt, gen, tick, ver⟩ W (by show (0 : Int) ≤ 4; omega)
    rwa [hr] at this
  have HO : ∀ W, Calls Try.prog 42 #[mo 4 cur nxt gen tick ver, .int .i64 dead] W fun e w' => e = .returned (.bool true) ∧ Ext W w' := fun W => by
    have := of_any ⟨4, cur, nxt, gen, tick, ver⟩ dead W
    rwa [ho] at this
  have HW : ∀ W, Calls Try.prog 64 #[mo 4 cur nxt gen tick ver] W fun e w' => ∃ b, e = .returned (.agg #[.nilFunc, (.func (.func 84) #[] #[.pointer (some ⟨b, 0, none⟩)]), (.func (.func 86) #[] #[.pointer (some ⟨b, 0, none⟩)]), (.func (.func 86) #[] #[.pointer (some ⟨b, 0, none⟩)]), (.func (.func 86) #[] #[.pointer (some ⟨b, 0, none⟩)]), (.func (.func 86) #[] #[.pointer (some ⟨b, 0, none⟩)]), (.func (.func 84) #[] #[.pointer (some ⟨b, 0, none⟩)])]) ∧ MoAt w' b ⟨4, cur, nxt, gen, tick, ver⟩ ∧ Ext W w' := fun W => ways_any ⟨4, cur, nxt, gen, tick, ver⟩ W
  clear hr ho
  go_enter Try.func35, Try.ntmps35
  go_wp2
  refine wp_scope_fwd 0 rfl ?_
  go_wp2_with (first | (go_at_call 63; (with_reducible refine (HR _).mono ?_); rintro e w' ⟨rfl, hb⟩; obtain ⟨hc, hf, hl, hz, -⟩ := kept hb; (try simp at hz)) | (go_at_call 42; (with_reducible refine (HO _).mono ?_); rintro e w' ⟨rfl, hb⟩; obtain ⟨hc, hf, hl, hz, -⟩ := kept hb; (try simp at hz)))
  go_region_with (go_at_call 64; (with_reducible refine (HW _).mono ?_); rintro e w' ⟨b, rfl, hm, hb⟩; obtain ⟨hc, hf, hl, hz, -⟩ := kept hb; (try simp at hz))
  all_goals (go_wp2_with (go_at_call 86; (with_reducible refine (two_any ⟨4, cur, nxt, gen, tick, ver⟩ pick (cur == dead) b _ (by show (0 : Int) ≤ 4; omega) (by first | assumption | (refine MoAt.ext (by assumption) ?_; (repeat (first | with_reducible exact Ext.rf _ | with_reducible assumption | with_reducible refine Ext.al ?_ _ | with_reducible refine Ext.dr ?_ | with_reducible refine Ext.dn ?_ _ | ((with_reducible refine Ext.st _ ?_ ?_); focus (first | omega | (simp; omega) | simp)) | with_reducible refine Ext.tr ?_ (by assumption) | with_reducible refine Ext.tr ?_ (up_ext (by assumption)) | with_reducible refine Ext.of (by assumption) ?_))))).mono ?_); rintro e w' ⟨rfl, hb⟩; obtain ⟨hc, hf, hl, hz, -⟩ := kept hb; (try simp at hz)))
  all_goals (try simp only [Exit.jump])
  all_goals (refine bodyPost_ret (v := .tuple #[(twoM ⟨4, cur, nxt, gen, tick, ver⟩ pick (cur == dead)).v, .bool true]) (by simp [results, Try.results35, go_sem, *]) rfl ⟨rfl, ?_⟩; (repeat (first | with_reducible exact Ext.rf _ | with_reducible assumption | with_reducible refine Ext.al ?_ _ | with_reducible refine Ext.dr ?_ | with_reducible refine Ext.dn ?_ _ | ((with_reducible refine Ext.st _ ?_ ?_); focus (first | omega | (simp; omega) | simp)) | with_reducible refine Ext.tr ?_ (by assumption) | with_reducible refine Ext.tr ?_ (up_ext (by assumption)) | with_reducible refine Ext.of (by assumption) ?_)))

@[go_sem ↓ high] theorem index_way5 (b : Nat) (w : World) : (Instr.index 80 (.agg #[.nilFunc, (.func (.func 84) #[] #[.pointer (some ⟨b, 0, none⟩)]), (.func (.func 86) #[] #[.pointer (some ⟨b, 0, none⟩)]), (.func (.func 86) #[] #[.pointer (some ⟨b, 0, none⟩)]), (.func (.func 86) #[] #[.pointer (some ⟨b, 0, none⟩)]), (.func (.func 86) #[] #[.pointer (some ⟨b, 0, none⟩)]), (.func (.func 84) #[] #[.pointer (some ⟨b, 0, none⟩)])]) (.int .u8 5)).run Try.prog w = .ok (.func (.func 86) #[] #[.pointer (some ⟨b, 0, none⟩)]) w := by kernel_rfl
@[go_sem ↓ high] theorem notnil_way5 (b : Nat) (w : World) : (binOp .neq 79 (.func (.func 86) #[] #[.pointer (some ⟨b, 0, none⟩)]) .nilFunc).run Try.prog w = .ok (.bool true) w := by kernel_rfl
set_option maxRecDepth 100000 in
set_option maxHeartbeats 4000000 in
theorem death_p5 (cur nxt gen tick ver dead pick : Int) (w : World) (hr : Mo.right ⟨5, cur, nxt, gen, tick, ver⟩ = true) (ho : ofM ⟨5, cur, nxt, gen, tick, ver⟩ dead = true) (b1 : (pick == dead) = false) (b2 : decide (pick < -1) = false) (b3 : decide (6 ≤ pick) = false) :
    Calls Try.prog 35 #[mo 5 cur nxt gen tick ver, .int .i64 dead, .int .i64 pick] w fun e w' => e = .returned (.tuple #[(twoM ⟨5, cur, nxt, gen, tick, ver⟩ pick (cur == dead)).v, .bool true]) ∧ Ext w w' := by
  have HR : ∀ W, Calls Try.prog 63 #[mo 5 cur nxt gen tick ver] W fun e w' => e = .returned (.bool true) ∧ Ext W w' := fun W => by
    have := mright_any ⟨5, cur, nxt, gen, tick, ver⟩ W (by show (0 : Int) ≤ 5; omega)
    rwa [hr] at this
  have HO : ∀ W, Calls Try.prog 42 #[mo 5 cur nxt gen tick ver, .int .i64 dead] W fun e w' => e = .returned (.bool true) ∧ Ext W w' := fun W => by
    have := of_any ⟨5, cur, nxt, gen, tick, ver⟩ dead W
    rwa [ho] at this
  have HW : ∀ W, Calls Try.prog 64 #[mo 5 cur nxt gen tick ver] W fun e w' => ∃ b, e = .returned (.agg #[.nilFunc, (.func (.func 84) #[] #[.pointer (some ⟨b, 0, none⟩)]), (.func (.func 86) #[] #[.pointer (some ⟨b, 0, none⟩)]), (.func (.func 86) #[] #[.pointer (some ⟨b, 0, none⟩)]), (.func (.func 86) #[] #[.pointer (some ⟨b, 0, none⟩)]), (.func (.func 86) #[] #[.pointer (some ⟨b, 0, none⟩)]), (.func (.func 84) #[] #[.pointer (some ⟨b, 0, none⟩)])]) ∧ MoAt w' b ⟨5, cur, nxt, gen, tick, ver⟩ ∧ Ext W w' := fun W => ways_any ⟨5, cur, nxt, gen, tick, ver⟩ W
  clear hr ho
  go_enter Try.func35, Try.ntmps35
  go_wp2
  refine wp_scope_fwd 0 rfl ?_
  go_wp2_with (first | (go_at_call 63; (with_reducible refine (HR _).mono ?_); rintro e w' ⟨rfl, hb⟩; obtain ⟨hc, hf, hl, hz, -⟩ := kept hb; (try simp at hz)) | (go_at_call 42; (with_reducible refine (HO _).mono ?_); rintro e w' ⟨rfl, hb⟩; obtain ⟨hc, hf, hl, hz, -⟩ := kept hb; (try simp at hz)))
  go_region_with (go_at_call 64; (with_reducible refine (HW _).mono ?_); rintro e w' ⟨b, rfl, hm, hb⟩; obtain ⟨hc, hf, hl, hz, -⟩ := kept hb; (try simp at hz))
  all_goals (go_wp2_with (go_at_call 86; (with_reducible refine (two_any ⟨5, cur, nxt, gen, tick, ver⟩ pick (cur == dead) b _ (by show (0 : Int) ≤ 5; omega) (by first | assumption | (refine MoAt.ext (by assumption) ?_; (repeat (first | with_reducible exact Ext.rf _ | with_reducible assumption | with_reducible refine Ext.al ?_ _ | with_reducible refine Ext.dr ?_ | with_reducible refine Ext.dn ?_ _ | ((with_reducible refine Ext.st _ ?_ ?_); focus (first | omega | (simp; omega) | simp)) | with_reducible refine Ext.tr ?_ (by assumption) | with_reducible refine Ext.tr ?_ (up_ext (by assumption)) | with_reducible refine Ext.of (by assumption) ?_))))).mono ?_); rintro e w' ⟨rfl, hb⟩; obtain ⟨hc, hf, hl, hz, -⟩ := kept hb; (try simp at hz)))
  all_goals (try simp only [Exit.jump])
  all_goals (refine bodyPost_ret (v := .tuple #[(twoM ⟨5, cur, nxt, gen, tick, ver⟩ pick (cur == dead)).v, .bool true]) (by simp [results, Try.results35, go_sem, *]) rfl ⟨rfl, ?_⟩; (repeat (first | with_reducible exact Ext.rf _ | with_reducible assumption | with_reducible refine Ext.al ?_ _ | with_reducible refine Ext.dr ?_ | with_reducible refine Ext.dn ?_ _ | ((with_reducible refine Ext.st _ ?_ ?_); focus (first | omega | (simp; omega) | simp)) | with_reducible refine Ext.tr ?_ (by assumption) | with_reducible refine Ext.tr ?_ (up_ext (by assumption)) | with_reducible refine Ext.of (by assumption) ?_)))

@[go_sem ↓ high] theorem index_way6 (b : Nat) (w : World) : (Instr.index 80 (.agg #[.nilFunc, (.func (.func 84) #[] #[.pointer (some ⟨b, 0, none⟩)]), (.func (.func 86) #[] #[.pointer (some ⟨b, 0, none⟩)]), (.func (.func 86) #[] #[.pointer (some ⟨b, 0, none⟩)]), (.func (.func 86) #[] #[.pointer (some ⟨b, 0, none⟩)]), (.func (.func 86) #[] #[.pointer (some ⟨b, 0, none⟩)]), (.func (.func 84) #[] #[.pointer (some ⟨b, 0, none⟩)])]) (.int .u8 6)).run Try.prog w = .ok (.func (.func 84) #[] #[.pointer (some ⟨b, 0, none⟩)]) w := by kernel_rfl
@[go_sem ↓ high] theorem notnil_way6 (b : Nat) (w : World) : (binOp .neq 79 (.func (.func 84) #[] #[.pointer (some ⟨b, 0, none⟩)]) .nilFunc).run Try.prog w = .ok (.bool true) w := by kernel_rfl
set_option maxRecDepth 100000 in
set_option maxHeartbeats 4000000 in
theorem death_p6 (cur nxt gen tick ver dead pick : Int) (w : World) (hr : Mo.right ⟨6, cur, nxt, gen, tick, ver⟩ = true) (ho : ofM ⟨6, cur, nxt, gen, tick, ver⟩ dead = true) (b1 : (pick == dead) = false) (b2 : decide (pick < -1) = false) (b3 : decide (6 ≤ pick) = false) :
    Calls Try.prog 35 #[mo 6 cur nxt gen tick ver, .int .i64 dead, .int .i64 pick] w fun e w' => e = .returned (.tuple #[(settlesM ⟨6, cur, nxt, gen, tick, ver⟩ pick).v, .bool true]) ∧ Ext w w' := by
  have HR : ∀ W, Calls Try.prog 63 #[mo 6 cur nxt gen tick ver] W fun e w' => e = .returned (.bool true) ∧ Ext W w' := fun W => by
    have := mright_any ⟨6, cur, nxt, gen, tick, ver⟩ W (by show (0 : Int) ≤ 6; omega)
    rwa [hr] at this
  have HO : ∀ W, Calls Try.prog 42 #[mo 6 cur nxt gen tick ver, .int .i64 dead] W fun e w' => e = .returned (.bool true) ∧ Ext W w' := fun W => by
    have := of_any ⟨6, cur, nxt, gen, tick, ver⟩ dead W
    rwa [ho] at this
  have HW : ∀ W, Calls Try.prog 64 #[mo 6 cur nxt gen tick ver] W fun e w' => ∃ b, e = .returned (.agg #[.nilFunc, (.func (.func 84) #[] #[.pointer (some ⟨b, 0, none⟩)]), (.func (.func 86) #[] #[.pointer (some ⟨b, 0, none⟩)]), (.func (.func 86) #[] #[.pointer (some ⟨b, 0, none⟩)]), (.func (.func 86) #[] #[.pointer (some ⟨b, 0, none⟩)]), (.func (.func 86) #[] #[.pointer (some ⟨b, 0, none⟩)]), (.func (.func 84) #[] #[.pointer (some ⟨b, 0, none⟩)])]) ∧ MoAt w' b ⟨6, cur, nxt, gen, tick, ver⟩ ∧ Ext W w' := fun W => ways_any ⟨6, cur, nxt, gen, tick, ver⟩ W
  clear hr ho
  go_enter Try.func35, Try.ntmps35
  go_wp2
  refine wp_scope_fwd 0 rfl ?_
  go_wp2_with (first | (go_at_call 63; (with_reducible refine (HR _).mono ?_); rintro e w' ⟨rfl, hb⟩; obtain ⟨hc, hf, hl, hz, -⟩ := kept hb; (try simp at hz)) | (go_at_call 42; (with_reducible refine (HO _).mono ?_); rintro e w' ⟨rfl, hb⟩; obtain ⟨hc, hf, hl, hz, -⟩ := kept hb; (try simp at hz)))
  go_region_with (go_at_call 64; (with_reducible refine (HW _).mono ?_); rintro e w' ⟨b, rfl, hm, hb⟩; obtain ⟨hc, hf, hl, hz, -⟩ := kept hb; (try simp at hz))
  all_goals (go_wp2_with (go_at_call 84; (with_reducible refine (alone_any ⟨6, cur, nxt, gen, tick, ver⟩ pick (cur == dead) b _ (by show (0 : Int) ≤ 6; omega) (by first | assumption | (refine MoAt.ext (by assumption) ?_; (repeat (first | with_reducible exact Ext.rf _ | with_reducible assumption | with_reducible refine Ext.al ?_ _ | with_reducible refine Ext.dr ?_ | with_reducible refine Ext.dn ?_ _ | ((with_reducible refine Ext.st _ ?_ ?_); focus (first | omega | (simp; omega) | simp)) | with_reducible refine Ext.tr ?_ (by assumption) | with_reducible refine Ext.tr ?_ (up_ext (by assumption)) | with_reducible refine Ext.of (by assumption) ?_))))).mono ?_); rintro e w' ⟨rfl, hb⟩; obtain ⟨hc, hf, hl, hz, -⟩ := kept hb; (try simp at hz)))
  all_goals (try simp only [Exit.jump])
  all_goals (refine bodyPost_ret (v := .tuple #[(settlesM ⟨6, cur, nxt, gen, tick, ver⟩ pick).v, .bool true]) (by simp [results, Try.results35, go_sem, *]) rfl ⟨rfl, ?_⟩; (repeat (first | with_reducible exact Ext.rf _ | with_reducible assumption | with_reducible refine Ext.al ?_ _ | with_reducible refine Ext.dr ?_ | with_reducible refine Ext.dn ?_ _ | ((with_reducible refine Ext.st _ ?_ ?_); focus (first | omega | (simp; omega) | simp)) | with_reducible refine Ext.tr ?_ (by assumption) | with_reducible refine Ext.tr ?_ (up_ext (by assumption)) | with_reducible refine Ext.of (by assumption) ?_)))

theorem deathM_no {m : Mo} {dead pick : Int} (h : deathB m dead pick = false) : deathM m dead pick = m := by unfold deathM; rw [h]; rfl
theorem death_any (m : Mo) (dead pick : Int) (w : World) (h0 : 0 ≤ m.ph) :
    Calls Try.prog 35 #[mo m.ph m.cur m.nxt m.gen m.tick m.ver, .int .i64 dead, .int .i64 pick] w fun e w' => e = .returned (.tuple #[(deathM m dead pick).v, .bool (deathB m dead pick)]) ∧ Ext w w' := by
  cases hr : m.right
  · have hB : deathB m dead pick = false := by unfold deathB; rw [hr]; rfl
    rw [deathM_no hB, hB]
    exact death_a m dead pick w h0 hr
  cases ho : ofM m dead
  · have hB : deathB m dead pick = false := by unfold deathB; rw [hr, ho]; rfl
    rw [deathM_no hB, hB]
    exact death_b m dead pick w h0 hr ho
  cases b1 : (pick == dead)
  case true =>
    have hB : deathB m dead pick = false := by unfold deathB; rw [hr, ho, b1]; rfl
    rw [deathM_no hB, hB]
    exact death_c m dead pick w h0 hr ho b1
  cases b2 : decide (pick < -1)
  case true =>
    have hB : deathB m dead pick = false := by unfold deathB; rw [hr, ho, b1, show decide (-1 ≤ pick) = false from decide_eq_false (by have := of_decide_eq_true b2; omega)]; rfl
    rw [deathM_no hB, hB]
    exact death_d m dead pick w h0 hr ho b1 b2
  cases b3 : decide (6 ≤ pick)
  case true =>
    have hB : deathB m dead pick = false := by unfold deathB; rw [show decide (pick < 6) = false from decide_eq_false (by have := of_decide_eq_true b3; omega)]; simp
    rw [deathM_no hB, hB]
    exact death_e m dead pick w h0 hr ho b1 b2 b3
  have hB : deathB m dead pick = true := by
    have := of_decide_eq_false b2; have := of_decide_eq_false b3
    unfold deathB; rw [hr, ho, b1, show decide (pick < 6) = true from decide_eq_true (by omega), show decide (-1 ≤ pick) = true from decide_eq_true (by omega)]; rfl
  have hM : deathM m dead pick = wayM m pick (m.cur == dead) := by unfold deathM; rw [hB]; rfl
  rw [hM, hB]
  have hph : m.ph = 1 ∨ m.ph = 2 ∨ m.ph = 3 ∨ m.ph = 4 ∨ m.ph = 5 ∨ m.ph = 6 := by
    have h7 : m.ph < 7 := by unfold Mo.right at hr; simp at hr; omega
    have hne : m.ph ≠ 0 := fun h => by
      unfold Mo.right whoM at hr
      unfold ofM at ho
      rw [if_pos h] at hr
      simp at hr ho
      omega
    omega
  clear hM hB
  obtain ⟨ph, cur, nxt, gen, tick, ver⟩ := m
  dsimp only at hph
  rcases hph with rfl | rfl | rfl | rfl | rfl | rfl
  · exact death_p1 cur nxt gen tick ver dead pick w hr ho b1 b2 b3
  · exact death_p2 cur nxt gen tick ver dead pick w hr ho b1 b2 b3
  · exact death_p3 cur nxt gen tick ver dead pick w hr ho b1 b2 b3
  · exact death_p4 cur nxt gen tick ver dead pick w hr ho b1 b2 b3
  · exact death_p5 cur nxt gen tick ver dead pick w hr ho b1 b2 b3
  · exact death_p6 cur nxt gen tick ver dead pick w hr ho b1 b2 b3

end Go.Proofs.Ytlacidecomflkaa
