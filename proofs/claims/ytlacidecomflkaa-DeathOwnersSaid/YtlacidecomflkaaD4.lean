/- Deaths: Of, Death, Fill. -/
import Derived.Test.YtlacidecomflkaaD3
set_option linter.unusedSimpArgs false
set_option linter.unusedVariables false
namespace Go.Proofs.Ytlacidecomflkaa
open Go.RowKit

def ofM (m : Mo) (who : Int) : Bool := decide (0 ≤ who) && decide (who < 6) && (who == m.cur || who == m.nxt)
def deathB (m : Mo) (dead pick : Int) : Bool := m.right && ofM m dead && !(pick == dead) && decide (-1 ≤ pick) && decide (pick < 6)
def wayM (m : Mo) (pick : Int) (cb : Bool) : Mo := if m.ph = 1 ∨ m.ph = 6 then settlesM m pick else twoM m pick cb
def deathM (m : Mo) (dead pick : Int) : Mo := if deathB m dead pick = true then wayM m pick (m.cur == dead) else m
def fillB (m : Mo) (pick : Int) : Bool := (settleM m pick).2 == 0 && m.ph == 0
def fillM (m : Mo) (pick : Int) : Mo := if fillB m pick = true then (settleM m pick).1 else m
set_option maxHeartbeats 2000000 in
theorem of_any (m : Mo) (who : Int) (w : World) :
    Calls Try.prog 42 #[mo m.ph m.cur m.nxt m.gen m.tick m.ver, .int .i64 who] w fun e w' => e = .returned (.bool (ofM m who)) ∧ Ext w w' := by
  go_enter Try.func42, Try.ntmps42
  go_wp2
  all_goals go_ret
  all_goals refine ⟨ret_bool ?_, ?_⟩
  all_goals first | (guard_target =~ Below _ _ _; (repeat (first | with_reducible exact Ext.rf _ | with_reducible assumption | with_reducible refine Ext.al ?_ _ | with_reducible refine Ext.dr ?_ | with_reducible refine Ext.dn ?_ _ | ((with_reducible refine Ext.st _ ?_ ?_); focus (first | omega | (simp; omega) | simp)) | with_reducible refine Ext.tr ?_ (by assumption) | with_reducible refine Ext.tr ?_ (up_ext (by assumption)) | with_reducible refine Ext.of (by assumption) ?_))) | (simp [ofM, *]; done) | grind [ofM]
theorem ret_mb {x y : Mo} {a b : Bool} (h : x = y) (h' : a = b) : Ending.returned (.tuple #[x.v, .bool a]) = .returned (.tuple #[y.v, .bool b]) := by rw [h, h']
set_option maxHeartbeats 2000000 in
theorem fill_mo_any (m : Mo) (pick : Int) (w : World) (h0 : 0 ≤ m.ph) :
    Calls Try.prog 68 #[mo m.ph m.cur m.nxt m.gen m.tick m.ver, .int .i64 pick] w fun e w' => e = .returned (.tuple #[(fillM m pick).v, .bool (fillB m pick)]) ∧ Ext w w' := by
  cases h1 : ((settleM m pick).2 == 0)
  · have hB : fillB m pick = false := by unfold fillB; rw [h1]; rfl
    have hM : fillM m pick = m := by unfold fillM; rw [hB]; rfl
    rw [hB, hM]
    clear hB hM
    go_enter Try.func68, Try.ntmps68
    go_wp2_with ((go_at_call 90; (with_reducible refine (settle_any m pick _ h0).mono ?_); rintro e w' ⟨rfl, hb⟩; obtain ⟨hc, hf, hl, hz, -⟩ := kept hb; (try simp at hz)))
    refine bodyPost_ret (v := .tuple #[m.v, .bool false]) (by simp [results, Try.results68, go_sem, *]) rfl ⟨rfl, ?_⟩
    (repeat (first | with_reducible exact Ext.rf _ | with_reducible assumption | with_reducible refine Ext.al ?_ _ | with_reducible refine Ext.dr ?_ | with_reducible refine Ext.dn ?_ _ | ((with_reducible refine Ext.st _ ?_ ?_); focus (first | omega | (simp; omega) | simp)) | with_reducible refine Ext.tr ?_ (by assumption) | with_reducible refine Ext.tr ?_ (up_ext (by assumption)) | with_reducible refine Ext.of (by assumption) ?_))
  cases h2 : (m.ph == 0)
  · have hB : fillB m pick = false := by unfold fillB; rw [h1, h2]; rfl
    have hM : fillM m pick = m := by unfold fillM; rw [hB]; rfl
    rw [hB, hM]
    clear hB hM
    go_enter Try.func68, Try.ntmps68
    go_wp2_with ((go_at_call 90; (with_reducible refine (settle_any m pick _ h0).mono ?_); rintro e w' ⟨rfl, hb⟩; obtain ⟨hc, hf, hl, hz, -⟩ := kept hb; (try simp at hz)))
    refine bodyPost_ret (v := .tuple #[m.v, .bool false]) (by simp [results, Try.results68, go_sem, *]) rfl ⟨rfl, ?_⟩
    (repeat (first | with_reducible exact Ext.rf _ | with_reducible assumption | with_reducible refine Ext.al ?_ _ | with_reducible refine Ext.dr ?_ | with_reducible refine Ext.dn ?_ _ | ((with_reducible refine Ext.st _ ?_ ?_); focus (first | omega | (simp; omega) | simp)) | with_reducible refine Ext.tr ?_ (by assumption) | with_reducible refine Ext.tr ?_ (up_ext (by assumption)) | with_reducible refine Ext.of (by assumption) ?_))
  · have hB : fillB m pick = true := by unfold fillB; rw [h1, h2]; rfl
    have hM : fillM m pick = (settleM m pick).1 := by unfold fillM; rw [hB]; rfl
    rw [hB, hM]
    clear hB hM
    go_enter Try.func68, Try.ntmps68
    go_wp2_with ((go_at_call 90; (with_reducible refine (settle_any m pick _ h0).mono ?_); rintro e w' ⟨rfl, hb⟩; obtain ⟨hc, hf, hl, hz, -⟩ := kept hb; (try simp at hz)))
    refine bodyPost_ret (v := .tuple #[(settleM m pick).1.v, .bool true]) (by simp [results, Try.results68, go_sem, *]) rfl ⟨rfl, ?_⟩
    (repeat (first | with_reducible exact Ext.rf _ | with_reducible assumption | with_reducible refine Ext.al ?_ _ | with_reducible refine Ext.dr ?_ | with_reducible refine Ext.dn ?_ _ | ((with_reducible refine Ext.st _ ?_ ?_); focus (first | omega | (simp; omega) | simp)) | with_reducible refine Ext.tr ?_ (by assumption) | with_reducible refine Ext.tr ?_ (up_ext (by assumption)) | with_reducible refine Ext.of (by assumption) ?_))

set_option maxHeartbeats 2000000 in
theorem death_a (m : Mo) (dead pick : Int) (w : World) (h0 : 0 ≤ m.ph) (hr : m.right = false) :
    Calls Try.prog 35 #[mo m.ph m.cur m.nxt m.gen m.tick m.ver, .int .i64 dead, .int .i64 pick] w fun e w' => e = .returned (.tuple #[m.v, .bool false]) ∧ Ext w w' := by
  go_enter Try.func35, Try.ntmps35
  go_wp2
  refine wp_scope_fwd 0 rfl ?_
  go_wp2_with ((go_at_call 63; (with_reducible refine (mright_any m _ h0).mono ?_); rw [hr]; rintro e w' ⟨rfl, hb⟩; obtain ⟨hc, hf, hl, hz, -⟩ := kept hb; (try simp at hz)))
  go_step3
  refine ⟨rfl, ?_⟩
  go_wp2
  rw [Exit.noGoto_ret]
  refine bodyPost_ret (v := .tuple #[m.v, .bool false]) (by simp [results, Try.results35, go_sem, *]) rfl ⟨rfl, ?_⟩
  (repeat (first | with_reducible exact Ext.rf _ | with_reducible assumption | with_reducible refine Ext.al ?_ _ | with_reducible refine Ext.dr ?_ | with_reducible refine Ext.dn ?_ _ | ((with_reducible refine Ext.st _ ?_ ?_); focus (first | omega | (simp; omega) | simp)) | with_reducible refine Ext.tr ?_ (by assumption) | with_reducible refine Ext.tr ?_ (up_ext (by assumption)) | with_reducible refine Ext.of (by assumption) ?_))

set_option maxHeartbeats 2000000 in
theorem death_b (m : Mo) (dead pick : Int) (w : World) (h0 : 0 ≤ m.ph) (hr : m.right = true) (ho : ofM m dead = false) :
    Calls Try.prog 35 #[mo m.ph m.cur m.nxt m.gen m.tick m.ver, .int .i64 dead, .int .i64 pick] w fun e w' => e = .returned (.tuple #[m.v, .bool false]) ∧ Ext w w' := by
  go_enter Try.func35, Try.ntmps35
  go_wp2
  refine wp_scope_fwd 0 rfl ?_
  go_wp2_with (first | (go_at_call 63; (with_reducible refine (mright_any m _ h0).mono ?_); rw [hr]; rintro e w' ⟨rfl, hb⟩; obtain ⟨hc, hf, hl, hz, -⟩ := kept hb; (try simp at hz)) | (go_at_call 42; (with_reducible refine (of_any m dead _).mono ?_); rw [ho]; rintro e w' ⟨rfl, hb⟩; obtain ⟨hc, hf, hl, hz, -⟩ := kept hb; (try simp at hz)))
  go_step3
  refine ⟨rfl, ?_⟩
  go_wp2
  rw [Exit.noGoto_ret]
  refine bodyPost_ret (v := .tuple #[m.v, .bool false]) (by simp [results, Try.results35, go_sem, *]) rfl ⟨rfl, ?_⟩
  (repeat (first | with_reducible exact Ext.rf _ | with_reducible assumption | with_reducible refine Ext.al ?_ _ | with_reducible refine Ext.dr ?_ | with_reducible refine Ext.dn ?_ _ | ((with_reducible refine Ext.st _ ?_ ?_); focus (first | omega | (simp; omega) | simp)) | with_reducible refine Ext.tr ?_ (by assumption) | with_reducible refine Ext.tr ?_ (up_ext (by assumption)) | with_reducible refine Ext.of (by assumption) ?_))

set_option maxHeartbeats 2000000 in
theorem death_c (m : Mo) (dead pick : Int) (w : World) (h0 : 0 ≤ m.ph) (hr : m.right = true) (ho : ofM m dead = true) (b1 : (pick == dead) = true) :
    Calls Try.prog 35 #[mo m.ph m.cur m.nxt m.gen m.tick m.ver, .int .i64 dead, .int .i64 pick] w fun e w' => e = .returned (.tuple #[m.v, .bool false]) ∧ Ext w w' := by
  go_enter Try.func35, Try.ntmps35
  go_wp2
  refine wp_scope_fwd 0 rfl ?_
  go_wp2_with (first | (go_at_call 63; (with_reducible refine (mright_any m _ h0).mono ?_); rw [hr]; rintro e w' ⟨rfl, hb⟩; obtain ⟨hc, hf, hl, hz, -⟩ := kept hb; (try simp at hz)) | (go_at_call 42; (with_reducible refine (of_any m dead _).mono ?_); rw [ho]; rintro e w' ⟨rfl, hb⟩; obtain ⟨hc, hf, hl, hz, -⟩ := kept hb; (try simp at hz)))
  go_step3
  refine ⟨rfl, ?_⟩
  go_wp2
  rw [Exit.noGoto_ret]
  refine bodyPost_ret (v := .tuple #[m.v, .bool false]) (by simp [results, Try.results35, go_sem, *]) rfl ⟨rfl, ?_⟩
  (repeat (first | with_reducible exact Ext.rf _ | with_reducible assumption | with_reducible refine Ext.al ?_ _ | with_reducible refine Ext.dr ?_ | with_reducible refine Ext.dn ?_ _ | ((with_reducible refine Ext.st _ ?_ ?_); focus (first | omega | (simp; omega) | simp)) | with_reducible refine Ext.tr ?_ (by assumption) | with_reducible refine Ext.tr ?_ (up_ext (by assumption)) | with_reducible refine Ext.of (by assumption) ?_))

set_option maxHeartbeats 2000000 in
theorem death_d (m : Mo) (dead pick : Int) (w : World) (h0 : 0 ≤ m.ph) (hr : m.right = true) (ho : ofM m dead = true) (b1 : (pick == dead) = false) (b2 : decide (pick < -1) = true) :
    Calls Try.prog 35 #[mo m.ph m.cur m.nxt m.gen m.tick m.ver, .int .i64 dead, .int .i64 pick] w fun e w' => e = .returned (.tuple #[m.v, .bool false]) ∧ Ext w w' := by
  go_enter Try.func35, Try.ntmps35
  go_wp2
  refine wp_scope_fwd 0 rfl ?_
  go_wp2_with (first | (go_at_call 63; (with_reducible refine (mright_any m _ h0).mono ?_); rw [hr]; rintro e w' ⟨rfl, hb⟩; obtain ⟨hc, hf, hl, hz, -⟩ := kept hb; (try simp at hz)) | (go_at_call 42; (with_reducible refine (of_any m dead _).mono ?_); rw [ho]; rintro e w' ⟨rfl, hb⟩; obtain ⟨hc, hf, hl, hz, -⟩ := kept hb; (try simp at hz)))
  go_step3
  refine ⟨rfl, ?_⟩
  go_wp2
  rw [Exit.noGoto_ret]
  refine bodyPost_ret (v := .tuple #[m.v, .bool false]) (by simp [results, Try.results35, go_sem, *]) rfl ⟨rfl, ?_⟩
  (repeat (first | with_reducible exact Ext.rf _ | with_reducible assumption | with_reducible refine Ext.al ?_ _ | with_reducible refine Ext.dr ?_ | with_reducible refine Ext.dn ?_ _ | ((with_reducible refine Ext.st _ ?_ ?_); focus (first | omega | (simp; omega) | simp)) | with_reducible refine Ext.tr ?_ (by assumption) | with_reducible refine Ext.tr ?_ (up_ext (by assumption)) | with_reducible refine Ext.of (by assumption) ?_))

set_option maxHeartbeats 2000000 in
theorem death_e (m : Mo) (dead pick : Int) (w : World) (h0 : 0 ≤ m.ph) (hr : m.right = true) (ho : ofM m dead = true) (b1 : (pick == dead) = false) (b2 : decide (pick < -1) = false) (b3 : decide (6 ≤ pick) = true) :
    Calls Try.prog 35 #[mo m.ph m.cur m.nxt m.gen m.tick m.ver, .int .i64 dead, .int .i64 pick] w fun e w' => e = .returned (.tuple #[m.v, .bool false]) ∧ Ext w w' := by
  go_enter Try.func35, Try.ntmps35
  go_wp2
  refine wp_scope_fwd 0 rfl ?_
  go_wp2_with (first | (go_at_call 63; (with_reducible refine (mright_any m _ h0).mono ?_); rw [hr]; rintro e w' ⟨rfl, hb⟩; obtain ⟨hc, hf, hl, hz, -⟩ := kept hb; (try simp at hz)) | (go_at_call 42; (with_reducible refine (of_any m dead _).mono ?_); rw [ho]; rintro e w' ⟨rfl, hb⟩; obtain ⟨hc, hf, hl, hz, -⟩ := kept hb; (try simp at hz)))
  go_step3
  refine ⟨rfl, ?_⟩
  go_wp2
  rw [Exit.noGoto_ret]
  refine bodyPost_ret (v := .tuple #[m.v, .bool false]) (by simp [results, Try.results35, go_sem, *]) rfl ⟨rfl, ?_⟩
  (repeat (first | with_reducible exact Ext.rf _ | with_reducible assumption | with_reducible refine Ext.al ?_ _ | with_reducible refine Ext.dr ?_ | with_reducible refine Ext.dn ?_ _ | ((with_reducible refine Ext.st _ ?_ ?_); focus (first | omega | (simp; omega) | simp)) | with_reducible refine Ext.tr ?_ (by assumption) | with_reducible refine Ext.tr ?_ (up_ext (by assumption)) | with_reducible refine Ext.of (by assumption) ?_))

end Go.Proofs.Ytlacidecomflkaa
