/- Moves: settling, beginning anew, what becomes of errors. -/
import Derived.Test.YtlacidecomflkaaD1
set_option linter.unusedSimpArgs false
set_option linter.unusedVariables false
namespace Go.Proofs.Ytlacidecomflkaa
open Go.RowKit

theorem Mo.right_bd {m : Mo} (h : m.right = true) : 0 ≤ m.gen ∧ m.gen ≤ 2147483647 := by
  unfold Mo.right genB at h
  simp at h
  omega
def settleM (m : Mo) (to' : Int) : Mo × Int :=
  if (!m.right || !nodeB to') = true then (m, 2) else if 2147483645 < m.gen then (m, 150) else (⟨6, -1, to', m.gen + 1, m.tick, m.ver⟩, 0)
def againM (m : Mo) (to' : Int) : Mo × Int :=
  if (!m.right || !nodeB to' || m.cur == to') = true then (m, 2) else if m.ph < 2 ∨ 5 < m.ph then (m, 223) else if 2147483645 < m.gen then (m, 150) else (⟨2, m.cur, to', m.gen + 1, m.tick, m.ver⟩, 0)
def freeM (m : Mo) : Mo := ⟨0, -1, -1, m.gen, m.tick, m.ver⟩
def doneM (m : Mo) (r : Mo × Int) : Mo := if r.2 = 0 then r.1 else freeM m
theorem ret_me {x y : Mo} {a b : Int} (h : (x, a) = (y, b)) : Ending.returned (.tuple #[x.v, .int .i64 a]) = .returned (.tuple #[y.v, .int .i64 b]) := by
  simp only [Prod.mk.injEq] at h
  rw [h.1, h.2]
theorem ret_mo {x y : Mo} (h : x = y) : Ending.returned x.v = .returned y.v := by rw [h]

set_option maxHeartbeats 2000000 in
theorem mnew_any  (w : World)  :
    Calls Try.prog 98 #[] w fun e w' => e = .returned (mo 0 (-1) (-1) 0 0 0) ∧ Ext w w' := by
  go_enter Try.func98, Try.ntmps98
  go_wp2
  all_goals first
    | (refine bodyPost_ret (v := mo 0 (-1) (-1) 0 0 0) ?_ rfl ⟨?_, ?_⟩
       · (simp [results, Try.results98, go_sem, *]; done)
       · (rfl)
       · (repeat (first | with_reducible exact Ext.rf _ | with_reducible assumption | with_reducible refine Ext.al ?_ _ | with_reducible refine Ext.dr ?_ | with_reducible refine Ext.dn ?_ _ | ((with_reducible refine Ext.st _ ?_ ?_); focus (first | omega | (simp; omega) | simp)) | with_reducible refine Ext.tr ?_ (by assumption) | with_reducible refine Ext.tr ?_ (up_ext (by assumption)) | with_reducible refine Ext.of (by assumption) ?_)))

set_option maxHeartbeats 2000000 in
theorem settle_any (m : Mo) (to' : Int) (w : World) (h0 : 0 ≤ m.ph) :
    Calls Try.prog 90 #[mo m.ph m.cur m.nxt m.gen m.tick m.ver, .int .i64 to'] w fun e w' => e = .returned (.tuple #[(settleM m to').1.v, .int .i64 (settleM m to').2]) ∧ Ext w w' := by
  cases hr : m.right
  · go_enter Try.func90, Try.ntmps90
    go_wp2_with (first | (go_at_call 63; (with_reducible refine (mright_any m _ h0).mono ?_); rw [hr]; rintro e w' ⟨rfl, hb⟩; obtain ⟨hc, hf, hl, hz, -⟩ := kept hb; (try simp at hz)) | (go_at_call 82; (with_reducible refine (mnode_any _ _).mono ?_); rintro e w' ⟨rfl, rfl⟩))
    all_goals first
      | (refine bodyPost_ret (v := .tuple #[m.v, .int .i64 2]) ?_ rfl ⟨?_, ?_⟩
         · (simp [results, Try.results90, go_sem, *]; done)
         · (refine ret_me ?_; first | (simp [settleM, *]; done) | grind [settleM])
         · (repeat (first | with_reducible exact Ext.rf _ | with_reducible assumption | with_reducible refine Ext.al ?_ _ | with_reducible refine Ext.dr ?_ | with_reducible refine Ext.dn ?_ _ | ((with_reducible refine Ext.st _ ?_ ?_); focus (first | omega | (simp; omega) | simp)) | with_reducible refine Ext.tr ?_ (by assumption) | with_reducible refine Ext.tr ?_ (up_ext (by assumption)) | with_reducible refine Ext.of (by assumption) ?_)))

  · have hg := Mo.right_bd hr
    go_enter Try.func90, Try.ntmps90
    go_wp2_with (first | (go_at_call 63; (with_reducible refine (mright_any m _ h0).mono ?_); rw [hr]; rintro e w' ⟨rfl, hb⟩; obtain ⟨hc, hf, hl, hz, -⟩ := kept hb; (try simp at hz)) | (go_at_call 82; (with_reducible refine (mnode_any _ _).mono ?_); rintro e w' ⟨rfl, rfl⟩))
    all_goals first
      | (refine bodyPost_ret (v := .tuple #[m.v, .int .i64 2]) ?_ rfl ⟨?_, ?_⟩
         · (simp [results, Try.results90, go_sem, *]; done)
         · (refine ret_me ?_; first | (simp [settleM, *]; done) | grind [settleM])
         · (repeat (first | with_reducible exact Ext.rf _ | with_reducible assumption | with_reducible refine Ext.al ?_ _ | with_reducible refine Ext.dr ?_ | with_reducible refine Ext.dn ?_ _ | ((with_reducible refine Ext.st _ ?_ ?_); focus (first | omega | (simp; omega) | simp)) | with_reducible refine Ext.tr ?_ (by assumption) | with_reducible refine Ext.tr ?_ (up_ext (by assumption)) | with_reducible refine Ext.of (by assumption) ?_)))
      | (refine bodyPost_ret (v := .tuple #[m.v, .int .i64 150]) ?_ rfl ⟨?_, ?_⟩
         · (simp [results, Try.results90, go_sem, *]; done)
         · (refine ret_me ?_; first | (simp [settleM, *]; done) | grind [settleM])
         · (repeat (first | with_reducible exact Ext.rf _ | with_reducible assumption | with_reducible refine Ext.al ?_ _ | with_reducible refine Ext.dr ?_ | with_reducible refine Ext.dn ?_ _ | ((with_reducible refine Ext.st _ ?_ ?_); focus (first | omega | (simp; omega) | simp)) | with_reducible refine Ext.tr ?_ (by assumption) | with_reducible refine Ext.tr ?_ (up_ext (by assumption)) | with_reducible refine Ext.of (by assumption) ?_)))
      | (refine bodyPost_ret (v := .tuple #[(⟨6, -1, to', m.gen + 1, m.tick, m.ver⟩ : Mo).v, .int .i64 0]) ?_ rfl ⟨?_, ?_⟩
         · (simp [results, Try.results90, go_sem, *]; done)
         · (refine ret_me ?_; first | (simp [settleM, *]; done) | grind [settleM])
         · (repeat (first | with_reducible exact Ext.rf _ | with_reducible assumption | with_reducible refine Ext.al ?_ _ | with_reducible refine Ext.dr ?_ | with_reducible refine Ext.dn ?_ _ | ((with_reducible refine Ext.st _ ?_ ?_); focus (first | omega | (simp; omega) | simp)) | with_reducible refine Ext.tr ?_ (by assumption) | with_reducible refine Ext.tr ?_ (up_ext (by assumption)) | with_reducible refine Ext.of (by assumption) ?_)))


set_option maxHeartbeats 2000000 in
theorem rsettle_any (m : Mo) (to' : Int) (w : World) (h0 : 0 ≤ m.ph) :
    Calls Try.prog 71 #[mo m.ph m.cur m.nxt m.gen m.tick m.ver, .int .i64 to'] w fun e w' => e = .returned (.tuple #[(settleM m to').1.v, .int .i64 (settleM m to').2]) ∧ Ext w w' := by
  cases hr : m.right
  · go_enter Try.func71, Try.ntmps71
    go_wp2_with (first | (go_at_call 36; (with_reducible refine (rright22_any m _ h0).mono ?_); rw [hr]; rintro e w' ⟨rfl, hb⟩; obtain ⟨hc, hf, hl, hz, -⟩ := kept hb; (try simp at hz)) | (go_at_call 89; (with_reducible refine (rnode_any _ _).mono ?_); rintro e w' ⟨rfl, rfl⟩))
    all_goals first
      | (refine bodyPost_ret (v := .tuple #[m.v, .int .i64 2]) ?_ rfl ⟨?_, ?_⟩
         · (simp [results, Try.results71, go_sem, *]; done)
         · (refine ret_me ?_; first | (simp [settleM, *]; done) | grind [settleM])
         · (repeat (first | with_reducible exact Ext.rf _ | with_reducible assumption | with_reducible refine Ext.al ?_ _ | with_reducible refine Ext.dr ?_ | with_reducible refine Ext.dn ?_ _ | ((with_reducible refine Ext.st _ ?_ ?_); focus (first | omega | (simp; omega) | simp)) | with_reducible refine Ext.tr ?_ (by assumption) | with_reducible refine Ext.tr ?_ (up_ext (by assumption)) | with_reducible refine Ext.of (by assumption) ?_)))

  · have hg := Mo.right_bd hr
    go_enter Try.func71, Try.ntmps71
    go_wp2_with (first | (go_at_call 36; (with_reducible refine (rright22_any m _ h0).mono ?_); rw [hr]; rintro e w' ⟨rfl, hb⟩; obtain ⟨hc, hf, hl, hz, -⟩ := kept hb; (try simp at hz)) | (go_at_call 89; (with_reducible refine (rnode_any _ _).mono ?_); rintro e w' ⟨rfl, rfl⟩))
    all_goals first
      | (refine bodyPost_ret (v := .tuple #[m.v, .int .i64 2]) ?_ rfl ⟨?_, ?_⟩
         · (simp [results, Try.results71, go_sem, *]; done)
         · (refine ret_me ?_; first | (simp [settleM, *]; done) | grind [settleM])
         · (repeat (first | with_reducible exact Ext.rf _ | with_reducible assumption | with_reducible refine Ext.al ?_ _ | with_reducible refine Ext.dr ?_ | with_reducible refine Ext.dn ?_ _ | ((with_reducible refine Ext.st _ ?_ ?_); focus (first | omega | (simp; omega) | simp)) | with_reducible refine Ext.tr ?_ (by assumption) | with_reducible refine Ext.tr ?_ (up_ext (by assumption)) | with_reducible refine Ext.of (by assumption) ?_)))
      | (refine bodyPost_ret (v := .tuple #[m.v, .int .i64 150]) ?_ rfl ⟨?_, ?_⟩
         · (simp [results, Try.results71, go_sem, *]; done)
         · (refine ret_me ?_; first | (simp [settleM, *]; done) | grind [settleM])
         · (repeat (first | with_reducible exact Ext.rf _ | with_reducible assumption | with_reducible refine Ext.al ?_ _ | with_reducible refine Ext.dr ?_ | with_reducible refine Ext.dn ?_ _ | ((with_reducible refine Ext.st _ ?_ ?_); focus (first | omega | (simp; omega) | simp)) | with_reducible refine Ext.tr ?_ (by assumption) | with_reducible refine Ext.tr ?_ (up_ext (by assumption)) | with_reducible refine Ext.of (by assumption) ?_)))
      | (refine bodyPost_ret (v := .tuple #[(⟨6, -1, to', m.gen + 1, m.tick, m.ver⟩ : Mo).v, .int .i64 0]) ?_ rfl ⟨?_, ?_⟩
         · (simp [results, Try.results71, go_sem, *]; done)
         · (refine ret_me ?_; first | (simp [settleM, *]; done) | grind [settleM])
         · (repeat (first | with_reducible exact Ext.rf _ | with_reducible assumption | with_reducible refine Ext.al ?_ _ | with_reducible refine Ext.dr ?_ | with_reducible refine Ext.dn ?_ _ | ((with_reducible refine Ext.st _ ?_ ?_); focus (first | omega | (simp; omega) | simp)) | with_reducible refine Ext.tr ?_ (by assumption) | with_reducible refine Ext.tr ?_ (up_ext (by assumption)) | with_reducible refine Ext.of (by assumption) ?_)))


set_option maxHeartbeats 2000000 in
theorem again_any (m : Mo) (to' : Int) (w : World) (h0 : 0 ≤ m.ph) :
    Calls Try.prog 87 #[mo m.ph m.cur m.nxt m.gen m.tick m.ver, .int .i64 to'] w fun e w' => e = .returned (.tuple #[(againM m to').1.v, .int .i64 (againM m to').2]) ∧ Ext w w' := by
  cases hr : m.right
  · go_enter Try.func87, Try.ntmps87
    go_wp2_with (first | (go_at_call 63; (with_reducible refine (mright_any m _ h0).mono ?_); rw [hr]; rintro e w' ⟨rfl, hb⟩; obtain ⟨hc, hf, hl, hz, -⟩ := kept hb; (try simp at hz)) | (go_at_call 82; (with_reducible refine (mnode_any _ _).mono ?_); rintro e w' ⟨rfl, rfl⟩))
    all_goals first
      | (refine bodyPost_ret (v := .tuple #[m.v, .int .i64 2]) ?_ rfl ⟨?_, ?_⟩
         · (simp [results, Try.results87, go_sem, *]; done)
         · (refine ret_me ?_; first | (simp [againM, *]; done) | grind [againM])
         · (repeat (first | with_reducible exact Ext.rf _ | with_reducible assumption | with_reducible refine Ext.al ?_ _ | with_reducible refine Ext.dr ?_ | with_reducible refine Ext.dn ?_ _ | ((with_reducible refine Ext.st _ ?_ ?_); focus (first | omega | (simp; omega) | simp)) | with_reducible refine Ext.tr ?_ (by assumption) | with_reducible refine Ext.tr ?_ (up_ext (by assumption)) | with_reducible refine Ext.of (by assumption) ?_)))

  · have hg := Mo.right_bd hr
    go_enter Try.func87, Try.ntmps87
    go_wp2_with (first | (go_at_call 63; (with_reducible refine (mright_any m _ h0).mono ?_); rw [hr]; rintro e w' ⟨rfl, hb⟩; obtain ⟨hc, hf, hl, hz, -⟩ := kept hb; (try simp at hz)) | (go_at_call 82; (with_reducible refine (mnode_any _ _).mono ?_); rintro e w' ⟨rfl, rfl⟩))
    all_goals first
      | (refine bodyPost_ret (v := .tuple #[m.v, .int .i64 2]) ?_ rfl ⟨?_, ?_⟩
         · (simp [results, Try.results87, go_sem, *]; done)
         · (refine ret_me ?_; first | (simp [againM, *]; done) | grind [againM])
         · (repeat (first | with_reducible exact Ext.rf _ | with_reducible assumption | with_reducible refine Ext.al ?_ _ | with_reducible refine Ext.dr ?_ | with_reducible refine Ext.dn ?_ _ | ((with_reducible refine Ext.st _ ?_ ?_); focus (first | omega | (simp; omega) | simp)) | with_reducible refine Ext.tr ?_ (by assumption) | with_reducible refine Ext.tr ?_ (up_ext (by assumption)) | with_reducible refine Ext.of (by assumption) ?_)))
      | (refine bodyPost_ret (v := .tuple #[m.v, .int .i64 150]) ?_ rfl ⟨?_, ?_⟩
         · (simp [results, Try.results87, go_sem, *]; done)
         · (refine ret_me ?_; first | (simp [againM, *]; done) | grind [againM])
         · (repeat (first | with_reducible exact Ext.rf _ | with_reducible assumption | with_reducible refine Ext.al ?_ _ | with_reducible refine Ext.dr ?_ | with_reducible refine Ext.dn ?_ _ | ((with_reducible refine Ext.st _ ?_ ?_); focus (first | omega | (simp; omega) | simp)) | with_reducible refine Ext.tr ?_ (by assumption) | with_reducible refine Ext.tr ?_ (up_ext (by assumption)) | with_reducible refine Ext.of (by assumption) ?_)))
      | (refine bodyPost_ret (v := .tuple #[m.v, .int .i64 223]) ?_ rfl ⟨?_, ?_⟩
         · (simp [results, Try.results87, go_sem, *]; done)
         · (refine ret_me ?_; first | (simp [againM, *]; done) | grind [againM])
         · (repeat (first | with_reducible exact Ext.rf _ | with_reducible assumption | with_reducible refine Ext.al ?_ _ | with_reducible refine Ext.dr ?_ | with_reducible refine Ext.dn ?_ _ | ((with_reducible refine Ext.st _ ?_ ?_); focus (first | omega | (simp; omega) | simp)) | with_reducible refine Ext.tr ?_ (by assumption) | with_reducible refine Ext.tr ?_ (up_ext (by assumption)) | with_reducible refine Ext.of (by assumption) ?_)))
      | (refine bodyPost_ret (v := .tuple #[(⟨2, m.cur, to', m.gen + 1, m.tick, m.ver⟩ : Mo).v, .int .i64 0]) ?_ rfl ⟨?_, ?_⟩
         · (simp [results, Try.results87, go_sem, *]; done)
         · (refine ret_me ?_; first | (simp [againM, *]; done) | grind [againM])
         · (repeat (first | with_reducible exact Ext.rf _ | with_reducible assumption | with_reducible refine Ext.al ?_ _ | with_reducible refine Ext.dr ?_ | with_reducible refine Ext.dn ?_ _ | ((with_reducible refine Ext.st _ ?_ ?_); focus (first | omega | (simp; omega) | simp)) | with_reducible refine Ext.tr ?_ (by assumption) | with_reducible refine Ext.tr ?_ (up_ext (by assumption)) | with_reducible refine Ext.of (by assumption) ?_)))


set_option maxHeartbeats 2000000 in
theorem done_any (m o : Mo) (n : Int) (w : World) :
    Calls Try.prog 88 #[mo m.ph m.cur m.nxt m.gen m.tick m.ver, mo o.ph o.cur o.nxt o.gen o.tick o.ver, .int .i64 n] w fun e w' => e = .returned (doneM m (o, n)).v ∧ Ext w w' := by
  by_cases hn : n = 0
  · subst hn
    go_enter Try.func88, Try.ntmps88
    go_wp2
    refine bodyPost_ret (v := o.v) (by simp [results, Try.results88, go_sem]) rfl ⟨ret_mo rfl, ?_⟩
    (repeat (first | with_reducible exact Ext.rf _ | with_reducible assumption | with_reducible refine Ext.al ?_ _ | with_reducible refine Ext.dr ?_ | with_reducible refine Ext.dn ?_ _ | ((with_reducible refine Ext.st _ ?_ ?_); focus (first | omega | (simp; omega) | simp)) | with_reducible refine Ext.tr ?_ (by assumption) | with_reducible refine Ext.tr ?_ (up_ext (by assumption)) | with_reducible refine Ext.of (by assumption) ?_))
  · have hn' : (n == 0) = false := by simpa using hn
    have hd : doneM m (o, n) = freeM m := by unfold doneM; rw [if_neg hn]
    rw [hd]
    clear hn
    go_enter Try.func88, Try.ntmps88
    go_wp2_with ((go_at_call 98; (with_reducible refine (mnew_any _).mono ?_); rintro e w' ⟨rfl, hb⟩; obtain ⟨hc, hf, hl, hz, -⟩ := kept hb; (try simp at hz)))
    go_region
    go_wp2
    refine bodyPost_ret (v := (freeM m).v) (by simp [results, Try.results88, go_sem, freeM, *]) rfl ⟨rfl, ?_⟩
    (repeat (first | with_reducible exact Ext.rf _ | with_reducible assumption | with_reducible refine Ext.al ?_ _ | with_reducible refine Ext.dr ?_ | with_reducible refine Ext.dn ?_ _ | ((with_reducible refine Ext.st _ ?_ ?_); focus (first | omega | (simp; omega) | simp)) | with_reducible refine Ext.tr ?_ (by assumption) | with_reducible refine Ext.tr ?_ (up_ext (by assumption)) | with_reducible refine Ext.of (by assumption) ?_))

end Go.Proofs.Ytlacidecomflkaa
