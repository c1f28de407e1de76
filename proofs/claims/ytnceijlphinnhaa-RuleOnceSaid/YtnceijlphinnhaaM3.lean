/- What Grant, Drain, Retire, Chain, Probe and Accepts of the package mode return, and what those of the reference return: the same. -/
import Derived.Test.YtnceijlphinnhaaM2
namespace Go.Proofs.Ytnceijlphinnhaa
open Go.RowKit

@[go_sem ↓ high] theorem neq_mode (k p g : Int) (r : Bool) (k' p' g' : Int) (r' : Bool) (w : World) :
    (binOp .neq 23 (mv k p g r) (mv k' p' g' r')).run Try.prog w = .ok (.bool (!(k == k' && p == p' && g == g' && r == r'))) w := by
  go_simp
  by_cases h1 : k = k' <;> by_cases h2 : p = p' <;> by_cases h3 : g = g' <;> by_cases h4 : r = r' <;> simp [*]

theorem ret_mb {x x' : Md} {b b' : Bool} (h : x = x') (h2 : b = b') : Ending.returned (.tuple #[x.v, .bool b]) = .returned (.tuple #[x'.v, .bool b']) := by rw [h, h2]
theorem ret_ib {x x' : Int} {b b' : Bool} (h : x = x') (h2 : b = b') : Ending.returned (.tuple #[.int .i64 x, .bool b]) = .returned (.tuple #[.int .i64 x', .bool b']) := by rw [h, h2]

def grant (m : Md) (gen prev : Int) : Md := newer m gen (grantM gen prev)
def grantB (m : Md) (gen prev : Int) : Bool := newerB m gen (grantM gen prev)
def drain (m : Md) (gen succ : Int) : Md := newer m gen (drainM gen succ)
def drainB (m : Md) (gen succ : Int) : Bool := newerB m gen (drainM gen succ)
def retireB (m : Md) (gen : Int) : Bool := m.right && m.k == 3 && m.g == gen && !m.r
def retire (m : Md) (gen : Int) : Md := if retireB m gen then { m with r := true } else m
def peerB (m : Md) (so : Bool) : Bool := so && m.right
def peerI (m : Md) (so : Bool) : Int := if peerB m so then m.p else -1
def chainB (m : Md) : Bool := m.right && (m.k == 2 || m.k == 3)
def chainI (m : Md) : Int := if chainB m then m.p else -1
def probeB (m : Md) : Bool := m.right && m.k == 2
def probeI (m : Md) : Int := if probeB m then m.p else -1
def acceptsB (m : Md) (gen : Int) : Bool := m.right && (m.k == 1 || (m.k == 2 && m.g == gen))

set_option maxHeartbeats 1000000 in
theorem grant_any (m : Md) (gen prev : Int) (w : World) (h0 : 0 ≤ m.k) :
    Calls Try.prog 12 #[m.v, .int .i64 gen, .int .i64 prev] w fun e w' => e = .returned (.tuple #[(grant m gen prev).v, .bool (grantB m gen prev)]) ∧ Ext w w' := by
  go_enter Try.func12, Try.ntmps12
  go_wp2_with ((go_at_call 39; (with_reducible refine (newer_grant m gen prev _ _ _ h0 ?_ ?_ ?_ ?_).mono ?_); go_simp; go_simp; go_simp; go_simp; rintro e w' ⟨rfl, hb⟩; obtain ⟨hc, hf, hl, hz, -⟩ := kept hb; try simp at hz))
  all_goals first
    | (refine bodyPost_ret (v := .tuple #[(grant m gen prev).v, .bool (grantB m gen prev)]) ?_ rfl ⟨?_, ?_⟩
       · (simp [results, Try.results12, go_sem, grant, grantB, *]; done)
       · (rfl)
       · (repeat (first | with_reducible exact Ext.rf _ | with_reducible assumption | with_reducible refine Ext.al ?_ _ | with_reducible refine Ext.dr ?_ | ((with_reducible refine Ext.st _ ?_ ?_); focus (first | omega | (simp; omega) | simp)) | with_reducible refine Ext.tr ?_ (by assumption))))

set_option maxHeartbeats 1000000 in
theorem drain_any (m : Md) (gen prev : Int) (w : World) (h0 : 0 ≤ m.k) :
    Calls Try.prog 14 #[m.v, .int .i64 gen, .int .i64 prev] w fun e w' => e = .returned (.tuple #[(drain m gen prev).v, .bool (drainB m gen prev)]) ∧ Ext w w' := by
  go_enter Try.func14, Try.ntmps14
  go_wp2_with ((go_at_call 39; (with_reducible refine (newer_drain m gen prev _ _ _ h0 ?_ ?_ ?_ ?_).mono ?_); go_simp; go_simp; go_simp; go_simp; rintro e w' ⟨rfl, hb⟩; obtain ⟨hc, hf, hl, hz, -⟩ := kept hb; try simp at hz))
  all_goals first
    | (refine bodyPost_ret (v := .tuple #[(drain m gen prev).v, .bool (drainB m gen prev)]) ?_ rfl ⟨?_, ?_⟩
       · (simp [results, Try.results14, go_sem, drain, drainB, *]; done)
       · (rfl)
       · (repeat (first | with_reducible exact Ext.rf _ | with_reducible assumption | with_reducible refine Ext.al ?_ _ | with_reducible refine Ext.dr ?_ | ((with_reducible refine Ext.st _ ?_ ?_); focus (first | omega | (simp; omega) | simp)) | with_reducible refine Ext.tr ?_ (by assumption))))

set_option maxHeartbeats 1000000 in
theorem retire_any (m : Md) (gen : Int) (w : World) (h0 : 0 ≤ m.k) :
    Calls Try.prog 16 #[m.v, .int .i64 gen] w fun e w' => e = .returned (.tuple #[(retire m gen).v, .bool (retireB m gen)]) ∧ Ext w w' := by
  cases hk : (m.k == 3) <;> cases hg : (m.g == gen) <;> cases hr : m.r
  all_goals
    go_enter Try.func16, Try.ntmps16
    go_wp2_with ((go_at_call 24; (with_reducible refine (right_any _ _ _ _ _ (by omega)).mono ?_); rintro e w' ⟨rfl, hb⟩; obtain ⟨hc, hf, hl, hz, -⟩ := kept hb; try simp at hz))
    all_goals first
      | (refine bodyPost_ret (v := .tuple #[m.v, .bool false]) ?_ rfl ⟨?_, ?_⟩
         · (simp [results, Try.results16, go_sem, *]; done)
         · (refine ret_mb (x := m) ?_ ?_ <;> grind [retire, retireB, Md.right])
         · (repeat (first | with_reducible exact Ext.rf _ | with_reducible assumption | with_reducible refine Ext.al ?_ _ | with_reducible refine Ext.dr ?_ | ((with_reducible refine Ext.st _ ?_ ?_); focus (first | omega | (simp; omega) | simp)) | with_reducible refine Ext.tr ?_ (by assumption))))
      | (refine bodyPost_ret (v := .tuple #[(⟨3, m.p, gen, true⟩ : Md).v, .bool true]) ?_ rfl ⟨?_, ?_⟩
         · (simp [results, Try.results16, go_sem, *]; done)
         · (refine ret_mb (x := ⟨3, m.p, gen, true⟩) ?_ ?_ <;> grind [retire, retireB, Md.right])
         · (repeat (first | with_reducible exact Ext.rf _ | with_reducible assumption | with_reducible refine Ext.al ?_ _ | with_reducible refine Ext.dr ?_ | ((with_reducible refine Ext.st _ ?_ ?_); focus (first | omega | (simp; omega) | simp)) | with_reducible refine Ext.tr ?_ (by assumption))))

set_option maxHeartbeats 1000000 in
theorem peer_any (m : Md) (so : Bool) (w : World) (h0 : 0 ≤ m.k) :
    Calls Try.prog 44 #[m.v, .bool so] w fun e w' => e = .returned (.tuple #[.int .i64 (peerI m so), .bool (peerB m so)]) ∧ Ext w w' := by
  go_enter Try.func44, Try.ntmps44
  go_wp2_with ((go_at_call 24; (with_reducible refine (right_md m _ (by assumption)).mono ?_); rintro e w' ⟨rfl, hb⟩; obtain ⟨hc, hf, hl, hz, -⟩ := kept hb; try simp at hz))
  all_goals go_ret2
  all_goals (refine ⟨ret_ib ?_ ?_, ?_⟩)
  all_goals first | (guard_target =~ Below _ _ _; (repeat (first | with_reducible exact Ext.rf _ | with_reducible assumption | with_reducible refine Ext.al ?_ _ | with_reducible refine Ext.dr ?_ | ((with_reducible refine Ext.st _ ?_ ?_); focus (first | omega | (simp; omega) | simp)) | with_reducible refine Ext.tr ?_ (by assumption)))) | (simp [peerI, peerB, *]; done) | grind [peerI, peerB]

set_option maxHeartbeats 1000000 in
theorem chain_any (m : Md) (w : World) (h0 : 0 ≤ m.k) :
    Calls Try.prog 20 #[m.v] w fun e w' => e = .returned (.tuple #[.int .i64 (chainI m), .bool (chainB m)]) ∧ Ext w w' := by
  go_enter Try.func20, Try.ntmps20
  go_wp2_with ((go_at_call 44; (with_reducible refine (peer_any ⟨_, _, _, _⟩ _ _ (by first | assumption | (dsimp only; omega))).mono ?_); rintro e w' ⟨rfl, hb⟩; obtain ⟨hc, hf, hl, hz, -⟩ := kept hb; try simp at hz))
  all_goals go_ret2
  all_goals (refine ⟨ret_ib ?_ ?_, ?_⟩)
  all_goals first | (guard_target =~ Below _ _ _; (repeat (first | with_reducible exact Ext.rf _ | with_reducible assumption | with_reducible refine Ext.al ?_ _ | with_reducible refine Ext.dr ?_ | ((with_reducible refine Ext.st _ ?_ ?_); focus (first | omega | (simp; omega) | simp)) | with_reducible refine Ext.tr ?_ (by assumption)))) | grind [chainI, chainB, peerI, peerB, Md.right]

set_option maxHeartbeats 1000000 in
theorem probe_any (m : Md) (w : World) (h0 : 0 ≤ m.k) :
    Calls Try.prog 22 #[m.v] w fun e w' => e = .returned (.tuple #[.int .i64 (probeI m), .bool (probeB m)]) ∧ Ext w w' := by
  go_enter Try.func22, Try.ntmps22
  go_wp2_with ((go_at_call 44; (with_reducible refine (peer_any ⟨_, _, _, _⟩ _ _ (by first | assumption | (dsimp only; omega))).mono ?_); rintro e w' ⟨rfl, hb⟩; obtain ⟨hc, hf, hl, hz, -⟩ := kept hb; try simp at hz))
  all_goals go_ret2
  all_goals (refine ⟨ret_ib ?_ ?_, ?_⟩)
  all_goals first | (guard_target =~ Below _ _ _; (repeat (first | with_reducible exact Ext.rf _ | with_reducible assumption | with_reducible refine Ext.al ?_ _ | with_reducible refine Ext.dr ?_ | ((with_reducible refine Ext.st _ ?_ ?_); focus (first | omega | (simp; omega) | simp)) | with_reducible refine Ext.tr ?_ (by assumption)))) | grind [probeI, probeB, peerI, peerB, Md.right]

set_option maxHeartbeats 1000000 in
theorem accepts_any (m : Md) (gen : Int) (w : World) (h0 : 0 ≤ m.k) :
    Calls Try.prog 26 #[m.v, .int .i64 gen] w fun e w' => e = .returned (.bool (acceptsB m gen)) ∧ Ext w w' := by
  go_enter Try.func26, Try.ntmps26
  go_wp2_with ((go_at_call 24; (with_reducible refine (right_md m _ (by assumption)).mono ?_); rintro e w' ⟨rfl, hb⟩; obtain ⟨hc, hf, hl, hz, -⟩ := kept hb; try simp at hz))
  all_goals go_ret
  all_goals (refine ⟨ret_bool ?_, ?_⟩)
  all_goals first | (guard_target =~ Below _ _ _; (repeat (first | with_reducible exact Ext.rf _ | with_reducible assumption | with_reducible refine Ext.al ?_ _ | with_reducible refine Ext.dr ?_ | ((with_reducible refine Ext.st _ ?_ ?_); focus (first | omega | (simp; omega) | simp)) | with_reducible refine Ext.tr ?_ (by assumption)))) | grind [acceptsB]

set_option maxHeartbeats 1000000 in
theorem rnew_any (w : World) :
    Calls Try.prog 19 #[] w fun e w' => e = .returned (mv 0 (-1) 0 false) ∧ Ext w w' := by
  go_enter Try.func19, Try.ntmps19
  go_wp2_with (fail)
  all_goals first
    | (refine bodyPost_ret (v := mv 0 (-1) 0 false) ?_ rfl ⟨?_, ?_⟩
       · (simp [results, Try.results19, go_sem, *]; done)
       · (rfl)
       · (repeat (first | with_reducible exact Ext.rf _ | with_reducible assumption | with_reducible refine Ext.al ?_ _ | with_reducible refine Ext.dr ?_ | ((with_reducible refine Ext.st _ ?_ ?_); focus (first | omega | (simp; omega) | simp)) | with_reducible refine Ext.tr ?_ (by assumption))))

theorem rgen_any (n : Int) (w : World) :
    Calls Try.prog 41 #[.int .i64 n] w fun e w' => e = .returned (.bool (decide (1 ≤ n) && decide (n < 2147483648))) ∧ w = w' := by
  go_enter Try.func41, Try.ntmps41
  go_wp2
  all_goals (go_ret; exact ⟨by simp_all <;> omega, rfl⟩)

theorem rnode_any (n : Int) (w : World) :
    Calls Try.prog 42 #[.int .i64 n] w fun e w' => e = .returned (.bool (decide (0 ≤ n) && decide (n < 6))) ∧ w = w' := by
  go_enter Try.func42, Try.ntmps42
  go_wp2
  all_goals (go_ret; exact ⟨by simp_all <;> omega, rfl⟩)

set_option maxHeartbeats 1000000 in
theorem rright_md (m : Md) (w : World) (h0 : 0 ≤ m.k) :
    Calls Try.prog 25 #[mv m.k m.p m.g m.r] w fun e w' => e = .returned (.bool m.right) ∧ Ext w w' := by
  go_enter Try.func25, Try.ntmps25
  go_wp2_with (first | (go_at_call 41; (with_reducible refine (rgen_any _ _).mono ?_); rintro e w' ⟨rfl, rfl⟩) | (go_at_call 42; (with_reducible refine (rnode_any _ _).mono ?_); rintro e w' ⟨rfl, rfl⟩))
  all_goals go_ret
  all_goals (refine ⟨ret_bool ?_, ?_⟩)
  all_goals first | (guard_target =~ Below _ _ _; (repeat (first | with_reducible exact Ext.rf _ | with_reducible assumption | with_reducible refine Ext.al ?_ _ | with_reducible refine Ext.dr ?_ | ((with_reducible refine Ext.st _ ?_ ?_); focus (first | omega | (simp; omega) | simp)) | with_reducible refine Ext.tr ?_ (by assumption)))) | grind [Md.right, rightB]

set_option maxHeartbeats 1000000 in
theorem rgrant_any (m : Md) (gen prev : Int) (w : World) (h0 : 0 ≤ m.k) :
    Calls Try.prog 13 #[m.v, .int .i64 gen, .int .i64 prev] w fun e w' => e = .returned (.tuple #[(grant m gen prev).v, .bool (grantB m gen prev)]) ∧ Ext w w' := by
  go_enter Try.func13, Try.ntmps13
  go_wp2_with (first | (go_at_call 25; (with_reducible refine (rright_md m _ (by assumption)).mono ?_); rintro e w' ⟨rfl, hb⟩; obtain ⟨hc, hf, hl, hz, -⟩ := kept hb; try simp at hz) | (go_at_call 41; (with_reducible refine (rgen_any _ _).mono ?_); rintro e w' ⟨rfl, rfl⟩) | (go_at_call 42; (with_reducible refine (rnode_any _ _).mono ?_); rintro e w' ⟨rfl, rfl⟩))
  all_goals first
    | (refine bodyPost_ret (v := .tuple #[m.v, .bool false]) ?_ rfl ⟨?_, ?_⟩
       · (simp [results, Try.results13, go_sem, *]; done)
       · (refine ret_mb (x := m) ?_ ?_ <;> grind [grant, grantB, newer, newerB, grantM, Md.right, rightB])
       · (repeat (first | with_reducible exact Ext.rf _ | with_reducible assumption | with_reducible refine Ext.al ?_ _ | with_reducible refine Ext.dr ?_ | ((with_reducible refine Ext.st _ ?_ ?_); focus (first | omega | (simp; omega) | simp)) | with_reducible refine Ext.tr ?_ (by assumption))))
    | (refine bodyPost_ret (v := .tuple #[(⟨1, -1, gen, false⟩ : Md).v, .bool true]) ?_ rfl ⟨?_, ?_⟩
       · (simp [results, Try.results13, go_sem, *]; done)
       · (refine ret_mb (x := ⟨1, -1, gen, false⟩) ?_ ?_ <;> grind [grant, grantB, newer, newerB, grantM, Md.right, rightB])
       · (repeat (first | with_reducible exact Ext.rf _ | with_reducible assumption | with_reducible refine Ext.al ?_ _ | with_reducible refine Ext.dr ?_ | ((with_reducible refine Ext.st _ ?_ ?_); focus (first | omega | (simp; omega) | simp)) | with_reducible refine Ext.tr ?_ (by assumption))))
    | (refine bodyPost_ret (v := .tuple #[(⟨2, prev, gen, false⟩ : Md).v, .bool true]) ?_ rfl ⟨?_, ?_⟩
       · (simp [results, Try.results13, go_sem, *]; done)
       · (refine ret_mb (x := ⟨2, prev, gen, false⟩) ?_ ?_ <;> grind [grant, grantB, newer, newerB, grantM, Md.right, rightB])
       · (repeat (first | with_reducible exact Ext.rf _ | with_reducible assumption | with_reducible refine Ext.al ?_ _ | with_reducible refine Ext.dr ?_ | ((with_reducible refine Ext.st _ ?_ ?_); focus (first | omega | (simp; omega) | simp)) | with_reducible refine Ext.tr ?_ (by assumption))))

set_option maxHeartbeats 1000000 in
theorem rdrain_any (m : Md) (gen prev : Int) (w : World) (h0 : 0 ≤ m.k) :
    Calls Try.prog 15 #[m.v, .int .i64 gen, .int .i64 prev] w fun e w' => e = .returned (.tuple #[(drain m gen prev).v, .bool (drainB m gen prev)]) ∧ Ext w w' := by
  go_enter Try.func15, Try.ntmps15
  go_wp2_with (first | (go_at_call 25; (with_reducible refine (rright_md m _ (by assumption)).mono ?_); rintro e w' ⟨rfl, hb⟩; obtain ⟨hc, hf, hl, hz, -⟩ := kept hb; try simp at hz) | (go_at_call 41; (with_reducible refine (rgen_any _ _).mono ?_); rintro e w' ⟨rfl, rfl⟩) | (go_at_call 42; (with_reducible refine (rnode_any _ _).mono ?_); rintro e w' ⟨rfl, rfl⟩))
  all_goals first
    | (refine bodyPost_ret (v := .tuple #[m.v, .bool false]) ?_ rfl ⟨?_, ?_⟩
       · (simp [results, Try.results15, go_sem, *]; done)
       · (refine ret_mb (x := m) ?_ ?_ <;> grind [drain, drainB, newer, newerB, drainM, Md.right, rightB])
       · (repeat (first | with_reducible exact Ext.rf _ | with_reducible assumption | with_reducible refine Ext.al ?_ _ | with_reducible refine Ext.dr ?_ | ((with_reducible refine Ext.st _ ?_ ?_); focus (first | omega | (simp; omega) | simp)) | with_reducible refine Ext.tr ?_ (by assumption))))
    | (refine bodyPost_ret (v := .tuple #[(⟨3, prev, gen, false⟩ : Md).v, .bool true]) ?_ rfl ⟨?_, ?_⟩
       · (simp [results, Try.results15, go_sem, *]; done)
       · (refine ret_mb (x := ⟨3, prev, gen, false⟩) ?_ ?_ <;> grind [drain, drainB, newer, newerB, drainM, Md.right, rightB])
       · (repeat (first | with_reducible exact Ext.rf _ | with_reducible assumption | with_reducible refine Ext.al ?_ _ | with_reducible refine Ext.dr ?_ | ((with_reducible refine Ext.st _ ?_ ?_); focus (first | omega | (simp; omega) | simp)) | with_reducible refine Ext.tr ?_ (by assumption))))

set_option maxHeartbeats 1000000 in
theorem rretire_any (m : Md) (gen : Int) (w : World) (h0 : 0 ≤ m.k) :
    Calls Try.prog 17 #[m.v, .int .i64 gen] w fun e w' => e = .returned (.tuple #[(retire m gen).v, .bool (retireB m gen)]) ∧ Ext w w' := by
  go_enter Try.func17, Try.ntmps17
  go_wp2_with ((go_at_call 25; (with_reducible refine (rright_md m _ (by assumption)).mono ?_); rintro e w' ⟨rfl, hb⟩; obtain ⟨hc, hf, hl, hz, -⟩ := kept hb; try simp at hz))
  all_goals first
    | (refine bodyPost_ret (v := .tuple #[m.v, .bool false]) ?_ rfl ⟨?_, ?_⟩
       · (simp [results, Try.results17, go_sem, *]; done)
       · (refine ret_mb (x := m) ?_ ?_ <;> grind [retire, retireB, Md.right])
       · (repeat (first | with_reducible exact Ext.rf _ | with_reducible assumption | with_reducible refine Ext.al ?_ _ | with_reducible refine Ext.dr ?_ | ((with_reducible refine Ext.st _ ?_ ?_); focus (first | omega | (simp; omega) | simp)) | with_reducible refine Ext.tr ?_ (by assumption))))
    | (refine bodyPost_ret (v := .tuple #[({ m with r := true } : Md).v, .bool true]) ?_ rfl ⟨?_, ?_⟩
       · (simp [results, Try.results17, go_sem, *]; done)
       · (refine ret_mb (x := { m with r := true }) ?_ ?_ <;> grind [retire, retireB, Md.right])
       · (repeat (first | with_reducible exact Ext.rf _ | with_reducible assumption | with_reducible refine Ext.al ?_ _ | with_reducible refine Ext.dr ?_ | ((with_reducible refine Ext.st _ ?_ ?_); focus (first | omega | (simp; omega) | simp)) | with_reducible refine Ext.tr ?_ (by assumption))))

set_option maxHeartbeats 1000000 in
theorem rchain_any (m : Md) (w : World) (h0 : 0 ≤ m.k) :
    Calls Try.prog 21 #[m.v] w fun e w' => e = .returned (.tuple #[.int .i64 (chainI m), .bool (chainB m)]) ∧ Ext w w' := by
  go_enter Try.func21, Try.ntmps21
  go_wp2_with ((go_at_call 25; (with_reducible refine (rright_md m _ (by assumption)).mono ?_); rintro e w' ⟨rfl, hb⟩; obtain ⟨hc, hf, hl, hz, -⟩ := kept hb; try simp at hz))
  all_goals go_ret2
  all_goals (refine ⟨ret_ib ?_ ?_, ?_⟩)
  all_goals first | (guard_target =~ Below _ _ _; (repeat (first | with_reducible exact Ext.rf _ | with_reducible assumption | with_reducible refine Ext.al ?_ _ | with_reducible refine Ext.dr ?_ | ((with_reducible refine Ext.st _ ?_ ?_); focus (first | omega | (simp; omega) | simp)) | with_reducible refine Ext.tr ?_ (by assumption)))) | grind [chainI, chainB]

set_option maxHeartbeats 1000000 in
theorem rprobe_any (m : Md) (w : World) (h0 : 0 ≤ m.k) :
    Calls Try.prog 23 #[m.v] w fun e w' => e = .returned (.tuple #[.int .i64 (probeI m), .bool (probeB m)]) ∧ Ext w w' := by
  go_enter Try.func23, Try.ntmps23
  go_wp2_with ((go_at_call 25; (with_reducible refine (rright_md m _ (by assumption)).mono ?_); rintro e w' ⟨rfl, hb⟩; obtain ⟨hc, hf, hl, hz, -⟩ := kept hb; try simp at hz))
  all_goals go_ret2
  all_goals (refine ⟨ret_ib ?_ ?_, ?_⟩)
  all_goals first | (guard_target =~ Below _ _ _; (repeat (first | with_reducible exact Ext.rf _ | with_reducible assumption | with_reducible refine Ext.al ?_ _ | with_reducible refine Ext.dr ?_ | ((with_reducible refine Ext.st _ ?_ ?_); focus (first | omega | (simp; omega) | simp)) | with_reducible refine Ext.tr ?_ (by assumption)))) | grind [probeI, probeB]

set_option maxHeartbeats 1000000 in
theorem raccepts_any (m : Md) (gen : Int) (w : World) (h0 : 0 ≤ m.k) :
    Calls Try.prog 27 #[m.v, .int .i64 gen] w fun e w' => e = .returned (.bool (acceptsB m gen)) ∧ Ext w w' := by
  go_enter Try.func27, Try.ntmps27
  go_wp2_with ((go_at_call 25; (with_reducible refine (rright_md m _ (by assumption)).mono ?_); rintro e w' ⟨rfl, hb⟩; obtain ⟨hc, hf, hl, hz, -⟩ := kept hb; try simp at hz))
  all_goals go_ret
  all_goals (refine ⟨ret_bool ?_, ?_⟩)
  all_goals first | (guard_target =~ Below _ _ _; (repeat (first | with_reducible exact Ext.rf _ | with_reducible assumption | with_reducible refine Ext.al ?_ _ | with_reducible refine Ext.dr ?_ | ((with_reducible refine Ext.st _ ?_ ?_); focus (first | omega | (simp; omega) | simp)) | with_reducible refine Ext.tr ?_ (by assumption)))) | grind [acceptsB]

end Go.Proofs.Ytnceijlphinnhaa
