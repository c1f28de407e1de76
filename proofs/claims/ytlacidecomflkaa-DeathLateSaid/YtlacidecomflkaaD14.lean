/- Orders: what is open, acks. -/
import Derived.Test.YtlacidecomflkaaD5
import Derived.Test.YtlacidecomflkaaDL1
set_option linter.unusedSimpArgs false
set_option linter.unusedVariables false
namespace Go.Proofs.Ytlacidecomflkaa
open Go.RowKit

/-- An order to an agent. -/
abbrev ct (k of ag bu ge pe : Int) : Value := .agg #[.int .u8 k, .int .u8 of, .int .i64 ag, .int .i64 bu, .int .i64 ge, .int .i64 pe, .int .i64 0, .int .i64 0, .int .i64 0, .slice none 0 0]
set_option maxHeartbeats 400000 in
theorem rwithin_any (n lo hi : Int) (w : World) :
    Calls Try.prog 92 #[.int .i64 n, .int .i64 lo, .int .i64 hi] w fun e w' => e = .returned (.bool (decide (lo ≤ n) && decide (n ≤ hi))) ∧ w = w' := by
  go_enter Try.func92, Try.ntmps92
  go_wp2
  all_goals (go_ret; exact ⟨ret_bool (by simp_all <;> omega), rfl⟩)
set_option maxHeartbeats 1000000 in
theorem plain_any (k of ag bu ge pe : Int) (w : World) :
    Calls Try.prog 95 #[ct k of ag bu ge pe] w fun e w' => e = .returned (.bool true) ∧ Ext w w' := by
  go_enter Try.func95, Try.ntmps95
  go_wp2
  go_ret
  refine ⟨rfl, ?_⟩
  (repeat (first | with_reducible exact Ext.rf _ | with_reducible assumption | with_reducible refine Ext.al ?_ _ | with_reducible refine Ext.dr ?_ | with_reducible refine Ext.dn ?_ _ | ((with_reducible refine Ext.st _ ?_ ?_); focus (first | omega | (simp; omega) | simp)) | with_reducible refine Ext.tr ?_ (by assumption) | with_reducible refine Ext.tr ?_ (up_ext (by assumption)) | with_reducible refine Ext.of (by assumption) ?_))
def movesC (ag bu ge : Int) : Bool := (decide (0 ≤ ag) && decide (ag ≤ 5)) && (decide (0 ≤ bu) && decide (bu ≤ 15)) && (decide (0 ≤ ge) && decide (ge ≤ 2147483647))
set_option maxHeartbeats 1000000 in
theorem moves_any (k of ag bu ge pe : Int) (w : World) (hm : movesC ag bu ge = true) :
    Calls Try.prog 91 #[ct k of ag bu ge pe] w fun e w' => e = .returned (.bool true) ∧ Ext w w' := by
  unfold movesC at hm
  simp only [Bool.and_eq_true, decide_eq_true_eq] at hm
  have a1 : decide (0 ≤ ag) = true := decide_eq_true hm.1.1.1
  have a2 : decide (ag ≤ 5) = true := decide_eq_true hm.1.1.2
  have a3 : decide (0 ≤ bu) = true := decide_eq_true hm.1.2.1
  have a4 : decide (bu ≤ 15) = true := decide_eq_true hm.1.2.2
  have a5 : decide (0 ≤ ge) = true := decide_eq_true hm.2.1
  have a6 : decide (ge ≤ 2147483647) = true := decide_eq_true hm.2.2
  clear hm
  go_enter Try.func91, Try.ntmps91
  go_wp2_with (first | (go_at_call 92; (with_reducible refine (rwithin_any _ _ _ _).mono ?_); rintro e w' ⟨rfl, rfl⟩) | (go_at_call 95; (with_reducible refine (plain_any _ _ _ _ _ _ _).mono ?_); rintro e w' ⟨rfl, hb⟩; obtain ⟨hc, hf, hl, hz, -⟩ := kept hb; (try simp at hz)))
  all_goals go_ret
  all_goals refine ⟨?_, ?_⟩
  all_goals first | (guard_target =~ Below _ _ _; (repeat (first | with_reducible exact Ext.rf _ | with_reducible assumption | with_reducible refine Ext.al ?_ _ | with_reducible refine Ext.dr ?_ | with_reducible refine Ext.dn ?_ _ | ((with_reducible refine Ext.st _ ?_ ?_); focus (first | omega | (simp; omega) | simp)) | with_reducible refine Ext.tr ?_ (by assumption) | with_reducible refine Ext.tr ?_ (up_ext (by assumption)) | with_reducible refine Ext.of (by assumption) ?_))) | rfl | (exfalso; simp_all; done)

set_option maxHeartbeats 1000000 in
theorem cright1 (ag bu ge pe : Int) (w : World) (hm : movesC ag bu ge = true) (p1 : decide (0 ≤ pe) = true) (p2 : decide (pe ≤ 5) = true) (p3 : (pe == ag) = false) :
    Calls Try.prog 69 #[ct 1 0 ag bu ge pe] w fun e w' => e = .returned (.bool true) ∧ Ext w w' := by
  go_enter Try.func69, Try.ntmps69
  go_wp2_with (first | (go_at_call 91; (with_reducible refine (moves_any 1 0 ag bu ge pe _ hm).mono ?_); rintro e w' ⟨rfl, hb⟩; obtain ⟨hc, hf, hl, hz, -⟩ := kept hb; (try simp at hz)) | (go_at_call 92; (with_reducible refine (rwithin_any _ _ _ _).mono ?_); rintro e w' ⟨rfl, rfl⟩))
  all_goals go_ret
  all_goals refine ⟨?_, ?_⟩
  all_goals first | (guard_target =~ Below _ _ _; (repeat (first | with_reducible exact Ext.rf _ | with_reducible assumption | with_reducible refine Ext.al ?_ _ | with_reducible refine Ext.dr ?_ | with_reducible refine Ext.dn ?_ _ | ((with_reducible refine Ext.st _ ?_ ?_); focus (first | omega | (simp; omega) | simp)) | with_reducible refine Ext.tr ?_ (by assumption) | with_reducible refine Ext.tr ?_ (up_ext (by assumption)) | with_reducible refine Ext.of (by assumption) ?_))) | rfl | (refine ret_bool ?_; show (pe != ag) = true; rw [bne, p3]; rfl) | (exfalso; simp_all; done)
set_option maxHeartbeats 1000000 in
theorem cack1 (ag bu ge pe : Int) (w : World) (hm : movesC ag bu ge = true) (p1 : decide (0 ≤ pe) = true) (p2 : decide (pe ≤ 5) = true) (p3 : (pe == ag) = false) :
    Calls Try.prog 39 #[ct 1 0 ag bu ge pe] w fun e w' => e = .returned (.tuple #[ct 4 1 ag bu ge 0, .bool true]) ∧ Ext w w' := by
  go_enter Try.func39, Try.ntmps39
  go_wp2_with (go_at_call 69; (with_reducible refine (cright1 ag bu ge pe _ hm p1 p2 p3).mono ?_); rintro e w' ⟨rfl, hb⟩; obtain ⟨hc, hf, hl, hz, -⟩ := kept hb; (try simp at hz))
  refine bodyPost_ret (v := .tuple #[ct 4 1 ag bu ge 0, .bool true]) (by simp [results, Try.results39, go_sem, *]) rfl ⟨rfl, ?_⟩
  (repeat (first | with_reducible exact Ext.rf _ | with_reducible assumption | with_reducible refine Ext.al ?_ _ | with_reducible refine Ext.dr ?_ | with_reducible refine Ext.dn ?_ _ | ((with_reducible refine Ext.st _ ?_ ?_); focus (first | omega | (simp; omega) | simp)) | with_reducible refine Ext.tr ?_ (by assumption) | with_reducible refine Ext.tr ?_ (up_ext (by assumption)) | with_reducible refine Ext.of (by assumption) ?_))

set_option maxHeartbeats 1000000 in
theorem cright2 (ag bu ge pe : Int) (w : World) (hm : movesC ag bu ge = true) (p1 : decide (-1 ≤ pe) = true) (p2 : decide (pe ≤ 5) = true) (p3 : (pe == ag) = false) :
    Calls Try.prog 69 #[ct 2 0 ag bu ge pe] w fun e w' => e = .returned (.bool true) ∧ Ext w w' := by
  go_enter Try.func69, Try.ntmps69
  go_wp2_with (first | (go_at_call 91; (with_reducible refine (moves_any 2 0 ag bu ge pe _ hm).mono ?_); rintro e w' ⟨rfl, hb⟩; obtain ⟨hc, hf, hl, hz, -⟩ := kept hb; (try simp at hz)) | (go_at_call 92; (with_reducible refine (rwithin_any _ _ _ _).mono ?_); rintro e w' ⟨rfl, rfl⟩))
  all_goals go_ret
  all_goals refine ⟨?_, ?_⟩
  all_goals first | (guard_target =~ Below _ _ _; (repeat (first | with_reducible exact Ext.rf _ | with_reducible assumption | with_reducible refine Ext.al ?_ _ | with_reducible refine Ext.dr ?_ | with_reducible refine Ext.dn ?_ _ | ((with_reducible refine Ext.st _ ?_ ?_); focus (first | omega | (simp; omega) | simp)) | with_reducible refine Ext.tr ?_ (by assumption) | with_reducible refine Ext.tr ?_ (up_ext (by assumption)) | with_reducible refine Ext.of (by assumption) ?_))) | rfl | (refine ret_bool ?_; show (pe != ag) = true; rw [bne, p3]; rfl) | (exfalso; simp_all; done)
set_option maxHeartbeats 1000000 in
theorem cack2 (ag bu ge pe : Int) (w : World) (hm : movesC ag bu ge = true) (p1 : decide (-1 ≤ pe) = true) (p2 : decide (pe ≤ 5) = true) (p3 : (pe == ag) = false) :
    Calls Try.prog 39 #[ct 2 0 ag bu ge pe] w fun e w' => e = .returned (.tuple #[ct 4 2 ag bu ge 0, .bool true]) ∧ Ext w w' := by
  go_enter Try.func39, Try.ntmps39
  go_wp2_with (go_at_call 69; (with_reducible refine (cright2 ag bu ge pe _ hm p1 p2 p3).mono ?_); rintro e w' ⟨rfl, hb⟩; obtain ⟨hc, hf, hl, hz, -⟩ := kept hb; (try simp at hz))
  refine bodyPost_ret (v := .tuple #[ct 4 2 ag bu ge 0, .bool true]) (by simp [results, Try.results39, go_sem, *]) rfl ⟨rfl, ?_⟩
  (repeat (first | with_reducible exact Ext.rf _ | with_reducible assumption | with_reducible refine Ext.al ?_ _ | with_reducible refine Ext.dr ?_ | with_reducible refine Ext.dn ?_ _ | ((with_reducible refine Ext.st _ ?_ ?_); focus (first | omega | (simp; omega) | simp)) | with_reducible refine Ext.tr ?_ (by assumption) | with_reducible refine Ext.tr ?_ (up_ext (by assumption)) | with_reducible refine Ext.of (by assumption) ?_))

set_option maxHeartbeats 1000000 in
theorem cright3 (ag bu ge pe : Int) (w : World) (hm : movesC ag bu ge = true) (p1 : (pe == 0) = true) :
    Calls Try.prog 69 #[ct 3 0 ag bu ge pe] w fun e w' => e = .returned (.bool true) ∧ Ext w w' := by
  go_enter Try.func69, Try.ntmps69
  go_wp2_with (first | (go_at_call 91; (with_reducible refine (moves_any 3 0 ag bu ge pe _ hm).mono ?_); rintro e w' ⟨rfl, hb⟩; obtain ⟨hc, hf, hl, hz, -⟩ := kept hb; (try simp at hz)) | (go_at_call 92; (with_reducible refine (rwithin_any _ _ _ _).mono ?_); rintro e w' ⟨rfl, rfl⟩))
  all_goals go_ret
  all_goals refine ⟨?_, ?_⟩
  all_goals first | (guard_target =~ Below _ _ _; (repeat (first | with_reducible exact Ext.rf _ | with_reducible assumption | with_reducible refine Ext.al ?_ _ | with_reducible refine Ext.dr ?_ | with_reducible refine Ext.dn ?_ _ | ((with_reducible refine Ext.st _ ?_ ?_); focus (first | omega | (simp; omega) | simp)) | with_reducible refine Ext.tr ?_ (by assumption) | with_reducible refine Ext.tr ?_ (up_ext (by assumption)) | with_reducible refine Ext.of (by assumption) ?_))) | rfl | (refine ret_bool ?_; show (pe != ag) = true; rw [bne, p3]; rfl) | (exfalso; simp_all; done)
set_option maxHeartbeats 1000000 in
theorem cack3 (ag bu ge pe : Int) (w : World) (hm : movesC ag bu ge = true) (p1 : (pe == 0) = true) :
    Calls Try.prog 39 #[ct 3 0 ag bu ge pe] w fun e w' => e = .returned (.tuple #[ct 4 3 ag bu ge 0, .bool true]) ∧ Ext w w' := by
  go_enter Try.func39, Try.ntmps39
  go_wp2_with (go_at_call 69; (with_reducible refine (cright3 ag bu ge pe _ hm p1).mono ?_); rintro e w' ⟨rfl, hb⟩; obtain ⟨hc, hf, hl, hz, -⟩ := kept hb; (try simp at hz))
  refine bodyPost_ret (v := .tuple #[ct 4 3 ag bu ge 0, .bool true]) (by simp [results, Try.results39, go_sem, *]) rfl ⟨rfl, ?_⟩
  (repeat (first | with_reducible exact Ext.rf _ | with_reducible assumption | with_reducible refine Ext.al ?_ _ | with_reducible refine Ext.dr ?_ | with_reducible refine Ext.dn ?_ _ | ((with_reducible refine Ext.st _ ?_ ?_); focus (first | omega | (simp; omega) | simp)) | with_reducible refine Ext.tr ?_ (by assumption) | with_reducible refine Ext.tr ?_ (up_ext (by assumption)) | with_reducible refine Ext.of (by assumption) ?_))

structure Ct where
  k : Int
  of : Int
  ag : Int
  bu : Int
  ge : Int
  pe : Int
abbrev Ct.v (c : Ct) : Value := ct c.k c.of c.ag c.bu c.ge c.pe
def openB (m : Mo) (b : Int) : Bool := m.right && (decide (0 ≤ b) && decide (b < 16)) && (m.ph == 2 || m.ph == 3 || m.ph == 5 || m.ph == 6)
def openM (m : Mo) (b : Int) : Ct :=
  if openB m b = false then ⟨0, 0, 0, 0, 0, 0⟩
  else if m.ph = 2 then ⟨1, 0, m.cur, b, m.gen, m.nxt⟩
  else if m.ph = 3 then ⟨2, 0, m.nxt, b, m.gen, m.cur⟩
  else if m.ph = 5 then ⟨3, 0, m.cur, b, m.gen, 0⟩
  else ⟨2, 0, m.nxt, b, m.gen, -1⟩
theorem ret_cb {x y : Ct} {a b : Bool} (h : x = y) (h' : a = b) : Ending.returned (.tuple #[x.v, .bool a]) = .returned (.tuple #[y.v, .bool b]) := by rw [h, h']
set_option maxHeartbeats 4000000 in
theorem open_any (m : Mo) (b : Int) (w : World) (h0 : 0 ≤ m.ph) (c2 c3 c5 c6 : Bool) (e2 : (m.ph == 2) = c2) (e3 : (m.ph == 3) = c3) (e5 : (m.ph == 5) = c5) (e6 : (m.ph == 6) = c6) :
    Calls Try.prog 38 #[mo m.ph m.cur m.nxt m.gen m.tick m.ver, .int .i64 b] w fun e w' => e = .returned (.tuple #[(openM m b).v, .bool (openB m b)]) ∧ Ext w w' := by
  cases hr : m.right
  · have HB : openB m b = false := by unfold openB; rw [hr]; rfl
    have HM : openM m b = ⟨0, 0, 0, 0, 0, 0⟩ := by unfold openM; rw [if_pos HB]
    rw [HB, HM]
    clear HB HM
    go_enter Try.func38, Try.ntmps38
    go_wp2_with (go_at_call 36; (with_reducible refine (rright22_any m _ h0).mono ?_); rw [hr]; rintro e w' ⟨rfl, hb⟩; obtain ⟨hc, hf, hl, hz, -⟩ := kept hb; (try simp at hz))
    refine bodyPost_ret (v := .tuple #[ct 0 0 0 0 0 0, .bool false]) (by simp [results, Try.results38, go_sem, *]) rfl ⟨rfl, ?_⟩
    (repeat (first | with_reducible exact Ext.rf _ | with_reducible assumption | with_reducible refine Ext.al ?_ _ | with_reducible refine Ext.dr ?_ | with_reducible refine Ext.dn ?_ _ | ((with_reducible refine Ext.st _ ?_ ?_); focus (first | omega | (simp; omega) | simp)) | with_reducible refine Ext.tr ?_ (by assumption) | with_reducible refine Ext.tr ?_ (up_ext (by assumption)) | with_reducible refine Ext.of (by assumption) ?_))
  · have HR := Lib.hid hr
    clear hr
    go_enter Try.func38, Try.ntmps38
    go_wp2_with (go_at_call 36; (with_reducible refine (rright22_any m _ h0).mono ?_); rw [HR.out]; rintro e w' ⟨rfl, hb⟩; obtain ⟨hc, hf, hl, hz, -⟩ := kept hb; (try simp at hz))
    all_goals first
      | (refine bodyPost_ret (v := .tuple #[ct 0 0 0 0 0 0, .bool false]) ?_ rfl ⟨ret_cb (x := ⟨0, 0, 0, 0, 0, 0⟩) ?_ ?_, ?_⟩
         · (simp [results, Try.results38, go_sem, *]; done)
         · (have hr := HR.out; simp_all [openM, openB]; first | done | omega | grind)
         · (have hr := HR.out; simp_all [openB]; first | done | omega | grind)
         · (repeat (first | with_reducible exact Ext.rf _ | with_reducible assumption | with_reducible refine Ext.al ?_ _ | with_reducible refine Ext.dr ?_ | with_reducible refine Ext.dn ?_ _ | ((with_reducible refine Ext.st _ ?_ ?_); focus (first | omega | (simp; omega) | simp)) | with_reducible refine Ext.tr ?_ (by assumption) | with_reducible refine Ext.tr ?_ (up_ext (by assumption)) | with_reducible refine Ext.of (by assumption) ?_)))
      | (refine bodyPost_ret (v := .tuple #[ct 1 0 m.cur b m.gen m.nxt, .bool true]) ?_ rfl ⟨ret_cb (x := ⟨1, 0, m.cur, b, m.gen, m.nxt⟩) ?_ ?_, ?_⟩
         · (simp [results, Try.results38, go_sem, *]; done)
         · (have hr := HR.out; simp_all [openM, openB]; first | done | omega | grind)
         · (have hr := HR.out; simp_all [openB]; first | done | omega | grind)
         · (repeat (first | with_reducible exact Ext.rf _ | with_reducible assumption | with_reducible refine Ext.al ?_ _ | with_reducible refine Ext.dr ?_ | with_reducible refine Ext.dn ?_ _ | ((with_reducible refine Ext.st _ ?_ ?_); focus (first | omega | (simp; omega) | simp)) | with_reducible refine Ext.tr ?_ (by assumption) | with_reducible refine Ext.tr ?_ (up_ext (by assumption)) | with_reducible refine Ext.of (by assumption) ?_)))
      | (refine bodyPost_ret (v := .tuple #[ct 2 0 m.nxt b m.gen m.cur, .bool true]) ?_ rfl ⟨ret_cb (x := ⟨2, 0, m.nxt, b, m.gen, m.cur⟩) ?_ ?_, ?_⟩
         · (simp [results, Try.results38, go_sem, *]; done)
         · (have hr := HR.out; simp_all [openM, openB]; first | done | omega | grind)
         · (have hr := HR.out; simp_all [openB]; first | done | omega | grind)
         · (repeat (first | with_reducible exact Ext.rf _ | with_reducible assumption | with_reducible refine Ext.al ?_ _ | with_reducible refine Ext.dr ?_ | with_reducible refine Ext.dn ?_ _ | ((with_reducible refine Ext.st _ ?_ ?_); focus (first | omega | (simp; omega) | simp)) | with_reducible refine Ext.tr ?_ (by assumption) | with_reducible refine Ext.tr ?_ (up_ext (by assumption)) | with_reducible refine Ext.of (by assumption) ?_)))
      | (refine bodyPost_ret (v := .tuple #[ct 3 0 m.cur b m.gen 0, .bool true]) ?_ rfl ⟨ret_cb (x := ⟨3, 0, m.cur, b, m.gen, 0⟩) ?_ ?_, ?_⟩
         · (simp [results, Try.results38, go_sem, *]; done)
         · (have hr := HR.out; simp_all [openM, openB]; first | done | omega | grind)
         · (have hr := HR.out; simp_all [openB]; first | done | omega | grind)
         · (repeat (first | with_reducible exact Ext.rf _ | with_reducible assumption | with_reducible refine Ext.al ?_ _ | with_reducible refine Ext.dr ?_ | with_reducible refine Ext.dn ?_ _ | ((with_reducible refine Ext.st _ ?_ ?_); focus (first | omega | (simp; omega) | simp)) | with_reducible refine Ext.tr ?_ (by assumption) | with_reducible refine Ext.tr ?_ (up_ext (by assumption)) | with_reducible refine Ext.of (by assumption) ?_)))
      | (refine bodyPost_ret (v := .tuple #[ct 2 0 m.nxt b m.gen (-1), .bool true]) ?_ rfl ⟨ret_cb (x := ⟨2, 0, m.nxt, b, m.gen, (-1)⟩) ?_ ?_, ?_⟩
         · (simp [results, Try.results38, go_sem, *]; done)
         · (have hr := HR.out; simp_all [openM, openB]; first | done | omega | grind)
         · (have hr := HR.out; simp_all [openB]; first | done | omega | grind)
         · (repeat (first | with_reducible exact Ext.rf _ | with_reducible assumption | with_reducible refine Ext.al ?_ _ | with_reducible refine Ext.dr ?_ | with_reducible refine Ext.dn ?_ _ | ((with_reducible refine Ext.st _ ?_ ?_); focus (first | omega | (simp; omega) | simp)) | with_reducible refine Ext.tr ?_ (by assumption) | with_reducible refine Ext.tr ?_ (up_ext (by assumption)) | with_reducible refine Ext.of (by assumption) ?_)))

end Go.Proofs.Ytlacidecomflkaa
