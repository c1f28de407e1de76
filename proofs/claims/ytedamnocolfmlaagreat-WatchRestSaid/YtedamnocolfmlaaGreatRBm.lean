/- The reference of the controller: what is in a set, tables, moves. -/
import Derived.Test.YtedamnocolfmlaaGreatRAm
set_option linter.unusedSimpArgs false
set_option linter.unusedVariables false
namespace Go.Proofs.YtedamnocolfmlaaGreat
open Go.RowKit

theorem get_stv_t (t : Tb) (k : Nat) (h : k < 16) : cutD (tbv t) (1 + k * 4) 4 = env (t.rows k) := by
  unfold tbv env
  rw [cut_rowv _ _ _ _ (by omega)]
  refine rowv_congr _ _ _ fun j hj => ?_
  unfold Tb.at
  rw [if_neg (by omega), show (1 + k * 4 + j - 1) / 4 = k by omega, show (1 + k * 4 + j - 1) % 4 = j by omega]
theorem cut_st_mvk (s : St) (k : Nat) (h : k < 16) : cutD (stv s) (9 + k * 6) 6 = mvv (s.mv k) := by
  unfold stv mvv
  rw [cut_rowv _ _ _ _ (by omega)]
  refine rowv_congr _ _ _ fun j hj => ?_
  unfold St.at
  rw [if_neg (by omega), if_pos (by omega), show (9 + k * 6 + j - 9) / 6 = k by omega, show (9 + k * 6 + j - 9) % 6 = j by omega]
@[go_sem] theorem get_mvv1 (m : Mo) : (mvv m)[1]? = some (.int .i64 m.cur) := by unfold mvv; rw [get_rowv, if_pos (by omega)]; rfl
@[go_sem] theorem get_mvv2 (m : Mo) : (mvv m)[2]? = some (.int .i64 m.nxt) := by unfold mvv; rw [get_rowv, if_pos (by omega)]; rfl
theorem rright22_row (m : Mo) (h0 : 0 ≤ m.ph) (w : World) : Calls Tryz.prog 22 #[.agg (mvv m)] w fun e w' => e = .returned (.bool m.right) ∧ Ext w w' := by
  rw [← mvv_lit]
  exact rright22_any m w h0
theorem shr8 : ∀ a b c d e f : Bool, ∀ i, i < 8 → (bits .and .u8 (setN (fun j => ([a, b, c, d, e, f].getD j false)) 6 / 2 ^ i) 1 == 1) = (decide (i < 6) && [a, b, c, d, e, f].getD i false) := by decide +kernel
theorem shr_setN (f : Nat → Bool) (N : Nat) (hN : N ≤ 6) (i : Nat) (hi : i < 8) : (bits .and .u8 (setN f N / 2 ^ i) 1 == 1) = inF f N i := by
  rw [← setN_le f hN]
  have e : setN (fun i => decide (i < N) && f i) 6 = setN (fun j => ([(decide (0 < N) && f 0), (decide (1 < N) && f 1), (decide (2 < N) && f 2), (decide (3 < N) && f 3), (decide (4 < N) && f 4), (decide (5 < N) && f 5)].getD j false)) 6 := setN_congr 6 fun j hj => by
    obtain rfl | rfl | rfl | rfl | rfl | rfl : j = 0 ∨ j = 1 ∨ j = 2 ∨ j = 3 ∨ j = 4 ∨ j = 5 := by omega
    all_goals rfl
  rw [e, shr8 _ _ _ _ _ _ i hi]
  unfold inF
  obtain rfl | rfl | rfl | rfl | rfl | rfl | h : i = 0 ∨ i = 1 ∨ i = 2 ∨ i = 3 ∨ i = 4 ∨ i = 5 ∨ 6 ≤ i := by omega
  · simp
  · simp; congr 1; exact decide_eq_decide.2 (by omega)
  · simp; congr 1; exact decide_eq_decide.2 (by omega)
  · simp; congr 1; exact decide_eq_decide.2 (by omega)
  · simp; congr 1; exact decide_eq_decide.2 (by omega)
  · simp; congr 1; exact decide_eq_decide.2 (by omega)
  · rw [decide_eq_false (show ¬ i < 6 by omega), decide_eq_false (show ¬ ((i : Nat) : Int) < (N : Int) by omega)]
    simp
set_option maxRecDepth 20000 in
set_option maxHeartbeats 4000000 in
theorem rin_any (f : Nat → Bool) (N : Nat) (hN : N ≤ 6) (n : Int) (w : World) :
    Calls Tryz.prog 24 #[.int .u8 (setN f N), .int .i64 n] w fun e w' => e = .returned (.bool (inF f N n)) ∧ w = w' := by
  cases h0 : decide (0 ≤ n)
  · have h0' := of_decide_eq_false h0
    have HN := Lib.hid (show inF f N n = false by unfold inF; rw [h0]; rfl)
    go_enter Tryz.func24, Tryz.ntmps24
    go_wp2
    go_ret
    exact ⟨ret_bool HN.out.symm, rfl⟩
  have h0' := of_decide_eq_true h0
  cases h8 : decide (n < 8)
  · have h8' := of_decide_eq_false h8
    have HN := Lib.hid (show inF f N n = false by unfold inF; rw [decide_eq_false (show ¬ n < (N : Int) by omega)]; simp)
    go_enter Tryz.func24, Tryz.ntmps24
    go_wp2
    go_ret
    exact ⟨ret_bool HN.out.symm, rfl⟩
  have h8' := of_decide_eq_true h8
  obtain ⟨i, rfl⟩ := Int.eq_ofNat_of_zero_le h0'
  have hi : i < 8 := by omega
  have hb := setN_bd f N
  have hb2 : setN f N < 64 := Int.lt_of_lt_of_le hb.2 (by
    obtain rfl | rfl | rfl | rfl | rfl | rfl | rfl : N = 0 ∨ N = 1 ∨ N = 2 ∨ N = 3 ∨ N = 4 ∨ N = 5 ∨ N = 6 := by omega
    all_goals decide)
  have HS := Lib.hid (shr_setN f N hN i hi)
  have hS0 := hb.1
  clear h0 h8 hb
  generalize setN f N = S at *
  go_enter Tryz.func24, Tryz.ntmps24
  go_wp2
  go_ret
  exact ⟨ret_bool HS.out, rfl⟩
def okN (s : Int → Bool) (n : Int) : Bool := n == -1 || s n
set_option maxRecDepth 20000 in
set_option maxHeartbeats 4000000 in
theorem rthere_any (mb : Mb) (m : Mo) (w : World) :
    Calls Tryz.prog 23 #[.agg (mvv m), .int .u8 (backs mb)] w fun e w' => e = .returned (.bool ((m.cur == -1 || inF (bkF mb) 6 m.cur) && (m.nxt == -1 || inF (bkF mb) 6 m.nxt))) ∧ Ext w w' := by
  have HI := Lib.hid (fun n W => rin_any (bkF mb) 6 (by omega) n W)
  change Hid (∀ n W, Calls Tryz.prog 24 #[.int .u8 (backs mb), .int .i64 n] W _) at HI
  generalize backs mb = S at *
  generalize ha : inF (bkF mb) 6 m.cur = a
  generalize hb : inF (bkF mb) 6 m.nxt = b
  have H1 := Lib.hid (fun W => ha ▸ HI.out m.cur W)
  have H2 := Lib.hid (fun W => hb ▸ HI.out m.nxt W)
  clear HI ha hb
  generalize hm : mvv m = row
  have c1 : row[1]? = some (.int .i64 m.cur) := by rw [← hm]; exact get_mvv1 m
  have c2 : row[2]? = some (.int .i64 m.nxt) := by rw [← hm]; exact get_mvv2 m
  clear hm
  generalize m.cur = x at *
  generalize m.nxt = y at *
  cases hx : (x == -1) <;> cases hy : (y == -1) <;> cases a <;> cases b
  all_goals
    go_enter Tryz.func23, Tryz.ntmps23
    go_wp2_with (first | (go_at_call 24; (with_reducible refine (H1.out _).mono ?_); rintro e w' ⟨rfl, rfl⟩) | (go_at_call 24; (with_reducible refine (H2.out _).mono ?_); rintro e w' ⟨rfl, rfl⟩))
    go_ret
    exact ⟨rfl, by (repeat (first | with_reducible exact Ext.rf _ | with_reducible assumption | with_reducible refine Ext.al ?_ _ | with_reducible refine Ext.dr ?_ | with_reducible refine Ext.dn ?_ _ | ((with_reducible refine Ext.st _ ?_ ?_); focus (first | omega | (simp; omega) | simp)) | with_reducible refine Ext.tr ?_ (by assumption) | with_reducible refine Ext.tr ?_ (up_ext (by assumption)) | with_reducible refine Ext.of (by assumption) ?_))⟩
set_option maxRecDepth 100000 in
set_option maxHeartbeats 4000000 in
theorem rtbright_any (t : Tb) (w : World) : Calls Tryz.prog 20 #[.agg (tbv t)] w fun e w' => e = .returned (.bool (tbR t)) ∧ Ext w w' := by
  go_enter Tryz.func20, Tryz.ntmps20
  go_upto_region 1 with (fail)
  obtain ⟨W0, hW⟩ : ∃ W0, w.alloc (.cells (tbv t) 33) = W0 := ⟨_, rfl⟩
  have g0 : Ext w W0 := by rw [← hW]; exact Ext.al (Ext.rf _) _
  have rx0 : rowD W0 w.heap.size = tbv t := by rw [← hW]; simp [go_sem]
  have lx0 : Lt w.heap.size W0 := by rw [← hW]; simp [go_sem]
  have c0 : W0.cell? ⟨w.heap.size, 0, none⟩ = some (.int .i64 t.ver) := by rw [cell_rowD, rx0, get_tb0]
  rw [hW]
  clear hW
  cases h1 : decide (0 ≤ t.ver)
  · have h1' := of_decide_eq_false h1
    have HN := Lib.hid (show tbR t = false by unfold tbR; rw [h1]; rfl)
    go_wp2
    go_ret
    exact ⟨ret_bool HN.out.symm, g0⟩
  have h1' := of_decide_eq_true h1
  cases h2 : decide (t.ver ≤ 1099511627776)
  · have h2' := of_decide_eq_false h2
    have HN := Lib.hid (show tbR t = false by unfold tbR; rw [h2]; simp)
    go_wp2
    go_ret
    exact ⟨ret_bool HN.out.symm, g0⟩
  have h2' := of_decide_eq_true h2
  go_wp2
  go_loopw [3] (fun a wr => ∃ k : Nat, k ≤ 16 ∧ a = .int .i64 k ∧ (∀ j, j < k → enR (t.rows j) = true) ∧ Ext W0 wr) (fun a _ => 16 - (intOf a).toNat)
  case atStart => exact ⟨0, Nat.zero_le _, rfl, fun j hj => by omega, Ext.rf _⟩
  case round =>
    obtain ⟨k, hk, rfl, hA, hE⟩ := hrel
    have hR := row_ext' hE lx0 rx0
    have hL : Lt w.heap.size wr := Nat.lt_of_lt_of_le lx0 hE.size
    by_cases hlt : k < 16
    · have hlt' : (k : Int) < 16 := by omega
      have hfit : 1 + k * 4 + 4 ≤ 65 := by omega
      have hcut := get_stv_t t k hlt
      have HA := Lib.hid hA
      clear hA
      have HC := Lib.hid (fun W => reright_any (t.rows k) W)
      cases he : enR (t.rows k)
      · have HN := Lib.hid (tbR_false t k hlt he)
        rw [he] at HC
        go_wp2_with (go_at_call 46; (with_reducible refine (HC.out _).mono ?_); rintro e w2 ⟨rfl, g2⟩)
        go_ret
        exact ⟨ret_bool HN.out.symm, (g0.tr hE).tr g2⟩
      · have HB := Lib.hid he
        rw [he] at HC
        go_wp2_with (go_at_call 46; (with_reducible refine (HC.out _).mono ?_); rintro e w2 ⟨rfl, g2⟩)
        go_roundw
        case rel => exact ⟨k + 1, by omega, by go_num, fun j hj => by rcases Nat.lt_or_ge j k with h | h; exact HA.out j h; (obtain rfl : j = k := by omega); exact HB.out, hE.tr g2⟩
        case measure => simp [intOf]; omega
    · obtain rfl : k = 16 := by omega
      have HN := Lib.hid (show tbR t = true by unfold tbR; rw [h1, h2]; simpa using hA)
      clear hA
      go_wp2
      go_ret
      exact ⟨ret_bool HN.out.symm, g0.tr hE⟩

end Go.Proofs.YtedamnocolfmlaaGreat
