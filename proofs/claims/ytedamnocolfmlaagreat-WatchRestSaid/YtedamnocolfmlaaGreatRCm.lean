/- The reference of the controller: which may be. -/
import Derived.Test.YtedamnocolfmlaaGreatRBm
set_option linter.unusedSimpArgs false
set_option linter.unusedVariables false
namespace Go.Proofs.YtedamnocolfmlaaGreat
open Go.RowKit

theorem stR_and {s : St} {a : Bool} (h : stR s = true → a = true) (ha : a = false) : stR s = false := by
  cases q : stR s
  · rfl
  · rw [h q] at ha; cases ha
theorem stR_parts {s : St} (h : stR s = true) : mbR s.mb = true ∧ tbR s.t = true ∧ 0 ≤ s.win ∧ s.win ≤ 1099511627776 ∧ s.pl.length ≤ 16 ∧ (∀ i, i < 16 → mvOk s i = true) ∧ (∀ i, i < 3 → hasOk s i = true) ∧ ∀ x ∈ s.pl, shOk s x = true := by
  unfold stR at h
  simp only [Bool.and_eq_true, decide_eq_true_eq, List.all_eq_true, List.mem_range] at h
  obtain ⟨⟨⟨⟨⟨⟨⟨h1, h2⟩, h3⟩, h4⟩, h5⟩, h6⟩, h7⟩, h8⟩ := h
  exact ⟨h1, h2, h3, h4, h5, h6, h7, h8⟩
theorem stR_ok {s : St} (h1 : mbR s.mb = true) (h2 : tbR s.t = true) (h3 : 0 ≤ s.win) (h4 : s.win ≤ 1099511627776) (h5 : s.pl.length ≤ 16) (h6 : ∀ i, i < 16 → mvOk s i = true) (h7 : ∀ i, i < 3 → hasOk s i = true) (h8 : ∀ x ∈ s.pl, shOk s x = true) : stR s = true := by
  unfold stR
  simp only [Bool.and_eq_true, decide_eq_true_eq, List.all_eq_true, List.mem_range]
  exact ⟨⟨⟨⟨⟨⟨⟨h1, h2⟩, h3⟩, h4⟩, h5⟩, h6⟩, h7⟩, h8⟩
def thM (s : St) (k : Nat) : Bool := ((s.mv k).cur == -1 || inF (bkF s.mb) 6 (s.mv k).cur) && ((s.mv k).nxt == -1 || inF (bkF s.mb) 6 (s.mv k).nxt)
theorem mvOk_eq (s : St) (k : Nat) : mvOk s k = ((s.mv k).right && thM s k && decide (0 ≤ s.set k) && decide (s.set k ≤ s.t.ver)) := by
  unfold mvOk thM
  rw [Bool.and_assoc (s.mv k).right]
theorem get_st_setR (s : St) (k : Nat) (h : k < 16) : (stv s)[170 + k]? = some (.int .i64 (s.set k)) := by
  unfold stv; rw [get_rowv, if_pos (by omega)]; unfold St.at
  rw [if_neg (by omega), if_neg (by omega), if_neg (by omega), if_pos (by omega), show 170 + k - 170 = k by omega]
set_option maxRecDepth 100000 in
set_option maxHeartbeats 16000000 in
theorem rstright_any (s : St) (w : World) (hs : SlS w s.p s.pl) (hl : s.pl.length ≤ 1000) (h0 : ∀ i, i < 16 → 0 ≤ (s.mv i).ph) :
    Calls Tryz.prog 7 #[.agg (stv s)] w fun e w' => e = .returned (.bool (stR s)) ∧ Ext w w' := by
  have HM := Lib.hid (fun W => rmbright_any s.mb W)
  have HT := Lib.hid (fun W => rtbright_any s.t W)
  have HB := Lib.hid (show ∀ W, Calls Tryz.prog 21 #[.agg (mbv s.mb)] W fun e w' => e = .returned (.int .u8 (backs s.mb)) ∧ Ext W w' from fun W => rbacks_any s.mb W)
  have HSL := Lib.hid (fun W (hE : Ext w W) => hs.ext hE)
  have H0 := Lib.hid h0
  clear hs h0
  go_enter Tryz.func7, Tryz.ntmps7
  go_upto_region 1 with (fail)
  obtain ⟨W0, hW⟩ : ∃ W0, w.alloc (.cells (stv s) 38) = W0 := ⟨_, rfl⟩
  have g0 : Ext w W0 := by rw [← hW]; exact Ext.al (Ext.rf _) _
  have rx0 : rowD W0 w.heap.size = stv s := by rw [← hW]; simp [go_sem]
  have lx0 : Lt w.heap.size W0 := by rw [← hW]; simp [go_sem]
  have c105 : W0.cell? ⟨w.heap.size, 105, none⟩ = some (.int .i64 s.t.ver) := by rw [cell_rowD, rx0, get_st_ver]
  rw [hW]
  clear hW
  go_upto_region 2 with (fail)
  cases h1 : mbR s.mb
  · have HN := Lib.hid (stR_and (fun h => (stR_parts h).1) h1)
    rw [h1] at HM
    go_wp2_with (first | (go_at_call 19; (with_reducible refine (HM.out _).mono ?_); rintro e w1 ⟨rfl, g1⟩; have HG1 := Lib.hid (g0.tr g1); have rx1 := row_ext' g1 lx0 rx0; have lx1 : Lt w.heap.size w1 := Nat.lt_of_lt_of_le lx0 g1.size; have f189 : w1.cell? ⟨w.heap.size, 189, none⟩ = some (.int .i64 s.win) := (by rw [cell_rowD, rx1, get_st_win]); have f190 : w1.cell? ⟨w.heap.size, 190, none⟩ = some (.slice s.p s.pl.length s.c) := (by rw [cell_rowD, rx1, get_st_pl])) | (go_at_call 20; (with_reducible refine (HT.out _).mono ?_); rintro e w2 ⟨rfl, g2⟩; have HG2 := Lib.hid (HG1.out.tr g2); have rx2 := row_ext' g2 lx1 rx1; have lx2 : Lt w.heap.size w2 := Nat.lt_of_lt_of_le lx1 g2.size; have e189 : w2.cell? ⟨w.heap.size, 189, none⟩ = some (.int .i64 s.win) := (by rw [cell_rowD, rx2, get_st_win]); have e190 : w2.cell? ⟨w.heap.size, 190, none⟩ = some (.slice s.p s.pl.length s.c) := (by rw [cell_rowD, rx2, get_st_pl])))
    go_ret
    exact ⟨ret_bool HN.out.symm, HG1.out⟩
  rw [h1] at HM
  cases h2 : tbR s.t
  · have HN := Lib.hid (stR_and (fun h => (stR_parts h).2.1) h2)
    rw [h2] at HT
    go_wp2_with (first | (go_at_call 19; (with_reducible refine (HM.out _).mono ?_); rintro e w1 ⟨rfl, g1⟩; have HG1 := Lib.hid (g0.tr g1); have rx1 := row_ext' g1 lx0 rx0; have lx1 : Lt w.heap.size w1 := Nat.lt_of_lt_of_le lx0 g1.size; have f189 : w1.cell? ⟨w.heap.size, 189, none⟩ = some (.int .i64 s.win) := (by rw [cell_rowD, rx1, get_st_win]); have f190 : w1.cell? ⟨w.heap.size, 190, none⟩ = some (.slice s.p s.pl.length s.c) := (by rw [cell_rowD, rx1, get_st_pl])) | (go_at_call 20; (with_reducible refine (HT.out _).mono ?_); rintro e w2 ⟨rfl, g2⟩; have HG2 := Lib.hid (HG1.out.tr g2); have rx2 := row_ext' g2 lx1 rx1; have lx2 : Lt w.heap.size w2 := Nat.lt_of_lt_of_le lx1 g2.size; have e189 : w2.cell? ⟨w.heap.size, 189, none⟩ = some (.int .i64 s.win) := (by rw [cell_rowD, rx2, get_st_win]); have e190 : w2.cell? ⟨w.heap.size, 190, none⟩ = some (.slice s.p s.pl.length s.c) := (by rw [cell_rowD, rx2, get_st_pl])))
    go_ret
    exact ⟨ret_bool HN.out.symm, HG2.out⟩
  rw [h2] at HT
  cases h3 : decide (0 ≤ s.win)
  · have h3' := of_decide_eq_false h3
    have HN := Lib.hid (stR_and (fun h => decide_eq_true (stR_parts h).2.2.1) h3)
    go_wp2_with (first | (go_at_call 19; (with_reducible refine (HM.out _).mono ?_); rintro e w1 ⟨rfl, g1⟩; have HG1 := Lib.hid (g0.tr g1); have rx1 := row_ext' g1 lx0 rx0; have lx1 : Lt w.heap.size w1 := Nat.lt_of_lt_of_le lx0 g1.size; have f189 : w1.cell? ⟨w.heap.size, 189, none⟩ = some (.int .i64 s.win) := (by rw [cell_rowD, rx1, get_st_win]); have f190 : w1.cell? ⟨w.heap.size, 190, none⟩ = some (.slice s.p s.pl.length s.c) := (by rw [cell_rowD, rx1, get_st_pl])) | (go_at_call 20; (with_reducible refine (HT.out _).mono ?_); rintro e w2 ⟨rfl, g2⟩; have HG2 := Lib.hid (HG1.out.tr g2); have rx2 := row_ext' g2 lx1 rx1; have lx2 : Lt w.heap.size w2 := Nat.lt_of_lt_of_le lx1 g2.size; have e189 : w2.cell? ⟨w.heap.size, 189, none⟩ = some (.int .i64 s.win) := (by rw [cell_rowD, rx2, get_st_win]); have e190 : w2.cell? ⟨w.heap.size, 190, none⟩ = some (.slice s.p s.pl.length s.c) := (by rw [cell_rowD, rx2, get_st_pl])))
    go_ret
    exact ⟨ret_bool HN.out.symm, HG2.out⟩
  have h3' := of_decide_eq_true h3
  cases h4 : decide (s.win ≤ 1099511627776)
  · have h4' := of_decide_eq_false h4
    have HN := Lib.hid (stR_and (fun h => decide_eq_true (stR_parts h).2.2.2.1) h4)
    go_wp2_with (first | (go_at_call 19; (with_reducible refine (HM.out _).mono ?_); rintro e w1 ⟨rfl, g1⟩; have HG1 := Lib.hid (g0.tr g1); have rx1 := row_ext' g1 lx0 rx0; have lx1 : Lt w.heap.size w1 := Nat.lt_of_lt_of_le lx0 g1.size; have f189 : w1.cell? ⟨w.heap.size, 189, none⟩ = some (.int .i64 s.win) := (by rw [cell_rowD, rx1, get_st_win]); have f190 : w1.cell? ⟨w.heap.size, 190, none⟩ = some (.slice s.p s.pl.length s.c) := (by rw [cell_rowD, rx1, get_st_pl])) | (go_at_call 20; (with_reducible refine (HT.out _).mono ?_); rintro e w2 ⟨rfl, g2⟩; have HG2 := Lib.hid (HG1.out.tr g2); have rx2 := row_ext' g2 lx1 rx1; have lx2 : Lt w.heap.size w2 := Nat.lt_of_lt_of_le lx1 g2.size; have e189 : w2.cell? ⟨w.heap.size, 189, none⟩ = some (.int .i64 s.win) := (by rw [cell_rowD, rx2, get_st_win]); have e190 : w2.cell? ⟨w.heap.size, 190, none⟩ = some (.slice s.p s.pl.length s.c) := (by rw [cell_rowD, rx2, get_st_pl])))
    go_ret
    exact ⟨ret_bool HN.out.symm, HG2.out⟩
  have h4' := of_decide_eq_true h4
  cases h5 : decide (s.pl.length ≤ 16)
  · have h5' := of_decide_eq_false h5
    have h5i : (16 : Int) < (s.pl.length : Int) := by omega
    have HN := Lib.hid (stR_and (fun h => decide_eq_true (stR_parts h).2.2.2.2.1) h5)
    go_wp2_with (first | (go_at_call 19; (with_reducible refine (HM.out _).mono ?_); rintro e w1 ⟨rfl, g1⟩; have HG1 := Lib.hid (g0.tr g1); have rx1 := row_ext' g1 lx0 rx0; have lx1 : Lt w.heap.size w1 := Nat.lt_of_lt_of_le lx0 g1.size; have f189 : w1.cell? ⟨w.heap.size, 189, none⟩ = some (.int .i64 s.win) := (by rw [cell_rowD, rx1, get_st_win]); have f190 : w1.cell? ⟨w.heap.size, 190, none⟩ = some (.slice s.p s.pl.length s.c) := (by rw [cell_rowD, rx1, get_st_pl])) | (go_at_call 20; (with_reducible refine (HT.out _).mono ?_); rintro e w2 ⟨rfl, g2⟩; have HG2 := Lib.hid (HG1.out.tr g2); have rx2 := row_ext' g2 lx1 rx1; have lx2 : Lt w.heap.size w2 := Nat.lt_of_lt_of_le lx1 g2.size; have e189 : w2.cell? ⟨w.heap.size, 189, none⟩ = some (.int .i64 s.win) := (by rw [cell_rowD, rx2, get_st_win]); have e190 : w2.cell? ⟨w.heap.size, 190, none⟩ = some (.slice s.p s.pl.length s.c) := (by rw [cell_rowD, rx2, get_st_pl])))
    go_ret
    exact ⟨ret_bool HN.out.symm, HG2.out⟩
  have h5' := of_decide_eq_true h5
  have h5i : ¬ (16 : Int) < (s.pl.length : Int) := by omega
  go_upto_region 5 with (first | (go_at_call 19; (with_reducible refine (HM.out _).mono ?_); rintro e w1 ⟨rfl, g1⟩; have HG1 := Lib.hid (g0.tr g1); have rx1 := row_ext' g1 lx0 rx0; have lx1 : Lt w.heap.size w1 := Nat.lt_of_lt_of_le lx0 g1.size; have f189 : w1.cell? ⟨w.heap.size, 189, none⟩ = some (.int .i64 s.win) := (by rw [cell_rowD, rx1, get_st_win]); have f190 : w1.cell? ⟨w.heap.size, 190, none⟩ = some (.slice s.p s.pl.length s.c) := (by rw [cell_rowD, rx1, get_st_pl])) | (go_at_call 20; (with_reducible refine (HT.out _).mono ?_); rintro e w2 ⟨rfl, g2⟩; have HG2 := Lib.hid (HG1.out.tr g2); have rx2 := row_ext' g2 lx1 rx1; have lx2 : Lt w.heap.size w2 := Nat.lt_of_lt_of_le lx1 g2.size; have e189 : w2.cell? ⟨w.heap.size, 189, none⟩ = some (.int .i64 s.win) := (by rw [cell_rowD, rx2, get_st_win]); have e190 : w2.cell? ⟨w.heap.size, 190, none⟩ = some (.slice s.p s.pl.length s.c) := (by rw [cell_rowD, rx2, get_st_pl])) | (go_at_call 21; (with_reducible refine (HB.out _).mono ?_); rintro e w3 ⟨rfl, g3⟩))
  have rx3 := row_ext' g3 lx2 rx2
  have lx3 : Lt w.heap.size w3 := Nat.lt_of_lt_of_le lx2 g3.size
  have HG3 := Lib.hid (HG2.out.tr g3)
  have HQ := Lib.hid (⟨h1, h2, h3', h4', h5'⟩ : mbR s.mb = true ∧ tbR s.t = true ∧ 0 ≤ s.win ∧ s.win ≤ 1099511627776 ∧ s.pl.length ≤ 16)
  have HIB := Lib.hid (show ∀ n W, Calls Tryz.prog 24 #[.int .u8 (backs s.mb), .int .i64 n] W fun e w' => e = .returned (.bool (inF (bkF s.mb) 6 n)) ∧ W = w' from fun n W => rin_any (bkF s.mb) 6 (by omega) n W)
  have HIM := Lib.hid (show ∀ n W, Calls Tryz.prog 24 #[.int .u8 (muxes s.mb), .int .i64 n] W fun e w' => e = .returned (.bool (inF (mxF s.mb) 3 n)) ∧ W = w' from fun n W => rin_any (mxF s.mb) 3 (by omega) n W)
  have HTH := Lib.hid (fun k W => rthere_any s.mb (s.mv k) W)
  change Hid (∀ k W, Calls Tryz.prog 23 #[.agg (mvv (s.mv k)), .int .u8 (backs s.mb)] W fun e w' => e = .returned (.bool (thM s k)) ∧ Ext W w') at HTH
  have HMX := Lib.hid (show ∀ W, Calls Tryz.prog 25 #[.agg (mbv s.mb)] W fun e w' => e = .returned (.int .u8 (muxes s.mb)) ∧ Ext W w' from fun W => rmuxes_any s.mb W)
  clear g0 g1 g2 g3 rx0 lx0 c105 rx1 lx1 rx2 lx2 f189 f190 e189 e190 h1 h2 h3 h4 h5 HM HT HB HG1 HG2
  generalize backs s.mb = SB at *
  go_wp2
  go_loopw [5] (fun a wr => ∃ k : Nat, k ≤ 16 ∧ a = .int .i64 k ∧ (∀ j, j < k → mvOk s j = true) ∧ Ext w3 wr) (fun a _ => 16 - (intOf a).toNat)
  case atStart => exact ⟨0, Nat.zero_le _, rfl, fun j hj => by omega, Ext.rf _⟩
  case round =>
    obtain ⟨k, hk, rfl, hA, hE⟩ := hrel
    have hR := row_ext' hE lx3 rx3
    have hL : Lt w.heap.size wr := Nat.lt_of_lt_of_le lx3 hE.size
    by_cases hlt : k < 16
    · have hlt' : (k : Int) < 16 := by omega
      have hfit : 9 + k * 6 + 6 ≤ 191 := by omega
      have hcut := cut_st_mvk s k hlt
      have HA := Lib.hid hA
      have HEX := Lib.hid (HG3.out.tr hE)
      have HK := Lib.hid (fun h : mvOk s k = false => stR_and (fun q => (stR_parts q).2.2.2.2.2.1 k hlt) h)
      have HR22 := Lib.hid (fun W => rright22_row (s.mv k) (H0.out k hlt) W)
      have HTHk := Lib.hid (HTH.out k)
      have HOK := Lib.hid (mvOk_eq s k)
      have HSET := Lib.hid (get_st_setR s k hlt)
      clear hA
      obtain ⟨st, hst⟩ : ∃ st, s.set k = st := ⟨_, rfl⟩
      obtain ⟨ver, hver⟩ : ∃ ver, s.t.ver = ver := ⟨_, rfl⟩
      rw [hst, hver] at HOK
      rw [hst] at HSET
      rw [hver]
      cases e1 : (s.mv k).right
      · rw [e1] at HR22
        have HN := Lib.hid (HK.out (by rw [HOK.out, e1]; rfl))
        go_wp2_with ((go_at_call 22; (with_reducible refine (HR22.out _).mono ?_); rintro e w4 ⟨rfl, g4⟩; have rx4 := row_ext' g4 hL hR; have lx4 : Lt w.heap.size w4 := Nat.lt_of_lt_of_le hL g4.size))
        go_ret
        exact ⟨ret_bool HN.out.symm, HEX.out.tr g4⟩
      rw [e1] at HR22
      cases e2 : thM s k
      · rw [e2] at HTHk
        have HN := Lib.hid (HK.out (by rw [HOK.out, e1, e2]; rfl))
        go_wp2_with (first | (go_at_call 22; (with_reducible refine (HR22.out _).mono ?_); rintro e w4 ⟨rfl, g4⟩; have rx4 := row_ext' g4 hL hR; have lx4 : Lt w.heap.size w4 := Nat.lt_of_lt_of_le hL g4.size) | (go_at_call 23; (with_reducible refine (HTHk.out _).mono ?_); rintro e w5 ⟨rfl, g5⟩; have rx5 := row_ext' g5 lx4 rx4; have k5 : w5.cell? ⟨w.heap.size, 170 + k, none⟩ = some (.int .i64 st) := (by rw [cell_rowD, rx5]; exact HSET.out)))
        go_ret
        exact ⟨ret_bool HN.out.symm, (HEX.out.tr g4).tr g5⟩
      rw [e2] at HTHk
      cases e3 : decide (0 ≤ st)
      · have e3' := of_decide_eq_false e3
        have HN := Lib.hid (HK.out (by rw [HOK.out, e1, e2, e3]; rfl))
        go_wp2_with (first | (go_at_call 22; (with_reducible refine (HR22.out _).mono ?_); rintro e w4 ⟨rfl, g4⟩; have rx4 := row_ext' g4 hL hR; have lx4 : Lt w.heap.size w4 := Nat.lt_of_lt_of_le hL g4.size) | (go_at_call 23; (with_reducible refine (HTHk.out _).mono ?_); rintro e w5 ⟨rfl, g5⟩; have rx5 := row_ext' g5 lx4 rx4; have k5 : w5.cell? ⟨w.heap.size, 170 + k, none⟩ = some (.int .i64 st) := (by rw [cell_rowD, rx5]; exact HSET.out)))
        go_ret
        exact ⟨ret_bool HN.out.symm, (HEX.out.tr g4).tr g5⟩
      have e3' := of_decide_eq_true e3
      cases e4 : decide (st ≤ ver)
      · have e4' := of_decide_eq_false e4
        have HN := Lib.hid (HK.out (by rw [HOK.out, e1, e2, e3, e4]; rfl))
        go_wp2_with (first | (go_at_call 22; (with_reducible refine (HR22.out _).mono ?_); rintro e w4 ⟨rfl, g4⟩; have rx4 := row_ext' g4 hL hR; have lx4 : Lt w.heap.size w4 := Nat.lt_of_lt_of_le hL g4.size) | (go_at_call 23; (with_reducible refine (HTHk.out _).mono ?_); rintro e w5 ⟨rfl, g5⟩; have rx5 := row_ext' g5 lx4 rx4; have k5 : w5.cell? ⟨w.heap.size, 170 + k, none⟩ = some (.int .i64 st) := (by rw [cell_rowD, rx5]; exact HSET.out)))
        go_ret
        exact ⟨ret_bool HN.out.symm, (HEX.out.tr g4).tr g5⟩
      have e4' := of_decide_eq_true e4
      have HB := Lib.hid (show mvOk s k = true by rw [HOK.out, e1, e2, e3, e4]; rfl)
      have n3 : decide (st < 0) = false := decide_eq_false (by omega)
      have n4 : decide (ver < st) = false := decide_eq_false (by omega)
      clear e3' e4' e3 e4 e1 e2
      go_upto_region 7 with (first | (go_at_call 22; (with_reducible refine (HR22.out _).mono ?_); rintro e w4 ⟨rfl, g4⟩; have rx4 := row_ext' g4 hL hR; have lx4 : Lt w.heap.size w4 := Nat.lt_of_lt_of_le hL g4.size) | (go_at_call 23; (with_reducible refine (HTHk.out _).mono ?_); rintro e w5 ⟨rfl, g5⟩; have rx5 := row_ext' g5 lx4 rx4; have k5 : w5.cell? ⟨w.heap.size, 170 + k, none⟩ = some (.int .i64 st) := (by rw [cell_rowD, rx5]; exact HSET.out)))
      have HE5 := Lib.hid ((hE.tr g4).tr g5)
      clear hR hL rx4 lx4 rx5 k5 g4 g5 hE hcut hfit HR22 HTHk HSET HOK HK HEX
      go_wp2
      refine ⟨⟨k + 1, by omega, by go_num, fun j hj => by rcases Nat.lt_or_ge j k with h | h; exact HA.out j h; (obtain rfl : j = k := by omega); exact HB.out, HE5.out⟩, by simp [intOf]; omega⟩
    · obtain rfl : k = 16 := by omega
      have HMV := Lib.hid hA
      have rx4 := hR
      have lx4 := hL
      have HG4 := Lib.hid (HG3.out.tr hE)
      generalize wr = w4 at *
      clear hA hE hR hL rx3 lx3 HTH
      rw [show ((16 : Nat) : Int) = 16 from rfl]
      go_wp2
      go_loopw [6] (fun a wr => ∃ k : Nat, k ≤ 3 ∧ a = .int .i64 k ∧ (∀ j, j < k → hasOk s j = true) ∧ Ext w4 wr) (fun a _ => 3 - (intOf a).toNat)
      case atStart => exact ⟨0, Nat.zero_le _, rfl, fun j hj => by omega, Ext.rf _⟩
      case round =>
        obtain ⟨k, hk, rfl, hA, hE⟩ := hrel
        have hR := row_ext' hE lx4 rx4
        have hL : Lt w.heap.size wr := Nat.lt_of_lt_of_le lx4 hE.size
        by_cases hlt : k < 3
        · have hlt' : (k : Int) < 3 := by omega
          have HA := Lib.hid hA
          have HEX := Lib.hid (HG4.out.tr hE)
          have HK := Lib.hid (fun h : hasOk s k = false => stR_and (fun q => (stR_parts q).2.2.2.2.2.2.1 k hlt) h)
          have hv0 : 0 ≤ s.t.ver := by
            have := HQ.out.2.1
            unfold tbR at this
            rw [Bool.and_eq_true, Bool.and_eq_true] at this
            exact of_decide_eq_true this.1.1
          clear hA
          have c186 : wr.cell? ⟨w.heap.size, 186 + k, none⟩ = some (.int .i64 (s.has k)) := by rw [cell_rowD, hR]; exact get_st_has s k hlt
          have HOK := Lib.hid (show hasOk s k = (s.has k == -1 || (decide (0 ≤ s.has k) && decide (s.has k ≤ s.t.ver) && inF (mxF s.mb) 3 (k : Int))) from rfl)
          have HINk := Lib.hid (HIM.out (k : Int))
          obtain ⟨hh, hhv⟩ : ∃ hh, s.has k = hh := ⟨_, rfl⟩
          obtain ⟨ver, hver⟩ : ∃ ver, s.t.ver = ver := ⟨_, rfl⟩
          rw [hhv, hver] at HOK
          rw [hhv] at c186
          rw [hver] at hv0 ⊢
          cases e1 : decide (hh < -1)
          case true =>
            have e1' := of_decide_eq_true e1
            have HN := Lib.hid (HK.out (by rw [HOK.out, decide_eq_false (show ¬ 0 ≤ hh by omega), beq_eq_false_iff_ne.2 (show hh ≠ -1 by omega)]; rfl))
            clear e1' hv0
            go_wp2
            go_ret
            exact ⟨ret_bool HN.out.symm, HEX.out⟩
          have e1' := of_decide_eq_false e1
          cases e2 : decide (ver < hh)
          case true =>
            have e2' := of_decide_eq_true e2
            have HN := Lib.hid (HK.out (by rw [HOK.out, decide_eq_false (show ¬ hh ≤ ver by omega), beq_eq_false_iff_ne.2 (show hh ≠ -1 by omega)]; simp))
            clear e1' e2' hv0
            go_wp2
            go_ret
            exact ⟨ret_bool HN.out.symm, HEX.out⟩
          have e2' := of_decide_eq_false e2
          cases e3 : (hh == -1)
          case true =>
            have HB := Lib.hid (show hasOk s k = true by rw [HOK.out, e3]; rfl)
            have n3 : (hh != -1) = false := by simpa using e3
            clear e1' e2' hv0 e3
            go_wp2
            refine ⟨⟨k + 1, by omega, by go_num, fun j hj => by rcases Nat.lt_or_ge j k with h | h; exact HA.out j h; (obtain rfl : j = k := by omega); exact HB.out, hE⟩, by simp [intOf]; omega⟩
          have e3' := beq_eq_false_iff_ne.1 e3
          cases e4 : inF (mxF s.mb) 3 (k : Int)
          · rw [e4] at HINk
            have HN := Lib.hid (HK.out (by rw [HOK.out, e3, e4]; simp))
            have n3 : (hh != -1) = true := by simpa using e3'
            clear e1' e2' e3' hv0 e4 e3
            go_wp2_with (first | (go_at_call 25; (with_reducible refine (HMX.out _).mono ?_); rintro e w6 ⟨rfl, g6⟩) | (go_at_call 24; (with_reducible refine (HINk.out _).mono ?_); rintro e w7 ⟨rfl, rfl⟩))
            go_ret
            exact ⟨ret_bool HN.out.symm, HEX.out.tr g6⟩
          · rw [e4] at HINk
            have HB := Lib.hid (show hasOk s k = true by rw [HOK.out, e4, decide_eq_true (show 0 ≤ hh by omega), decide_eq_true (show hh ≤ ver by omega)]; simp)
            have n3 : (hh != -1) = true := by simpa using e3'
            clear e1' e2' e3' hv0 e4 e3
            go_wp2_with (first | (go_at_call 25; (with_reducible refine (HMX.out _).mono ?_); rintro e w6 ⟨rfl, g6⟩) | (go_at_call 24; (with_reducible refine (HINk.out _).mono ?_); rintro e w7 ⟨rfl, rfl⟩))
            refine ⟨⟨k + 1, by omega, by go_num, fun j hj => by rcases Nat.lt_or_ge j k with h | h; exact HA.out j h; (obtain rfl : j = k := by omega); exact HB.out, hE.tr g6⟩, by simp [intOf]; omega⟩
        · obtain rfl : k = 3 := by omega
          have HHS := Lib.hid hA
          have rx5 := hR
          have lx5 := hL
          have HG5 := Lib.hid (HG4.out.tr hE)
          generalize wr = w5 at *
          clear hA hE hR hL rx4 lx4
          rw [show ((3 : Nat) : Int) = 3 from rfl]
          have c190 : w5.cell? ⟨w.heap.size, 190, none⟩ = some (.slice s.p s.pl.length s.c) := by rw [cell_rowD, rx5, get_st_pl]
          go_wp2
          go_loopw [7] (fun a wr => ∃ k : Nat, k ≤ s.pl.length ∧ a = .int .i64 k ∧ (∀ j, j < k → ∀ hj : j < s.pl.length, shOk s s.pl[j] = true) ∧ Ext w5 wr) (fun a _ => s.pl.length - (intOf a).toNat)
          case atStart => exact ⟨0, Nat.zero_le _, rfl, fun j hj => by omega, Ext.rf _⟩
          case round =>
            obtain ⟨k, hk, rfl, hA, hE⟩ := hrel
            have hs5 := HSL.out _ (HG5.out.tr hE)
            have c190 := (hE.cell (p := ⟨w.heap.size, 190, none⟩) lx5).trans c190
            have HEE := Lib.hid hE
            have HEW := Lib.hid (HG5.out.tr hE)
            clear hE
            by_cases hlt : k < s.pl.length
            · have hlt' : (k : Int) < s.pl.length := by omega
              obtain ⟨b, off, hp, hb, d0, d1⟩ := hs5 k hlt
              have HK := Lib.hid (fun h : shOk s s.pl[k] = false => stR_and (fun q => (stR_parts q).2.2.2.2.2.2.2 _ (List.getElem_mem hlt)) h)
              have HA := Lib.hid hA
              obtain ⟨z, hz⟩ : ∃ z, s.pl[k] = z := ⟨_, rfl⟩
              rw [hz] at d0 d1 HK
              have HZ := Lib.hid hz
              have HOK := Lib.hid (show shOk s z = (decide (0 ≤ z.b) && decide (z.b < 16) && inF (bkF s.mb) 6 z.t) from rfl)
              have HINk := Lib.hid (HIB.out z.t)
              have lb : Lt b wr := hb
              rw [hp] at c190
              have HPP := Lib.hid hp
              clear hp
              clear hA hz hs5 hb
              cases e1 : decide (0 ≤ z.b)
              · have e1' := of_decide_eq_false e1
                have HN := Lib.hid (HK.out (by rw [HOK.out, e1]; rfl))
                have n1 : decide (z.b < 0) = true := decide_eq_true (by omega)
                clear e1 e1'
                go_wp2
                go_ret
                exact ⟨ret_bool HN.out.symm, HEW.out⟩
              have e1' := of_decide_eq_true e1
              cases e2 : decide (z.b < 16)
              · have e2' := of_decide_eq_false e2
                have HN := Lib.hid (HK.out (by rw [HOK.out, e2]; simp))
                have n1 : decide (z.b < 0) = false := decide_eq_false (by omega)
                have n2 : decide (16 ≤ z.b) = true := decide_eq_true (by omega)
                clear e1 e1' e2 e2'
                go_wp2
                go_ret
                exact ⟨ret_bool HN.out.symm, HEW.out⟩
              have e2' := of_decide_eq_true e2
              cases e3 : inF (bkF s.mb) 6 z.t
              · rw [e3] at HINk
                have HN := Lib.hid (HK.out (by rw [HOK.out, e3]; simp))
                have n1 : decide (z.b < 0) = false := decide_eq_false (by omega)
                have n2 : decide (16 ≤ z.b) = false := decide_eq_false (by omega)
                clear e1 e1' e2 e2' e3
                go_wp2_with ((go_at_call 24; (with_reducible refine (HINk.out _).mono ?_); rintro e w7 ⟨rfl, rfl⟩))
                go_ret
                exact ⟨ret_bool HN.out.symm, HEW.out⟩
              · rw [e3] at HINk
                have HB := Lib.hid (show shOk s z = true by rw [HOK.out, e1, e2, e3]; rfl)
                have n1 : decide (z.b < 0) = false := decide_eq_false (by omega)
                have n2 : decide (16 ≤ z.b) = false := decide_eq_false (by omega)
                clear e1 e1' e2 e2' e3
                go_wp2_with ((go_at_call 24; (with_reducible refine (HINk.out _).mono ?_); rintro e w7 ⟨rfl, rfl⟩))
                go_roundw
                case rel => exact ⟨k + 1, by omega, by go_num, fun j hj hjl => by rcases Nat.lt_or_ge j k with h | h; exact HA.out j h hjl; (obtain rfl : j = k := by omega); rw [HZ.out]; exact HB.out, HEE.out⟩
                case measure => simp [intOf]; omega
            · obtain rfl : k = s.pl.length := by omega
              have HN := Lib.hid (show stR s = true from stR_ok HQ.out.1 HQ.out.2.1 HQ.out.2.2.1 HQ.out.2.2.2.1 HQ.out.2.2.2.2 HMV.out HHS.out fun x hx => by obtain ⟨j, hj, rfl⟩ := List.mem_iff_getElem.1 hx; exact hA j hj hj)
              clear hA
              go_wp2
              go_ret
              exact ⟨ret_bool HN.out.symm, HEW.out⟩

end Go.Proofs.YtedamnocolfmlaaGreat
