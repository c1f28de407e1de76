/- The reference of the controller: quiet, still. -/
import Derived.Test.YtedamnocolfmlaaGreatRCm
set_option linter.unusedSimpArgs false
set_option linter.unusedVariables false
namespace Go.Proofs.YtedamnocolfmlaaGreat
open Go.RowKit

def qB (s : St) : Bool := !(mvs s).any undM && decide (s.pl.length = 0)
theorem qB_bad {s : St} (k : Nat) (hk : k < 16) (h : undM (s.mv k) = true) : qB s = false := by
  unfold qB mvs
  rw [show ((List.range 16).map s.mv).any undM = true from List.any_eq_true.2 ⟨s.mv k, List.mem_map.2 ⟨k, List.mem_range.2 hk, rfl⟩, h⟩]
  rfl
theorem qB_ok {s : St} (h : ∀ k, k < 16 → undM (s.mv k) = false) : qB s = decide (s.pl.length = 0) := by
  unfold qB mvs
  rw [show ((List.range 16).map s.mv).any undM = false from List.any_eq_false.2 fun m hm => by
    obtain ⟨k, hk, rfl⟩ := List.mem_map.1 hm
    rw [h k (List.mem_range.1 hk)]; decide]
  rfl
set_option maxRecDepth 100000 in
set_option maxHeartbeats 4000000 in
theorem rquiet0_any (s : St) (w : World) : Calls Tryz.prog 49 #[.agg (stv s)] w fun e w' => e = .returned (.bool (qB s)) ∧ Ext w w' := by
  go_enter Tryz.func49, Tryz.ntmps49
  go_upto_region 1 with (fail)
  obtain ⟨W0, hW⟩ : ∃ W0, w.alloc (.cells (stv s) 38) = W0 := ⟨_, rfl⟩
  have g0 : Ext w W0 := by rw [← hW]; exact Ext.al (Ext.rf _) _
  have rx0 : rowD W0 w.heap.size = stv s := by rw [← hW]; simp [go_sem]
  have lx0 : Lt w.heap.size W0 := by rw [← hW]; simp [go_sem]
  rw [hW]
  clear hW
  go_wp2
  go_loop [3] (fun a => ∃ k : Nat, k ≤ 16 ∧ a = .int .i64 k ∧ (∀ j, j < k → undM (s.mv j) = false)) (fun a => 16 - (intOf a).toNat)
  case atStart => exact ⟨0, Nat.zero_le _, rfl, fun j hj => by omega⟩
  case round =>
    obtain ⟨k, hk, rfl, hA⟩ := hrel
    by_cases hlt : k < 16
    · have hlt' : (k : Int) < 16 := by omega
      have c9 : W0.cell? ⟨w.heap.size, 9 + k * 6, none⟩ = some (.int .u8 (s.mv k).ph) := by rw [cell_rowD, rx0]; exact get_st_mv s k 0 hlt (by omega)
      have HA := Lib.hid hA
      clear hA
      have HU := Lib.hid (show undM (s.mv k) = ((s.mv k).ph != 1 && (s.mv k).ph != 0) from rfl)
      have HK := Lib.hid (fun h => qB_bad (s := s) k hlt h)
      obtain ⟨ph, hph⟩ : ∃ ph, (s.mv k).ph = ph := ⟨_, rfl⟩
      rw [hph] at c9 HU
      clear hph
      cases e1 : (ph != 1)
      · have HB := Lib.hid (show undM (s.mv k) = false by rw [HU.out, e1]; rfl)
        go_wp2
        go_round
        case rel => exact ⟨k + 1, by omega, by go_num, fun j hj => by rcases Nat.lt_or_ge j k with h | h; exact HA.out j h; (obtain rfl : j = k := by omega); exact HB.out⟩
        case measure => simp [intOf]; omega
      · cases e2 : (ph != 0)
        · have HB := Lib.hid (show undM (s.mv k) = false by rw [HU.out, e1, e2]; rfl)
          go_wp2
          refine ⟨⟨k + 1, by omega, by go_num, fun j hj => by rcases Nat.lt_or_ge j k with h | h; exact HA.out j h; (obtain rfl : j = k := by omega); exact HB.out⟩, by simp [intOf]; omega⟩
        · have HN := Lib.hid (HK.out (by rw [HU.out, e1, e2]; rfl))
          go_wp2
          go_ret
          exact ⟨ret_bool HN.out.symm, g0⟩
    · obtain rfl : k = 16 := by omega
      have HN := Lib.hid (qB_ok hA)
      have c190 : W0.cell? ⟨w.heap.size, 190, none⟩ = some (.slice s.p s.pl.length s.c) := by rw [cell_rowD, rx0, get_st_pl]
      have h3 : ((s.pl.length : Int) == 0) = decide (s.pl.length = 0) := by
        by_cases h : s.pl.length = 0
        · rw [h]; rfl
        · rw [decide_eq_false h, beq_eq_false_iff_ne]; omega
      clear hA
      go_wp2
      go_ret
      exact ⟨ret_bool (by rw [HN.out]; simp), g0⟩
theorem quietB_eq (s : St) : quietB s = (stR s && qB s) := by
  unfold quietB qB
  cases stR s <;> cases decide (s.pl.length = 0) <;> cases (mvs s).any undM <;> rfl
set_option maxRecDepth 100000 in
set_option maxHeartbeats 4000000 in
theorem rquiet_any (s : St) (w : World) (hs : SlS w s.p s.pl) (hl : s.pl.length ≤ 1000) (h0 : ∀ i, i < 16 → 0 ≤ (s.mv i).ph) : Calls Tryz.prog 26 #[.agg (stv s)] w fun e w' => e = .returned (.bool (quietB s)) ∧ Ext w w' := by
  have HR := Lib.hid (fun W (hE : Ext w W) => rstright_any s W (hs.ext hE) hl h0)
  have HQ := Lib.hid (fun W => rquiet0_any s W)
  have HE := Lib.hid (quietB_eq s)
  clear hs h0
  go_enter Tryz.func26, Tryz.ntmps26
  go_upto_region 1 with (fail)
  obtain ⟨W0, hW⟩ : ∃ W0, w.alloc (.cells (stv s) 38) = W0 := ⟨_, rfl⟩
  have g0 : Ext w W0 := by rw [← hW]; exact Ext.al (Ext.rf _) _
  have rx0 : rowD W0 w.heap.size = stv s := by rw [← hW]; simp [go_sem]
  have lx0 : Lt w.heap.size W0 := by rw [← hW]; simp [go_sem]
  rw [hW]
  clear hW
  cases h1 : stR s
  · rw [h1] at HR
    have HN := Lib.hid (show quietB s = false by rw [HE.out, h1]; rfl)
    go_wp2_with (go_at_call 7; (with_reducible refine (HR.out _ g0).mono ?_); rintro e w1 ⟨rfl, g1⟩)
    go_ret
    exact ⟨ret_bool HN.out.symm, g0.tr g1⟩
  · rw [h1] at HR
    have HN := Lib.hid (show quietB s = qB s by rw [HE.out, h1]; rfl)
    go_wp2_with (first | (go_at_call 7; (with_reducible refine (HR.out _ g0).mono ?_); rintro e w1 ⟨rfl, g1⟩; have rx1 := row_ext' g1 lx0 rx0) | (go_at_call 49; (with_reducible refine (HQ.out _).mono ?_); rintro e w2 ⟨rfl, g2⟩))
    go_ret
    exact ⟨ret_bool HN.out.symm, (g0.tr g1).tr g2⟩
def hsB (s : St) (k : Nat) : Bool := inF (mxF s.mb) 3 k && (s.has k != s.t.ver)
theorem nums_all (f : Nat → Bool) (p : Nat → Bool) : ((nums f 3).all fun x => p x.1) = (List.range 3).all fun k => !(inF f 3 k) || p k := by
  unfold nums pickN
  rw [List.all_map, List.all_filter]
  have e : (List.range 8) = List.range 3 ++ [3, 4, 5, 6, 7] := rfl
  rw [e, List.all_append]
  have e2 : ([3, 4, 5, 6, 7] : List Nat).all (fun a => !(inF f 3 ((a : Nat) : Int)) || ((fun x : Nat × Nat => p x.1) ∘ fun i => (i, i)) a) = true := by
    simp [inF]
  first
  | (rw [e2, Bool.and_true]; rfl)
  | (simp only [e2, Bool.and_true]; rfl)
theorem stillB_bad {s : St} (k : Nat) (hk : k < 3) (h : hsB s k = true) : stillB s = false := by
  unfold stillB allHas
  rw [nums_all (mxF s.mb) fun k => s.has k == s.t.ver]
  unfold hsB at h
  rw [Bool.and_eq_true] at h
  rw [show ((List.range 3).all fun k => !(inF (mxF s.mb) 3 k) || s.has k == s.t.ver) = false from List.all_eq_false.2 ⟨k, List.mem_range.2 hk, by rw [h.1]; simpa using h.2⟩]
  rfl
theorem stillB_ok {s : St} (h : ∀ k, k < 3 → hsB s k = false) : stillB s = quietB s := by
  unfold stillB allHas
  rw [nums_all (mxF s.mb) fun k => s.has k == s.t.ver]
  rw [show ((List.range 3).all fun k => !(inF (mxF s.mb) 3 k) || s.has k == s.t.ver) = true from List.all_eq_true.2 fun k hk => by
    have := h k (List.mem_range.1 hk)
    unfold hsB at this
    cases e : inF (mxF s.mb) 3 k
    · rfl
    · rw [e] at this; simpa using this]
  rfl
set_option maxRecDepth 100000 in
set_option maxHeartbeats 8000000 in
theorem rstill_any (s : St) (w : World) (hs : SlS w s.p s.pl) (hl : s.pl.length ≤ 1000) (h0 : ∀ i, i < 16 → 0 ≤ (s.mv i).ph) : Calls Tryz.prog 8 #[.agg (stv s)] w fun e w' => e = .returned (.bool (stillB s)) ∧ Ext w w' := by
  have HR := Lib.hid (fun W (hE : Ext w W) => rquiet_any s W (hs.ext hE) hl h0)
  have HIM := Lib.hid (show ∀ n W, Calls Tryz.prog 24 #[.int .u8 (muxes s.mb), .int .i64 n] W fun e w' => e = .returned (.bool (inF (mxF s.mb) 3 n)) ∧ W = w' from fun n W => rin_any (mxF s.mb) 3 (by omega) n W)
  have HMX := Lib.hid (show ∀ W, Calls Tryz.prog 25 #[.agg (mbv s.mb)] W fun e w' => e = .returned (.int .u8 (muxes s.mb)) ∧ Ext W w' from fun W => rmuxes_any s.mb W)
  clear hs h0
  go_enter Tryz.func8, Tryz.ntmps8
  go_upto_region 1 with (fail)
  obtain ⟨W0, hW⟩ : ∃ W0, w.alloc (.cells (stv s) 38) = W0 := ⟨_, rfl⟩
  have g0 : Ext w W0 := by rw [← hW]; exact Ext.al (Ext.rf _) _
  have rx0 : rowD W0 w.heap.size = stv s := by rw [← hW]; simp [go_sem]
  have lx0 : Lt w.heap.size W0 := by rw [← hW]; simp [go_sem]
  rw [hW]
  clear hW
  cases h1 : quietB s
  · rw [h1] at HR
    have HN := Lib.hid (show stillB s = false by unfold stillB; rw [h1]; simp)
    go_wp2_with (go_at_call 26; (with_reducible refine (HR.out _ g0).mono ?_); rintro e w1 ⟨rfl, g1⟩)
    go_ret
    exact ⟨ret_bool HN.out.symm, g0.tr g1⟩
  rw [h1] at HR
  go_wp2_with (go_at_call 26; (with_reducible refine (HR.out _ g0).mono ?_); rintro e w1 ⟨rfl, g1⟩; have rx1 := row_ext' g1 lx0 rx0; have lx1 : Lt w.heap.size w1 := Nat.lt_of_lt_of_le lx0 g1.size)
  have HG1 := Lib.hid (g0.tr g1)
  have HQ := Lib.hid h1
  clear rx0 lx0 g0 g1 HR h1
  generalize muxes s.mb = SM at *
  go_loopw [3] (fun a wr => ∃ k : Nat, k ≤ 3 ∧ a = .int .i64 k ∧ (∀ j, j < k → hsB s j = false) ∧ Ext w1 wr) (fun a _ => 3 - (intOf a).toNat)
  case atStart => exact ⟨0, Nat.zero_le _, rfl, fun j hj => by omega, Ext.rf _⟩
  case round =>
    obtain ⟨k, hk, rfl, hA, hE⟩ := hrel
    have hR := row_ext' hE lx1 rx1
    have hL : Lt w.heap.size wr := Nat.lt_of_lt_of_le lx1 hE.size
    have HEX := Lib.hid (HG1.out.tr hE)
    have HEE := Lib.hid hE
    clear hE
    by_cases hlt : k < 3
    · have hlt' : (k : Int) < 3 := by omega
      have c186 : wr.cell? ⟨w.heap.size, 186 + k, none⟩ = some (.int .i64 (s.has k)) := by rw [cell_rowD, hR]; exact get_st_has s k hlt
      have c105 : wr.cell? ⟨w.heap.size, 105, none⟩ = some (.int .i64 s.t.ver) := by rw [cell_rowD, hR, get_st_ver]
      have HA := Lib.hid hA
      clear hA
      have HIN := Lib.hid (HIM.out (k : Int))
      have HS := Lib.hid (show hsB s k = (inF (mxF s.mb) 3 k && (s.has k != s.t.ver)) from rfl)
      have HK := Lib.hid (fun h => stillB_bad (s := s) k hlt h)
      cases e1 : inF (mxF s.mb) 3 (k : Int)
      · rw [e1] at HIN
        have HB := Lib.hid (show hsB s k = false by rw [HS.out, e1]; rfl)
        go_wp2_with (fail)
        refine wp_region_later (by kernel_rfl) (by kernel_rfl) ?_; (repeat (go_big_quiet_step (first | (go_at_call 25; exact calls_later (HMX.out _)) | (go_at_call 24; exact calls_later_same (HIN.out _))))); refine wpQuiet_nil ?_; intro d
        have HD := Lib.hid (HEE.out.tr (later_ext d))
        generalize later d = W2 at *
        go_wp2
        go_roundw
        case rel => exact ⟨k + 1, by omega, by go_num, fun j hj => by rcases Nat.lt_or_ge j k with h | h; exact HA.out j h; (obtain rfl : j = k := by omega); exact HB.out, HD.out⟩
        case measure => simp [intOf]; omega
      · rw [e1] at HIN
        cases e2 : (s.has k != s.t.ver)
        · have HB := Lib.hid (show hsB s k = false by rw [HS.out, e1, e2]; rfl)
          go_wp2_with (fail)
          refine wp_region_later (by kernel_rfl) (by kernel_rfl) ?_; (repeat (go_big_quiet_step (first | (go_at_call 25; exact calls_later (HMX.out _)) | (go_at_call 24; exact calls_later_same (HIN.out _))))); refine wpQuiet_nil ?_; intro d
          have HD := Lib.hid (HEE.out.tr (later_ext d))
          generalize later d = W2 at *
          go_wp2
          refine ⟨⟨k + 1, by omega, by go_num, fun j hj => by rcases Nat.lt_or_ge j k with h | h; exact HA.out j h; (obtain rfl : j = k := by omega); exact HB.out, HD.out⟩, by simp [intOf]; omega⟩
        · have HN := Lib.hid (HK.out (by rw [HS.out, e1, e2]; rfl))
          go_wp2_with (fail)
          refine wp_region_later (by kernel_rfl) (by kernel_rfl) ?_; (repeat (go_big_quiet_step (first | (go_at_call 25; exact calls_later (HMX.out _)) | (go_at_call 24; exact calls_later_same (HIN.out _))))); refine wpQuiet_nil ?_; intro d
          have HD := Lib.hid (HEX.out.tr (later_ext d))
          generalize later d = W2 at *
          go_wp2
          go_ret
          exact ⟨ret_bool HN.out.symm, HD.out⟩
    · obtain rfl : k = 3 := by omega
      have HN := Lib.hid (show stillB s = true by rw [stillB_ok hA, HQ.out])
      clear hA
      go_wp2
      go_ret
      exact ⟨ret_bool HN.out.symm, HEX.out⟩

end Go.Proofs.YtedamnocolfmlaaGreat
