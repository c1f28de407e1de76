/- Add of the plan's reference. -/
import Derived.Test.YtlacidecomflkaaP15
import Derived.Deep.DeepCutAuto
set_option linter.unusedSimpArgs false
set_option linter.unusedVariables false
namespace Go.Proofs.Ytlacidecomflkaa
open Go.RowKit

theorem wp_at_zero {P : Program} {o : Oper} {l : List Oper} {h : 0 < (o :: l).toArray.size} {a : Act} {w : World} {K : Act → World → Prop} {Q : Exit → Act → World → Prop} : Oper.wp P ((o :: l).toArray[0]'h) a w K Q = Oper.wp P o a w K Q := rfl
theorem wp_at_succ {P : Program} {o : Oper} {l : List Oper} {k : Nat} {h : k + 1 < (o :: l).toArray.size} {a : Act} {w : World} {K : Act → World → Prop} {Q : Exit → Act → World → Prop} : Oper.wp P ((o :: l).toArray[k + 1]'h) a w K Q = Oper.wp P (l.toArray[k]'(by simpa using h)) a w K Q := rfl
attribute [local go_sem ↓] wp_at_zero wp_at_succ

set_option maxRecDepth 20000 in
set_option maxHeartbeats 4000000 in
theorem radd_A (o : Nat → Int) (p : Option Addr) (ms : List Int) (c : Nat) (who : Int) (w : World) (hs : Sl w p ms) (hlen : ms.length ≤ 1000) (HX : Hid (addX o ms who = [])) (HR : Hid (rightP o ms = false)) :
    Calls Try.prog 15 #[.agg (ov o), .slice p ms.length c, .int .i64 who] w (PlanRet (addX o ms who) 2 w) := by
  have hE0 : Ext w (w.alloc (.cells (ov o) 22)) := Ext.al (Ext.rf _) _
  go_enter Try.func15, Try.ntmps15
  go_wp2_with (first | (go_at_call 24; (with_reducible refine (rright_any o p ms c _ (hs.ext hE0) hlen).mono ?_); rw [HR.out]; rintro e w' ⟨rfl, hb⟩; obtain ⟨hc, hf, hl, hz, -⟩ := kept hb; obtain ⟨hr, hq⟩ := keptR hb; try simp at hz))
  go_ret2
  exact planRet_nil HX.out (hE0.tr hb)

set_option maxRecDepth 20000 in
set_option maxHeartbeats 4000000 in
theorem radd_B (o : Nat → Int) (p : Option Addr) (ms : List Int) (c : Nat) (who : Int) (w : World) (hs : Sl w p ms) (hlen : ms.length ≤ 1000) (HX : Hid (addX o ms who = [])) (HR : Hid (rightP o ms = true)) (HB : Hid (backB who = false)) :
    Calls Try.prog 15 #[.agg (ov o), .slice p ms.length c, .int .i64 who] w (PlanRet (addX o ms who) 2 w) := by
  have hE0 : Ext w (w.alloc (.cells (ov o) 22)) := Ext.al (Ext.rf _) _
  go_enter Try.func15, Try.ntmps15
  go_wp2_with (first | (go_at_call 24; (with_reducible refine (rright_any o p ms c _ (hs.ext hE0) hlen).mono ?_); rw [HR.out]; rintro e w' ⟨rfl, hb⟩; obtain ⟨hc, hf, hl, hz, -⟩ := kept hb; obtain ⟨hr, hq⟩ := keptR hb; try simp at hz) | (go_at_call 47; (with_reducible refine (rback_any _ _).mono ?_); rw [HB.out]; rintro e w' ⟨rfl, rfl⟩))
  go_ret2
  exact planRet_nil HX.out (hE0.tr hb)

set_option maxRecDepth 20000 in
set_option maxHeartbeats 4000000 in
theorem radd_C (o : Nat → Int) (p : Option Addr) (ms : List Int) (c : Nat) (who : Int) (w : World) (hs : Sl w p ms) (hlen : ms.length ≤ 1000) (HX : Hid (addX o ms who = [])) (HR : Hid (rightP o ms = true)) (HB : Hid (backB who = true)) (HC : Hid (ms.any (who == ·) = true)) :
    Calls Try.prog 15 #[.agg (ov o), .slice p ms.length c, .int .i64 who] w (PlanRet (addX o ms who) 201 w) := by
  have hE0 : Ext w (w.alloc (.cells (ov o) 22)) := Ext.al (Ext.rf _) _
  go_enter Try.func15, Try.ntmps15
  go_wp2_with (first | (go_at_call 24; (with_reducible refine (rright_any o p ms c _ (hs.ext hE0) hlen).mono ?_); rw [HR.out]; rintro e w' ⟨rfl, hb⟩; obtain ⟨hc, hf, hl, hz, -⟩ := kept hb; obtain ⟨hr, hq⟩ := keptR hb; try simp at hz) | (go_at_call 47; (with_reducible refine (rback_any _ _).mono ?_); rw [HB.out]; rintro e w' ⟨rfl, rfl⟩) | (go_at_call 32; (with_reducible refine (rin_any who p ms c _ (hs.ext (hE0.tr hb)) hlen).mono ?_); rw [HC.out]; rintro e w' ⟨rfl, rfl⟩))
  go_ret2
  exact planRet_nil HX.out (hE0.tr hb)

set_option maxRecDepth 20000 in
set_option maxHeartbeats 4000000 in
theorem radd_D (o : Nat → Int) (p : Option Addr) (ms : List Int) (c : Nat) (who : Int) (w : World) (hs : Sl w p ms) (hlen : ms.length ≤ 1000) (hw : who ∉ ms) (HX : Hid (addX o ms who = addP o ms who)) (HR : Hid (rightP o ms = true)) (HB : Hid (backB who = true)) (HC : Hid (ms.any (who == ·) = false)) :
    Calls Try.prog 15 #[.agg (ov o), .slice p ms.length c, .int .i64 who] w (PlanRet (addX o ms who) 0 w) := by
  have hE0 : Ext w (w.alloc (.cells (ov o) 22)) := Ext.al (Ext.rf _) _
  go_enter Try.func15, Try.ntmps15
  go_wp2_with (first | (go_at_call 24; (with_reducible refine (rright_any o p ms c _ (hs.ext hE0) hlen).mono ?_); rw [HR.out]; rintro e w' ⟨rfl, hb⟩; obtain ⟨hc, hf, hl, hz, -⟩ := kept hb; obtain ⟨hr, hq⟩ := keptR hb; try simp at hz) | (go_at_call 47; (with_reducible refine (rback_any _ _).mono ?_); rw [HB.out]; rintro e w' ⟨rfl, rfl⟩) | (go_at_call 32; (with_reducible refine (rin_any who p ms c _ (hs.ext (hE0.tr hb)) hlen).mono ?_); rw [HC.out]; rintro e w' ⟨rfl, rfl⟩))
  have hE1 := hE0.tr hb
  have hR1 : rowD w' w.heap.size = ov o := row_ext hb (by simp) (rowD_new _ _ _ _)
  have hZ1 : frzD w' w.heap.size = (0, 0) := by
    have e : frzD w' w.heap.size = frzD (w.alloc (.cells (ov o) 22)) w.heap.size := by unfold frzD; rw [hb.block _ (by simp)]
    rw [e]; simp [go_sem]
  have hs1 : w.heap.size < w'.heap.size := by have := hb.size; simp at this; omega
  clear hc hf hl hz hr hq
  go_loopw [8] (fun v wr => ∃ i, i ≤ (addP o ms who).length ∧ wr.ownsRow (w.heap.size + 1) 45 2 v i (shC ((addP o ms who).take i)) ∧ rowD wr w.heap.size = ov (addO o ms who i) ∧ frzD wr w.heap.size = (0, 0) ∧ Lt w.heap.size wr ∧ Ext w wr) (fun _ wr => 40 - (load (ownOf (rowD wr w.heap.size)) who).toNat)
  case atStart => exact ⟨0, Nat.zero_le _, World.ownsRow_nil _ _ _ _, hR1, hZ1, hs1, hE1⟩
  case round =>
    clear hb hE1 hR1 hZ1 hs1
    obtain ⟨i, hi, hO, hR, hZ, hL, hE⟩ := hrel
    have HO := Lib.hid hO
    clear hO
    by_cases hp : ms.length = 0
    · have HN := Lib.hid (show i = (addP o ms who).length by
        have : (addP o ms who).length = 0 := by
          unfold addP addL moreB
          have : ms = [] := List.length_eq_zero_iff.1 hp
          subst this; simp
        omega)
      have hp0 : decide ((0 : Int) < ms.length) = false := decide_eq_false (by omega)
      have hp0n : decide (0 < ms.length) = false := decide_eq_false (by omega)
      have hp0m : ¬ 0 < ms.length := by omega
      clear hp hi
      have hO2 := HO.out
      rw [HN.out, List.take_length] at hO2
      have HO2 := Lib.hid hO2
      clear hO2 HO
      go_wp2_with (fail)
      refine wp_region_later (by kernel_rfl) (by kernel_rfl) ?_; (repeat (go_big_quiet_step (fail))); refine wpQuiet_nil ?_; intro d
      go_wp2
      go_ret2
      exact ⟨_, rfl, by rw [HX.out]; exact ownsRow_mv (ownsRow_le HO2.out (Nat.le_succ _)) (Mv.of_ext (C := fun _ => False) (later_ext d)) (fun _ _ h => h), hE.tr (later_ext d)⟩
    · have hp0 : decide ((0 : Int) < ms.length) = true := decide_eq_true (by omega)
      have hp1 : 0 < ms.length := by omega
      clear hp
      obtain ⟨O, hO⟩ : ∃ O, addO o ms who i = O := ⟨_, rfl⟩
      rw [hO] at hR
      have HOO := Lib.hid hO
      clear hO
      obtain ⟨f, hf⟩ : ∃ f, most O ms = f := ⟨_, rfl⟩
      obtain ⟨L, hL'⟩ : ∃ L, lastN O f 16 = L := ⟨_, rfl⟩
      have hLb := lastN_bd O f 16
      rw [hL'] at hLb
      obtain ⟨hL1, hL2⟩ := hLb
      have Hf := Lib.hid hf
      have HL := Lib.hid hL'
      clear hf hL'
      have l1 := load_bd O f
      have l2 := load_bd O who
      have hwr : IntKind.i64.wrap (load O who + 2) = load O who + 2 := IntWalk.i64_in _ (by omega)
      have hsW := hs.ext hE
      by_cases hmo : 2 ≤ load O f - load O who
      · have d1 : decide (load O who + 2 ≤ load O (most O ms)) = true := decide_eq_true (by rw [Hf.out]; omega)
        go_wp2_with (fail)
        refine wp_region_later (by kernel_rfl) (by kernel_rfl) ?_; (repeat (go_big_quiet_step (first | (go_at_call 48; exact calls_later (rmost_any O p ms c _ (hsW.ext (later_ext _)) hlen hp1)) | (go_at_call 26; exact calls_later (rload_any O _ _))))); refine wpQuiet_nil ?_; intro d
        have hw1 := later_ext d
        generalize later d = w1 at *
        have hE1 := hE.tr hw1
        have hR1 : rowD w1 w.heap.size = ov O := row_ext hw1 hL hR
        have hZ1 : frzD w1 w.heap.size = (0, 0) := by unfold frzD at hZ ⊢; rw [hw1.block _ hL]; exact hZ
        have hL1' : Lt w.heap.size w1 := Nat.lt_of_lt_of_le hL hw1.size
        have hns1 : ¬ w.heap.size = w1.heap.size := by unfold Lt at hL1'; omega
        have hlt1 : w.heap.size < w1.heap.size := hL1'
        have HW1 := Lib.hid hw1
        clear hw1
        go_upto_region 7 with (fail)
        go_cut [9] (fun s wx => ∃ B2, s = .pointer (some ⟨B2, 0, none⟩) ∧ w1.heap.size ≤ B2 ∧ B2 < wx.heap.size ∧ rowD wx B2 = #[.int .i64 L, .int .i64 who] ∧ Ext w1 wx)
        case first =>
          go_region_with (first | (go_at_call 48; (with_reducible refine (rmost_any O p ms c _ (hs.ext (by repeat (first | with_reducible exact Ext.rf _ | with_reducible assumption | with_reducible refine Ext.al ?_ _ | with_reducible refine Ext.dr ?_ | with_reducible refine Ext.dn ?_ _ | ((with_reducible refine Ext.st _ ?_ ?_); focus (first | omega | (simp; omega) | simp)) | ((with_reducible refine Ext.sr _ ?_ ?_); focus (first | omega | (simp; omega) | simp)) | with_reducible refine Ext.tr ?_ (by assumption) | with_reducible refine Ext.tr ?_ (up_ext (by assumption)) | with_reducible refine Ext.of (by assumption) ?_))) hlen hp1).mono ?_); rw [Hf.out]; rintro e w' ⟨rfl, hb⟩; obtain ⟨hc, hf, hl, hz, -⟩ := kept hb; obtain ⟨hr, hq⟩ := keptR hb; (try simp at hz); have hnx : ¬ w.heap.size = w'.heap.size := (by have := hb.size; (try simp at this); omega)) | (go_at_call 49; (with_reducible refine (rlast_any O f _).mono ?_); rw [HL.out]; rintro e w' ⟨rfl, hb⟩; obtain ⟨hc, hf, hl, hz, -⟩ := kept hb; obtain ⟨hr, hq⟩ := keptR hb; (try simp at hz); have hnx : ¬ w.heap.size = w'.heap.size := (by have := hb.size; (try simp at this); omega)))
          all_goals
            go_wp2_with (fail)
            go_meet
            refine ⟨_, rfl, ?_, ?_, ?_, ?_⟩
            · first | omega | (simp; omega) | simp
            · first | omega | (simp; omega) | simp
            · first | (simp [go_sem, *]; done) | (go_simp; done)
            · repeat (first | with_reducible exact Ext.rf _ | with_reducible assumption | with_reducible refine Ext.al ?_ _ | with_reducible refine Ext.dr ?_ | with_reducible refine Ext.dn ?_ _ | ((with_reducible refine Ext.st _ ?_ ?_); focus (first | omega | (simp; omega) | simp)) | ((with_reducible refine Ext.sr _ ?_ ?_); focus (first | omega | (simp; omega) | simp)) | with_reducible refine Ext.tr ?_ (by assumption) | with_reducible refine Ext.tr ?_ (up_ext (by assumption)) | with_reducible refine Ext.of (by assumption) ?_)
        case rest =>
          obtain ⟨B2, rfl, hB1, hB2, hrow, hEc⟩ := hcut
          obtain ⟨i0, hi9, hz0, hz1, hz2⟩ := info_parts info_sh
          have hmb : moreB O ms who = true := by
            unfold moreB; rw [Hf.out]
            have : ms.isEmpty = false := by cases ms <;> simp at hp1 ⊢
            rw [this]; simp; omega
          have hlt : i < (addP o ms who).length := by
            rcases Nat.lt_or_ge i (addP o ms who).length with h | h
            · exact h
            · have h2 := addP_end o ms who hw
              rw [show (addP o ms who).length = i by omega, HOO.out, hmb] at h2
              cases h2
          have hxs := (addP_get o ms who i hlt).2
          rw [HOO.out] at hxs
          have hsv : addS O ms who = ⟨L, who⟩ := by unfold addS; rw [Hf.out, HL.out]
          rw [hsv] at hxs
          have hj0 : 0 ≤ L := by
            have := (lastN_some O f 16 (by unfold load at l2 hmo; omega)).1
            rw [HL.out] at this; exact this
          obtain ⟨k, rfl⟩ : ∃ k : Nat, L = k := ⟨L.toNat, by omega⟩
          have hk16 : k < 16 := by omega
          have hone := add_one O ms who hw hmb
          rw [hsv] at hone
          have hnext : addO o ms who (i + 1) = upd O k who := by
            rw [addO_at o ms who i (by rw [HOO.out]; exact hmb), HOO.out, hsv, hone.2.2.2.2.1]; simp
          have hld : load (upd O k who) who = load O who + 1 := by
            have h1 := hone.2.2.2.2.2
            rw [hone.2.2.2.2.1] at h1
            simpa only [Int.toNat_natCast] using h1
          have hpl := addP_len o ms who hw
          have hwc : Ext wr wc := HW1.out.tr hEc
          have hszw := hwc.size
          have hszr : wr.heap.size ≤ w1.heap.size := HW1.out.size
          have hszc : w1.heap.size ≤ wc.heap.size := hEc.size
          have hLr : w.heap.size < wr.heap.size := hL
          have hRr := Lib.hid hR
          have hR3 : rowD wc w.heap.size = ov O := row_ext hEc hlt1 hR1
          have hZ3 : frzD wc w.heap.size = (0, 0) := by unfold frzD at hZ1 ⊢; rw [hEc.block _ hlt1]; exact hZ1
          have hL3 : Lt w.heap.size wc := by unfold Lt; omega
          have c30 : wc.cell? ⟨B2, 0, none⟩ = some (.int .i64 k) := by rw [cell_rowD, hrow]; rfl
          have c31 : wc.cell? ⟨B2, 1, none⟩ = some (.int .i64 who) := by rw [cell_rowD, hrow]; rfl
          have HOc := Lib.hid (ownsRow_mv HO.out (Mv.of_ext (C := fun _ => False) hwc) (fun _ _ h => h))
          have OB := Lib.hid (ownBlock_lt HO.out)
          have OG := Lib.hid (ownBlock_ge HO.out)
          have HXS := Lib.hid hxs
          have HNX := Lib.hid hnext
          have HLD := Lib.hid hld
          have HEC := Lib.hid hEc
          have HWC := Lib.hid hwc
          have HE := Lib.hid hE
          clear hxs hsv hone hnext hld hmb hEc hwc hE hE1 hR hZ hL hR1 hZ1 hL1' hsW hrow
          go_wp2_with (first
            | (at_builtin; go_must (refine wpList_append_own _ rfl _ _ 24 rfl (w.heap.size + 1) 45 i0 (.agg #[.int .i64 0, .int .i64 0]) 2 16 Try.underlying24 hi9 hz0 hz1 hz2 rfl (by decide) _ _ _ rfl (HOc.out.alloc _) ⟨wc.heap.size, 0, none⟩ 1 1 [.int .i64 k, .int .i64 who] rfl rfl (cell_two_new _ _ _ _) (by simp [Value.oneCell']) (by unfold maxLen; omega) (by omega) (by simp; omega) ?_); intro v' w2 hown' hgrow _; go_must (have hs2 : wc.heap.size + 1 ≤ w2.heap.size := by have := hgrow.size; simp at this; omega); go_must (have g0 : u8.ownBlock ≠ some w.heap.size := fun e => by have := OG.out _ e; omega); go_must (have g2 : u8.ownBlock ≠ some B2 := fun e => by have := OB.out _ e; omega); go_must (have hOld : ∀ b, b < wc.heap.size → u8.ownBlock ≠ some b → w2.heap[b]? = wc.heap[b]? := fun b h1 h2 => (hgrow.block b (by simp; omega) h2.symm).trans (Below.heap_alloc _ _ _ h1)); go_must (have r2 : rowD w2 w.heap.size = ov O := (rowD_same (hOld _ hL3 g0)).trans hR3); go_must (have z2 : frzD w2 w.heap.size = (0, 0) := by unfold frzD; rw [hOld _ hL3 g0]; exact hZ3); go_must (have c20 : w2.cell? ⟨B2, 0, none⟩ = some (.int .i64 k) := by rw [cell_rowD, rowD_same (hOld _ hB2 g2), ← cell_rowD]; exact c30); go_must (have c21 : w2.cell? ⟨B2, 1, none⟩ = some (.int .i64 who) := by rw [cell_rowD, rowD_same (hOld _ hB2 g2), ← cell_rowD]; exact c31); go_must (have l20 : Lt w.heap.size w2 := by unfold Lt; omega); go_must (have l2B : Lt B2 w2 := by unfold Lt; omega); go_must (have HMV := Lib.hid (show Mv (fun k => w.heap.size + 1 ≤ k) wc w2 from (Mv.al _ (Mv.refl _ _)).trans (Mv.of_grown hgrow fun r e => .inl (OG.out r e)))); have HOW := Lib.hid hown'; clear hown' hgrow hOld)
            | (go_at_call 30; go_must (with_reducible refine (rapply_one O k who _ hk16).mono ?_); rintro e w3 ⟨rfl, hb_3⟩; obtain ⟨hc_3, hf_3, hl_3, hz_3, -⟩ := kept hb_3; obtain ⟨hr_3, hq_3⟩ := keptR hb_3; (try simp at hz_3)))
          go_roundw
          case rel =>
            have hEw := HE.out.tr HWC.out
            have hE2 : Ext w w2 := Mv.ext_of hEw HMV.out (fun _ h => by omega)
            have hA : Ext w2 w3 := (Ext.al (Ext.rf _) _).tr hb_3
            have hrow3 : rowD w3 w.heap.size = ov O := row_ext hA l20 r2
            have hz3 : frzD w3 w.heap.size = (0, 0) := by unfold frzD at z2 ⊢; rw [hA.block _ l20]; exact z2
            have hs3 := hA.size
            refine ⟨i + 1, by omega, ?_, ?_, ?_, ?_, ?_⟩
            · have h := ownsRow_mv (C := fun b => b = w.heap.size) HOW.out (Mv.sr (b := w.heap.size) (ov (upd O k who)) rfl (Mv.of_ext hA)) (fun b hb e => by omega)
              have e : (addP o ms who).take (i + 1) = (addP o ms who).take i ++ [⟨k, who⟩] := by rw [List.take_add_one, HXS.out]; rfl
              rw [e, shC_snoc]; exact h
            · rw [rowD_setRow_same _ _ _ (by rw [hrow3]; simp), HNX.out]
            · rw [frzD_setRow]; exact hz3
            · rw [Lt_setRow]; show w.heap.size < w3.heap.size; omega
            · exact Ext.sr _ (Nat.le_refl _) (hE2.tr hA)
          case measure =>
            have hA : Ext w2 w3 := (Ext.al (Ext.rf _) _).tr hb_3
            have hrow3 : rowD w3 w.heap.size = ov O := row_ext hA l20 r2
            rw [rowD_setRow_same _ _ _ (by rw [hrow3]; simp), hRr.out, load_ownOf, load_ownOf, HLD.out]
            omega
      · have d1 : decide (load O who + 2 ≤ load O (most O ms)) = false := decide_eq_false (by rw [Hf.out]; omega)
        have HN := Lib.hid (show i = (addP o ms who).length by
          rcases Nat.lt_or_ge i (addP o ms who).length with h | h
          · have := (addP_get o ms who i h).1
            rw [HOO.out] at this
            unfold moreB at this
            rw [Hf.out] at this
            simp at this; omega
          · omega)
        have hO2 := HO.out
        rw [HN.out, List.take_length] at hO2
        have HO2 := Lib.hid hO2
        clear hO2 HO hmo hi
        go_wp2_with (fail)
        refine wp_region_later (by kernel_rfl) (by kernel_rfl) ?_; (repeat (go_big_quiet_step (first | (go_at_call 48; exact calls_later (rmost_any O p ms c _ (hsW.ext (later_ext _)) hlen hp1)) | (go_at_call 26; exact calls_later (rload_any O _ _))))); refine wpQuiet_nil ?_; intro d
        go_wp2
        go_ret2
        exact ⟨_, rfl, by rw [HX.out]; exact ownsRow_mv (ownsRow_le HO2.out (Nat.le_succ _)) (Mv.of_ext (C := fun _ => False) (later_ext d)) (fun _ _ h => h), hE.tr (later_ext d)⟩

end Go.Proofs.Ytlacidecomflkaa
