/- The iterator of a plan to move: it hands over the plan's shifts. -/
import Derived.Test.YtlacidecomflkaaP6
import Derived.Test.YtlacidecomflkaaPL3
set_option linter.unusedSimpArgs false
set_option linter.unusedVariables false
namespace Go.Proofs.Ytlacidecomflkaa
open Go.RowKit

/-- What holds at the head of the iterator's loop, i buckets having been looked at. -/
def LeaveRel (J : Nat → World → Prop) (so : Nat → Bool) (o : Nat → Int) (ms : List Int) (sv : Value) (w0 w : World) (Bo Bs Bm : Nat) (U : Nat → Prop) (p : Option Addr) (n c i : Nat) (wr : World) : Prop :=
  J (moveN so i) wr ∧ rowD wr Bo = ov (moveO so ms o i) ∧ frzD wr Bo = (0, 0) ∧ wr.cell? ⟨Bs, 0, none⟩ = some sv ∧ wr.cell? ⟨Bm, 0, none⟩ = some (.slice p n c) ∧ Lt Bs wr ∧ Lt Bm wr ∧ Lt Bo wr ∧ Ext w0 wr ∧ Mv (fun k => k = Bo ∨ U k ∨ w.heap.size ≤ k) w wr

/-- What a round leaves, whatever the second box holds. -/
theorem after_round2 {U : Nat → Prop} {O : Nat → Int} {sv : Value} {w0 w w1 w3 w5 : World} {Bm Bo Bw : Nat} {p : Option Addr} {n c : Nat} (hX : Ext w1 w3) (hm : Mv (fun k => U k ∨ w.heap.size ≤ k) w3 w5)
    (hR : rowD w1 Bo = ov O) (hZ : frzD w1 Bo = (0, 0)) (hcm : w1.cell? ⟨Bm, 0, none⟩ = some (.slice p n c)) (hcw : w1.cell? ⟨Bw, 0, none⟩ = some sv)
    (lm : Lt Bm w) (lw : Lt Bw w) (lo : Lt Bo w) (lm1 : Lt Bm w1) (lw1 : Lt Bw w1) (lo1 : Lt Bo w1) (h0 : Ext w0 w1) (h0w : Ext w0 w) (hU : ∀ k, U k → w0.heap.size ≤ k ∧ k ≠ Bm ∧ k ≠ Bo ∧ k ≠ Bw) :
    rowD w5 Bo = ov O ∧ frzD w5 Bo = (0, 0) ∧ w5.cell? ⟨Bm, 0, none⟩ = some (.slice p n c) ∧ w5.cell? ⟨Bw, 0, none⟩ = some sv ∧ Lt Bm w5 ∧ Lt Bw w5 ∧ Lt Bo w5 ∧ Ext w0 w5 := by
  have key : ∀ b, Lt b w → Lt b w1 → ¬ U b → w5.heap[b]? = w1.heap[b]? := fun b h1 h2 hn =>
    (hm.same b (Nat.lt_of_lt_of_le h2 hX.size) (fun h => by rcases h with h | h; exact hn h; unfold Lt at h1; omega)).trans (hX.block b h2)
  have ko := key Bo lo lo1 (fun h => (hU _ h).2.2.1 rfl)
  have km := key Bm lm lm1 (fun h => (hU _ h).2.1 rfl)
  have kw := key Bw lw lw1 (fun h => (hU _ h).2.2.2 rfl)
  have hsz : w1.heap.size ≤ w5.heap.size := Nat.le_trans hX.size hm.size
  refine ⟨by rw [rowD_same ko]; exact hR, by unfold frzD at hZ ⊢; rw [ko]; exact hZ, ?_, ?_, Nat.lt_of_lt_of_le lm1 hsz, Nat.lt_of_lt_of_le lw1 hsz, Nat.lt_of_lt_of_le lo1 hsz, ?_⟩
  · rw [cell_rowD, rowD_same km, ← cell_rowD]; exact hcm
  · rw [cell_rowD, rowD_same kw, ← cell_rowD]; exact hcw
  · refine Mv.ext_of (h0.tr hX) hm fun k h => ?_
    rcases h with h | h
    · exact (hU k h).1
    · exact Nat.le_trans h0w.size h

set_option maxRecDepth 20000 in
set_option maxHeartbeats 4000000 in
theorem leaving_iter (n : Nat) (o : Nat → Int) (ms : List Int) (g : Nat) (lb : Array Value) (eg : ∀ args w, (callFunc g args).run Try.prog w = .ok (.enter g args) w) (pr : Int → Bool) (p : Option Addr) (c : Nat) (w0 w : World) (Bo Bs Bm : Nat) (U : Nat → Prop)
    (h0 : Ext w0 w) (hs : Sl w0 p ms) (hlen : ms.length ≤ 1000) (hcap : ms.length ≤ c) (hp : 0 < ms.length) (hmm : ∀ m ∈ ms, 0 ≤ m ∧ m < 6)
    (hso : ∀ x W, Mv (fun k => k = Bo ∨ U k ∨ w.heap.size ≤ k) w W → Calls Try.prog g (#[.int .i64 x] ++ lb) W fun e w' => e = .returned (.bool (pr x)) ∧ Ext W w')
    (hm : w.cell? ⟨Bm, 0, none⟩ = some (.slice p ms.length c)) (hsv : w.cell? ⟨Bs, 0, none⟩ = some (.func (.func g) #[] lb)) (ho : rowD w Bo = ov o) (hz : frzD w Bo = (0, 0))
    (lm : Lt Bm w) (ls : Lt Bs w) (lo : Lt Bo w) (n1 : Bm ≠ Bo) (n2 : Bs ≠ Bo) (nb : w0.heap.size ≤ Bo) (hU : ∀ k, U k → w0.heap.size ≤ k ∧ k ≠ Bm ∧ k ≠ Bo ∧ k ≠ Bs) :
    Iter Fence.wide n Try.prog 77 #[.pointer (some ⟨Bo, 0, none⟩), .pointer (some ⟨Bs, 0, none⟩), .pointer (some ⟨Bm, 0, none⟩)] (fun s => #[shv s]) (fun k => k = Bo) U (moveP (fun i => pr (o i)) ms o) w := by
  intro l J Jx W hW hJ hJx hY hJ0
  have HJ := Lib.hid hJ
  have HJx := Lib.hid hJx
  have HM := Lib.hid hmm
  have HU := Lib.hid hU
  have HSO := Lib.hid hso
  obtain ⟨so, hsoe⟩ : ∃ so : Nat → Bool, (fun i => pr (o i)) = so := ⟨_, rfl⟩
  rw [hsoe] at hY ⊢
  have HSE := Lib.hid hsoe
  clear hJ hJx hmm hU hso hsoe
  obtain ⟨yfn, ytm, yas, ybo, hY⟩ := hY
  have HY := Lib.hid hY
  clear hY
  have hmW : W.cell? ⟨Bm, 0, none⟩ = some (.slice p ms.length c) := (hW.cell (p := ⟨Bm, 0, none⟩) lm).trans hm
  have hsW : W.cell? ⟨Bs, 0, none⟩ = some (.func (.func g) #[] lb) := (hW.cell (p := ⟨Bs, 0, none⟩) ls).trans hsv
  have hoW : rowD W Bo = ov o := row_ext hW lo ho
  have hzW : frzD W Bo = (0, 0) := by unfold frzD; rw [hW.block Bo lo]; exact hz
  have h0W : Ext w0 W := h0.tr hW
  have lmW : Lt Bm W := Nat.lt_of_lt_of_le lm hW.size
  have lsW : Lt Bs W := Nat.lt_of_lt_of_le ls hW.size
  have loW : Lt Bo W := Nat.lt_of_lt_of_le lo hW.size
  clear hm hsv ho hz
  refine callsIn_of_wp Try.func77 rfl trivial ?_ rfl
  simp only [Try.ntmps77, List.size_toArray, List.length_cons, List.length_nil, Nat.reduceAdd, Nat.reduceSub, Array.replicate_succ, Array.replicate_zero, List.push_toArray, List.append_toArray, List.nil_append, List.cons_append]
  refine wpIn_wide.2 ?_
  go_wp2
  go_loopw [5, 6, 8] (fun _ _ a wr => ∃ i : Nat, i ≤ 16 ∧ a = .int .i64 i ∧ LeaveRel J so o ms (.func (.func g) #[] lb) w0 w Bo Bs Bm U p ms.length c i wr) (fun _ _ a _ => 16 - (intOf a).toNat)
  case atStart => exact ⟨0, Nat.zero_le _, rfl, hJ0, hoW, hzW, hsW, hmW, lsW, lmW, loW, h0W, Mv.of_ext hW⟩
  case round =>
    clear hmW hsW hoW hzW lmW lsW loW hJ0
    obtain ⟨i, hi, rfl, hJi, hR, hZ, hcs, hcm, ls', lm', lo', hE, hMv⟩ := hrel
    have hi16 : (i : Int) ≤ 16 := by omega
    by_cases hlt : i < 16
    · have hlt' : (i : Int) < 16 := by omega
      have HC := HSO.out (o i) wr hMv
      cases hso : pr (o i)
      · have hsi : so i = false := by rw [← HSE.out]; exact hso
        rw [hso] at HC
        have HCC := Lib.hid HC
        have HSI := Lib.hid hsi
        have HMV := Lib.hid hMv
        clear HC hsi hso hMv
        go_wp2_with ((with_reducible refine (HCC.out).mono ?_); rintro e w' ⟨rfl, hb⟩)
        go_roundw
        case rel =>
          refine ⟨i + 1, by omega, by go_num, ?_, ?_, ?_, ?_, ?_, Nat.lt_of_lt_of_le ls' hb.size, Nat.lt_of_lt_of_le lm' hb.size, Nat.lt_of_lt_of_le lo' hb.size, hE.tr hb, HMV.out.tr hb⟩
          · rw [moveN_no so i HSI.out]; exact HJ.out _ _ _ hJi (Mv.of_ext hb)
          · rw [moveO_no so ms o i HSI.out]; exact row_ext hb lo' hR
          · unfold frzD; rw [hb.block Bo lo']; exact hZ
          · exact (hb.cell (p := ⟨Bs, 0, none⟩) ls').trans hcs
          · exact (hb.cell (p := ⟨Bm, 0, none⟩) lm').trans hcm
        case measure => simp [intOf]; omega
      · have hsi : so i = true := by rw [← HSE.out]; exact hso
        rw [hso] at HC
        have HCC := Lib.hid HC
        have HSI := Lib.hid hsi
        have HMV := Lib.hid hMv
        have HJI := Lib.hid hJi
        clear HC hsi hso hMv hJi
        obtain ⟨O, hO⟩ : ∃ O, moveO so ms o i = O := ⟨_, rfl⟩
        rw [hO] at hR
        have HO := Lib.hid hO
        clear hO
        go_upto_region 4 with ((with_reducible refine (HCC.out).mono ?_); rintro e w1 ⟨rfl, hb1⟩)
        have hR1 := row_ext hb1 lo' hR
        have hZ1 : frzD w1 Bo = (0, 0) := by unfold frzD; rw [hb1.block Bo lo']; exact hZ
        have hcs1 : w1.cell? ⟨Bs, 0, none⟩ = some (.func (.func g) #[] lb) := (hb1.cell (p := ⟨Bs, 0, none⟩) ls').trans hcs
        have hcm1 : w1.cell? ⟨Bm, 0, none⟩ = some (.slice p ms.length c) := (hb1.cell (p := ⟨Bm, 0, none⟩) lm').trans hcm
        have hE1 := hE.tr hb1
        have HMV1 := Lib.hid (HMV.out.tr hb1)
        have HJ1 := Lib.hid (HJ.out _ _ _ HJI.out (Mv.of_ext hb1))
        have ls1 : Lt Bs w1 := Nat.lt_of_lt_of_le ls' hb1.size
        have lm1 : Lt Bm w1 := Nat.lt_of_lt_of_le lm' hb1.size
        have lo1 : Lt Bo w1 := Nat.lt_of_lt_of_le lo' hb1.size
        clear HMV HJI hb1 hR hZ hcs hcm hE ls' lm' lo' HCC
        go_upto_region 5 with (go_at_call 58; (with_reducible refine (least_any O p ms c _ (hs.ext hE1) hlen hp hcap HM.out).mono ?_); rintro e w2 ⟨rfl, hb2⟩; have hR2 := row_ext hb2 lo1 hR1; have hc2 := cell_row (i := i) hR2 (by omega); have hf2 := frozen_of_frz (show frzD w2 Bo = (0, 0) by unfold frzD; rw [hb2.block Bo lo1]; exact hZ1) i)
        have hZ2 : frzD w2 Bo = (0, 0) := by unfold frzD; rw [hb2.block Bo lo1]; exact hZ1
        have hcs2 : w2.cell? ⟨Bs, 0, none⟩ = some (.func (.func g) #[] lb) := (hb2.cell (p := ⟨Bs, 0, none⟩) ls1).trans hcs1
        have hcm2 : w2.cell? ⟨Bm, 0, none⟩ = some (.slice p ms.length c) := (hb2.cell (p := ⟨Bm, 0, none⟩) lm1).trans hcm1
        obtain ⟨x, hx⟩ : ∃ x, least O ms = x := ⟨_, rfl⟩
        rw [hx]
        have HX := Lib.hid hx
        clear hx
        obtain ⟨W5, hW5⟩ : ∃ W5, W5 = w2.setCell ⟨Bo, i, none⟩ (.int .i64 x) := ⟨_, rfl⟩
        rw [← hW5]
        have hR5 : rowD W5 Bo = ov (upd O i x) := by rw [hW5, rowD_setCell, if_pos rfl, hR2, set_ov]
        have hZ5 : frzD W5 Bo = (0, 0) := by rw [hW5, frzD_setCell]; exact hZ2
        have hcs5 : W5.cell? ⟨Bs, 0, none⟩ = some (.func (.func g) #[] lb) := by rw [hW5, World.cell?_setCell_other _ _ _ _ (by intro e; cases e; exact n2 rfl)]; exact hcs2
        have hcm5 : W5.cell? ⟨Bm, 0, none⟩ = some (.slice p ms.length c) := by rw [hW5, World.cell?_setCell_other _ _ _ _ (by intro e; cases e; exact n1 rfl)]; exact hcm2
        have ls5 : Lt Bs W5 := by rw [hW5, Lt_setCell]; exact Nat.lt_of_lt_of_le ls1 hb2.size
        have lm5 : Lt Bm W5 := by rw [hW5, Lt_setCell]; exact Nat.lt_of_lt_of_le lm1 hb2.size
        have lo5 : Lt Bo W5 := by rw [hW5, Lt_setCell]; exact Nat.lt_of_lt_of_le lo1 hb2.size
        have hE5 : Ext w0 W5 := by rw [hW5]; exact Ext.st _ nb (hE1.tr hb2)
        have hJ5 : J (moveN so i) W5 := HJ.out _ w1 W5 HJ1.out (by rw [hW5]; exact Mv.st _ (.inl rfl) (Mv.of_ext hb2))
        have HMV5 := Lib.hid (show Mv (fun k => k = Bo ∨ U k ∨ w.heap.size ≤ k) w W5 by rw [hW5]; exact Mv.st _ (.inl (.inl rfl)) (HMV1.out.tr hb2))
        clear hW5 hb2 hR2 hc2 hf2 hZ2 hcs2 hcm2 hR1 hZ1 hcs1 hcm1 hE1 HMV1 HJ1 ls1 lm1 lo1
        have hc5 := cell_row (i := i) hR5 (by omega)
        have hux : upd O i x i = x := by simp [upd]
        rw [hux] at hc5
        have HR5 := Lib.hid hR5
        clear hR5 hux
        have HXS := Lib.hid (moveP_get so ms o i hlt HSI.out)
        rw [HO.out, HX.out] at HXS
        have hrun : (Instr.yield l #[.agg #[.int .i64 i, .int .i64 x]]).run Try.prog W5 = .ok (.round l yfn (ytm #[.agg #[.int .i64 i, .int .i64 x]]) yas ybo) W5 := (HY.out (moveN so i) _ W5 hJ5 HXS.out).1
        have HRD := Lib.hid (HY.out (moveN so i) _ W5 hJ5 HXS.out).2
        refine (wpIn_wide (n := n)).1 ?_
        gi_wp2
        refine (HRD.out).mono ?_
        rintro e w6 ⟨b, rfl, hP⟩
        obtain ⟨rfl, hJ6, hm6⟩ | ⟨rfl, hx6⟩ := hP
        · obtain ⟨hR6, hZ6, hcm6, hcs6, lm6, ls6, lo6, hE6⟩ := after_round2 (Ext.rf W5) hm6 HR5.out hZ5 hcm5 hcs5 lm ls lo lm5 ls5 lo5 hE5 h0 HU.out
          have HMV6 := Lib.hid (HMV5.out.trans (hm6.mono fun k _ h => h.elim (fun h => .inr (.inl h)) (fun h => .inr (.inr h))))
          clear hm6
          gi_wp2
          go_wp2
          go_roundw
          case rel =>
            refine ⟨i + 1, by omega, by go_num, ?_, ?_, hZ6, hcs6, hcm6, ls6, lm6, lo6, hE6, HMV6.out⟩
            · rw [moveN_yes so i HSI.out]; exact hJ6
            · rw [moveO_yes so ms o i HSI.out, HO.out, HX.out]; exact hR6
          case measure => simp [intOf]; omega
        · gi_wp2
          go_wp2
          refine bodyPost_ret (results_none rfl _ _ _) rfl ⟨⟨_, rfl⟩, .inr hx6⟩
    · obtain rfl : i = 16 := by omega
      have HL := Lib.hid (moveP_len so ms o)
      go_wp2
      go_end0
      exact ⟨⟨_, rfl⟩, .inl (by rw [HL.out]; exact hJi)⟩

end Go.Proofs.Ytlacidecomflkaa
