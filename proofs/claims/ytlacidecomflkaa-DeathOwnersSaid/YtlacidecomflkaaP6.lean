/- The iterator of a plan to add: it hands over the plan's shifts. -/
import Derived.Test.YtlacidecomflkaaP5
import Derived.Test.YtlacidecomflkaaPL2
import Derived.Test.YtlacidecomflkaaZ
import Derived.Maps.AppendAt
import Derived.OwnWalkIn
import Derived.TacticsInMore
import Derived.LoopNIn
import Derived.LoopIn
import Derived.Stop.RegionWithIn
set_option linter.unusedSimpArgs false
set_option linter.unusedVariables false
namespace Go.Proofs.Ytlacidecomflkaa
open Go.RowKit

theorem wpIn_at_zero {F : Fence} {n : Nat} {P : Program} {o : Oper} {l : List Oper} {h : 0 < (o :: l).toArray.size} {a : Act} {w : World} {K : Act → World → Prop} {Q : Exit → Act → World → Prop} : Oper.wpIn F n P ((o :: l).toArray[0]'h) a w K Q = Oper.wpIn F n P o a w K Q := rfl
theorem wpIn_at_succ {F : Fence} {n : Nat} {P : Program} {o : Oper} {l : List Oper} {k : Nat} {h : k + 1 < (o :: l).toArray.size} {a : Act} {w : World} {K : Act → World → Prop} {Q : Exit → Act → World → Prop} : Oper.wpIn F n P ((o :: l).toArray[k + 1]'h) a w K Q = Oper.wpIn F n P (l.toArray[k]'(by simpa using h)) a w K Q := rfl
attribute [local go_sem ↓] wpIn_at_zero wpIn_at_succ
@[go_sem] theorem wide_fn (f : FuncId) : Fence.wide.fn f = True := rfl
@[go_sem] theorem wide_depth : Fence.wide.depth = none := rfl
@[go_sem ↓ high] theorem run_semAt_wide (o : Oper) (ρ : Operand → Value) (P : Program) (w : World) : (Oper.semAt Fence.wide.round ρ o).run P w = (execOp ρ o).run P w := rfl
theorem lastN_hit (o : Nat → Int) (x : Int) (n : Nat) (h : 0 ≤ lastN o x n) : o (lastN o x n).toNat = x := by
  induction n with
  | zero => simp [lastN] at h
  | succ n ih =>
    unfold lastN at h ⊢
    by_cases hx : o n = x
    · rw [if_pos hx]; simpa using hx
    · rw [if_neg hx] at h ⊢; exact ih h
/-- What a row of ints says. -/
def ownOf (cs : Array Value) : Nat → Int := fun i => match cs[i]? with | some (.int _ v) => v | _ => 0
theorem ownOf_ov (o : Nat → Int) (i : Nat) (h : i < 16) : ownOf (ov o) i = o i := by unfold ownOf; rw [get_ov o i h]
theorem load_ownOf (o : Nat → Int) (x : Int) : load (ownOf (ov o)) x = load o x := load_congr _ _ _ fun i hi => ownOf_ov o i hi
/-- What holds at the head of the iterator's loop, i shifts having been handed over. -/
def AddRel (J : Nat → World → Prop) (o : Nat → Int) (ms : List Int) (who : Int) (w0 W : World) (Bm Bo Bw : Nat) (p : Option Addr) (n c i : Nat) (wr : World) : Prop :=
  J i wr ∧ rowD wr Bo = ov (addO o ms who i) ∧ frzD wr Bo = (0, 0) ∧ wr.cell? ⟨Bm, 0, none⟩ = some (.slice p n c) ∧ wr.cell? ⟨Bw, 0, none⟩ = some (.int .i64 who) ∧ Lt Bm wr ∧ Lt Bw wr ∧ Lt Bo wr ∧ Ext w0 wr
/-- What a round leaves. -/
theorem after_round {U : Nat → Prop} {O : Nat → Int} {who : Int} {w0 w w1 w3 w5 : World} {Bm Bo Bw : Nat} {p : Option Addr} {n c : Nat} (hX : Ext w1 w3) (hm : Mv (fun k => U k ∨ w.heap.size ≤ k) w3 w5)
    (hR : rowD w1 Bo = ov O) (hZ : frzD w1 Bo = (0, 0)) (hcm : w1.cell? ⟨Bm, 0, none⟩ = some (.slice p n c)) (hcw : w1.cell? ⟨Bw, 0, none⟩ = some (.int .i64 who))
    (lm : Lt Bm w) (lw : Lt Bw w) (lo : Lt Bo w) (lm1 : Lt Bm w1) (lw1 : Lt Bw w1) (lo1 : Lt Bo w1) (h0 : Ext w0 w1) (h0w : Ext w0 w) (hU : ∀ k, U k → w0.heap.size ≤ k ∧ k ≠ Bm ∧ k ≠ Bo ∧ k ≠ Bw) :
    rowD w5 Bo = ov O ∧ frzD w5 Bo = (0, 0) ∧ w5.cell? ⟨Bm, 0, none⟩ = some (.slice p n c) ∧ w5.cell? ⟨Bw, 0, none⟩ = some (.int .i64 who) ∧ Lt Bm w5 ∧ Lt Bw w5 ∧ Lt Bo w5 ∧ Ext w0 w5 := by
  have key : ∀ b, Lt b w → Lt b w1 → ¬ U b → w5.heap[b]? = w1.heap[b]? := fun b h1 h2 hn =>
    (hm.same b (Nat.lt_of_lt_of_le h2 hX.size) (fun h => by rcases h with h | h; exact hn h; unfold Lt at h1; omega)).trans (hX.block b h2)
  have ko := key Bo lo lo1 (fun h => (hU _ h).2.2.1 rfl)
  have km := key Bm lm lm1 (fun h => (hU _ h).2.1 rfl)
  have kw := key Bw lw lw1 (fun h => (hU _ h).2.2.2 rfl)
  have hsz : w1.heap.size ≤ w5.heap.size := Nat.le_trans hX.size hm.size
  refine ⟨by rw [rowD_same ko]; exact hR, by unfold frzD at hZ ⊢; rw [ko]; exact hZ, ?_, ?_, Nat.lt_of_lt_of_le lm1 hsz, Nat.lt_of_lt_of_le lw1 hsz, Nat.lt_of_lt_of_le lo1 hsz, ?_⟩
  · rw [cell_rowD, rowD_same km, ← cell_rowD]; exact hcm
  · rw [cell_rowD, rowD_same kw, ← cell_rowD]; exact hcw
  · refine Mv.ext_of (h0.tr hX) hm fun k h => ?_
    rcases h with h | h
    · exact (hU k h).1
    · exact Nat.le_trans h0w.size h
theorem addO_at (o : Nat → Int) (ms : List Int) (who : Int) (i : Nat) (h : moreB (addO o ms who i) ms who = true) : addO o ms who (i + 1) = apply1 (addO o ms who i) (addS (addO o ms who i) ms who) := by
  rw [addO, if_pos h]

set_option maxRecDepth 20000 in
set_option maxHeartbeats 4000000 in
theorem adding_iter (n : Nat) (o : Nat → Int) (ms : List Int) (who : Int) (p : Option Addr) (c : Nat) (w0 w : World) (Bm Bo Bw : Nat) (U : Nat → Prop)
    (h0 : Ext w0 w) (hs : Sl w0 p ms) (hlen : ms.length ≤ 1000) (hcap : ms.length ≤ c) (hmm : ∀ m ∈ ms, 0 ≤ m ∧ m < 6) (hw : who ∉ ms)
    (hm : w.cell? ⟨Bm, 0, none⟩ = some (.slice p ms.length c)) (hwh : w.cell? ⟨Bw, 0, none⟩ = some (.int .i64 who)) (ho : rowD w Bo = ov o) (hz : frzD w Bo = (0, 0))
    (lm : Lt Bm w) (lw : Lt Bw w) (lo : Lt Bo w) (n1 : Bm ≠ Bo) (n2 : Bw ≠ Bo) (nb : w0.heap.size ≤ Bo) (hU : ∀ k, U k → w0.heap.size ≤ k ∧ k ≠ Bm ∧ k ≠ Bo ∧ k ≠ Bw) :
    Iter Fence.wide n Try.prog 74 #[.pointer (some ⟨Bm, 0, none⟩), .pointer (some ⟨Bo, 0, none⟩), .pointer (some ⟨Bw, 0, none⟩)] (fun s => #[shv s]) (fun k => k = Bo) U (addP o ms who) w := by
  intro l J Jx W hW hJ hJx hY hJ0
  have HJ := Lib.hid hJ
  have HJx := Lib.hid hJx
  have HM := Lib.hid hmm
  have HW := Lib.hid hw
  have HU := Lib.hid hU
  clear hJ hJx hmm hw hU
  have hmW : W.cell? ⟨Bm, 0, none⟩ = some (.slice p ms.length c) := (hW.cell (p := ⟨Bm, 0, none⟩) lm).trans hm
  have hwW : W.cell? ⟨Bw, 0, none⟩ = some (.int .i64 who) := (hW.cell (p := ⟨Bw, 0, none⟩) lw).trans hwh
  have hoW : rowD W Bo = ov o := row_ext hW lo ho
  have hzW : frzD W Bo = (0, 0) := by unfold frzD; rw [hW.block Bo lo]; exact hz
  have h0W : Ext w0 W := h0.tr hW
  have lmW : Lt Bm W := Nat.lt_of_lt_of_le lm hW.size
  have lwW : Lt Bw W := Nat.lt_of_lt_of_le lw hW.size
  have loW : Lt Bo W := Nat.lt_of_lt_of_le lo hW.size
  clear hm hwh ho hz
  refine callsIn_of_wp Try.func74 rfl trivial ?_ rfl
  simp only [Try.ntmps74, List.size_toArray, List.length_cons, List.length_nil, Nat.reduceAdd, Nat.reduceSub, Array.replicate_succ, Array.replicate_zero, List.push_toArray, List.append_toArray, List.nil_append, List.cons_append]
  refine wpIn_wide.2 ?_
  obtain ⟨yfn, ytm, yas, ybo, hY⟩ := hY
  have HY := Lib.hid hY
  clear hY
  go_wp2
  go_loopw [5, 6] (fun _ _ wr => ∃ i, i ≤ (addP o ms who).length ∧ AddRel J o ms who w0 W Bm Bo Bw p ms.length c i wr) (fun _ _ wr => 40 - (load (ownOf (rowD wr Bo)) who).toNat)
  case atStart => exact ⟨0, Nat.zero_le _, ⟨hJ0, hoW, hzW, hmW, hwW, lmW, lwW, loW, h0W⟩⟩
  case round =>
    obtain ⟨i, hi, hrel⟩ := hrel
    obtain ⟨hJi, hR, hZ, hcm, hcw, lm', lw', lo', hE⟩ := hrel
    by_cases hp : ms.length = 0
    · have HN := Lib.hid (show i = (addP o ms who).length by
        have : (addP o ms who).length = 0 := by
          unfold addP addL moreB
          have : ms = [] := List.length_eq_zero_iff.1 hp
          subst this; simp
        omega)
      have hp0 : (ms.length : Int) ≤ 0 := by omega
      clear hp hi
      go_wp2
      go_end0
      exact ⟨⟨_, rfl⟩, .inl (by rw [← HN.out]; exact hJi)⟩
    · have hp0 : (0 : Int) < ms.length := by omega
      have hp1 : 0 < ms.length := by omega
      clear hp
      obtain ⟨O, hO⟩ : ∃ O, addO o ms who i = O := ⟨_, rfl⟩
      rw [hO] at hR
      have HO := Lib.hid hO
      clear hO
      go_wp2_with (go_at_call 62; (with_reducible refine (most_any O p ms c _ (hs.ext hE) hlen hp1 hcap HM.out).mono ?_); rintro e w' ⟨rfl, hb⟩)
      have hE' := hE.tr hb
      have hR' := row_ext hb lo' hR
      have hZ' : frzD w' Bo = (0, 0) := by unfold frzD; rw [hb.block Bo lo']; exact hZ
      have hcm' : w'.cell? ⟨Bm, 0, none⟩ = some (.slice p ms.length c) := (hb.cell (p := ⟨Bm, 0, none⟩) lm').trans hcm
      have hcw' : w'.cell? ⟨Bw, 0, none⟩ = some (.int .i64 who) := (hb.cell (p := ⟨Bw, 0, none⟩) lw').trans hcw
      have lm2 : Lt Bm w' := Nat.lt_of_lt_of_le lm' hb.size
      have lw2 : Lt Bw w' := Nat.lt_of_lt_of_le lw' hb.size
      have lo2 : Lt Bo w' := Nat.lt_of_lt_of_le lo' hb.size
      have hJ2 : J i w' := HJ.out i wr w' hJi (Mv.of_ext hb)
      have HRW := Lib.hid hR
      clear hb hJi hR hZ hcm hcw lm' lw' lo' hE
      obtain ⟨f, hf⟩ : ∃ f, most O ms = f := ⟨_, rfl⟩
      obtain ⟨L, hL⟩ : ∃ L, lastN O f 16 = L := ⟨_, rfl⟩
      have hLb := lastN_bd O f 16
      rw [hL] at hLb
      have Hf := Lib.hid hf
      have HL := Lib.hid hL
      have HR := Lib.hid hR'
      rw [hf]
      clear hf hL hR'
      obtain ⟨hL1, hL2⟩ := hLb
      go_loop [6] (fun a => ∃ j : Int, -1 ≤ j ∧ j ≤ 15 ∧ L ≤ j ∧ a = .int .i64 j ∧ lastN O f (j + 1).toNat = L) (fun a => (intOf a + 1).toNat)
      case atStart => exact ⟨15, by omega, by omega, by omega, rfl, HL.out⟩
      case round =>
        obtain ⟨j, j1, j15, jL, rfl, hj⟩ := hrel
        by_cases hjl : L < j
        · obtain ⟨k, rfl⟩ : ∃ k : Nat, j = k := ⟨j.toNat, by omega⟩
          have hcell := cell_row (i := k) HR.out (by omega)
          rw [show ((k : Int) + 1).toNat = k + 1 by omega] at hj
          have hne : ¬ O k = f := fun e => by rw [lastN_yes O f k e] at hj; omega
          rw [lastN_no O f k hne] at hj
          have hb1 : (O k == f) = false := by simpa using hne
          have hk16 : (k : Int) < 16 := by omega
          have Hj := Lib.hid hj
          clear hj hne
          go_wp2
          go_round
          case rel => exact ⟨(k : Int) - 1, by omega, by omega, by omega, rfl, by rw [show ((k : Int) - 1 + 1).toNat = k by omega]; exact Hj.out⟩
          case measure => simp [intOf]
        · obtain rfl : j = L := by omega
          clear hjl jL
          have Hj := Lib.hid hj
          clear hj
          have l1 := load_bd O f
          have l2 := load_bd O who
          by_cases hmo : 2 ≤ load O f - load O who
          · have hmb : moreB O ms who = true := by
              unfold moreB; rw [Hf.out]
              have : ms.isEmpty = false := by cases ms <;> simp at hp1 ⊢
              rw [this]; simp; omega
            have hlt : i < (addP o ms who).length := by
              rcases Nat.lt_or_ge i (addP o ms who).length with h | h
              · exact h
              · have h2 := addP_end o ms who HW.out
                rw [show (addP o ms who).length = i by omega, HO.out, hmb] at h2
                cases h2
            have hxs := (addP_get o ms who i hlt).2
            rw [HO.out] at hxs
            have hsv : addS O ms who = ⟨j, who⟩ := by unfold addS; rw [Hf.out, HL.out]
            rw [hsv] at hxs
            have hj0 : 0 ≤ j := by
              have := (lastN_some O f 16 (by unfold load at l2 hmo; omega)).1
              rw [HL.out] at this; exact this
            obtain ⟨k, rfl⟩ : ∃ k : Nat, j = k := ⟨j.toNat, by omega⟩
            have hcell := cell_row (i := k) HR.out (by omega)
            have hit : O k = f := by have := lastN_hit O f 16 (by rw [HL.out]; omega); rw [HL.out] at this; simpa using this
            have hb1 : (O k == f) = true := by simpa using hit
            have hk16 : (k : Int) < 16 := by omega
            have d1 : decide (load O f - load O who < 2) = false := decide_eq_false (by omega)
            have hwr : IntKind.i64.wrap (load O f - load O who) = load O f - load O who := IntWalk.i64_in _ (by omega)
            have HXS := Lib.hid hxs
            have HSV := Lib.hid hsv
            have Hit := Lib.hid hit
            have HMB := Lib.hid hmb
            clear hit hsv hxs hmb
            have hR2 := HR.out
            have hJd : J i w'.drew := HJ.out i _ _ hJ2 (Mv.of_ext (Ext.dr (Ext.rf _)))
            have hXd : Ext w' w'.drew := Ext.dr (Ext.rf _)
            have hrun : ∀ W1, J i W1 → (Instr.yield l #[.agg #[.int .i64 k, .int .i64 who]]).run Try.prog W1 = .ok (.round l yfn (ytm #[.agg #[.int .i64 k, .int .i64 who]]) yas ybo) W1 := fun W1 h1 => (HY.out i _ W1 h1 HXS.out).1
            have HRD := Lib.hid (fun W1 h1 => (HY.out i _ W1 h1 HXS.out).2)
            go_wp2
            refine (wpIn_wide (n := n)).1 ?_
            gi_region_with (first | (gi_at_call 25; (with_reducible refine (callsIn_wide.2 (load_any _ _ _)).mono ?_); rintro e w3 ⟨rfl, hb⟩; have hJn := HJ.out i _ _ (by assumption) (Mv.of_ext hb); have hXn : Ext w' w3 := Ext.tr (by assumption) hb; obtain ⟨hc, hf, hl, hz, -⟩ := kept hb; obtain ⟨hr, hq⟩ := keptR hb; try simp at hz) | (rw [hrun _ (by assumption)]; simp only [Oper.uponIn_round, wide_depth, Option.isSome_none, Bool.false_eq_true, false_implies, true_and]; refine (HRD.out _ (by assumption)).mono ?_; rintro e w5 ⟨b, rfl, hP⟩))
            all_goals
              obtain ⟨rfl, hJ5, hm5⟩ | ⟨rfl, hx5⟩ := hP
              · obtain ⟨hR5, hZ5, hcm5, hcw5, lm5, lw5, lo5, hE5⟩ := after_round hXn hm5 hR2 hZ' hcm' hcw' lm lw lo lm2 lw2 lo2 hE' h0 HU.out
                clear hc hf hl hz hr hq hm5 hXn hR2 hZ' hcm' hcw'
                have hfr := frozen_of_frz hZ5 k
                have hc5 := cell_row (i := k) hR5 (by omega)
                have HR5 := Lib.hid hR5
                clear hR5
                go_wp2
                have hone := add_one O ms who HW.out HMB.out
                rw [HSV.out] at hone
                have hnext : addO o ms who (i + 1) = upd O k who := by
                  rw [addO_at o ms who i (by rw [HO.out]; exact HMB.out), HO.out, HSV.out, hone.2.2.2.2.1]; simp
                go_roundw
                case rel =>
                  refine ⟨i + 1, by omega, HJ.out (i + 1) _ _ hJ5 (Mv.st _ (.inl rfl) (Mv.refl _ _)), ?_, by rw [frzD_setCell]; exact hZ5, ?_, ?_, by rw [Lt_setCell]; exact lm5, by rw [Lt_setCell]; exact lw5, by rw [Lt_setCell]; exact lo5, Ext.st _ nb hE5⟩
                  · rw [rowD_setCell, if_pos rfl, HR5.out, set_ov, hnext]
                  · rw [World.cell?_setCell_other _ _ _ _ (by intro e; cases e; exact n1 rfl)]; exact hcm5
                  · rw [World.cell?_setCell_other _ _ _ _ (by intro e; cases e; exact n2 rfl)]; exact hcw5
                case measure =>
                  rw [rowD_setCell, if_pos rfl, HR5.out, set_ov, HRW.out, load_ownOf, load_ownOf]
                  have h1 := hone.2.2.2.2.2
                  rw [hone.2.2.2.2.1] at h1
                  simp only [Int.toNat_natCast] at h1
                  rw [h1]
                  omega
              · clear hc hf hl hz hr hq hXn
                go_wp2
                refine bodyPost_ret (results_none rfl _ _ _) rfl ⟨⟨_, rfl⟩, .inr hx5⟩
          · have HN := Lib.hid (show i = (addP o ms who).length by
              rcases Nat.lt_or_ge i (addP o ms who).length with h | h
              · have := (addP_get o ms who i h).1
                rw [HO.out] at this
                unfold moreB at this
                rw [Hf.out] at this
                simp at this; omega
              · omega)
            have d1 : decide (load O f - load O who < 2) = true := decide_eq_true (by omega)
            have dlt : load O f - load O who < 2 := by omega
            clear hmo hi
            by_cases hneg : j < 0
            · have hj0 : j = -1 := by omega
              clear HL Hj
              subst hj0
              have hR2 := HR.out
              go_wp2
              refine wp_region_later (by kernel_rfl) (by kernel_rfl) ?_; (repeat (go_big_quiet_step ((go_at_call 25; exact calls_later (load_any _ _ _))))); refine wpQuiet_nil ?_; intro d
              go_wp2
              refine bodyPost_ret (results_none rfl _ _ _) rfl ⟨⟨_, rfl⟩, .inl ?_⟩
              rw [← HN.out]; exact HJ.out i _ _ hJ2 (Mv.of_ext (later_ext d))
            · obtain ⟨k, rfl⟩ : ∃ k : Nat, j = k := ⟨j.toNat, by omega⟩
              have hcell := cell_row (i := k) HR.out (by omega)
              have hit : O k = f := by have := lastN_hit O f 16 (by rw [HL.out]; omega); rw [HL.out] at this; simpa using this
              have hb1 : (O k == f) = true := by simpa using hit
              have hk16 : (k : Int) < 16 := by omega
              have Hit := Lib.hid hit
              clear hit
              have hR2 := HR.out
              go_wp2
              refine wp_region_later (by kernel_rfl) (by kernel_rfl) ?_; (repeat (go_big_quiet_step ((go_at_call 25; exact calls_later (load_any _ _ _))))); refine wpQuiet_nil ?_; intro d
              go_wp2
              refine bodyPost_ret (results_none rfl _ _ _) rfl ⟨⟨_, rfl⟩, .inl ?_⟩
              rw [← HN.out]; exact HJ.out i _ _ hJ2 (Mv.of_ext (later_ext d))

end Go.Proofs.Ytlacidecomflkaa
