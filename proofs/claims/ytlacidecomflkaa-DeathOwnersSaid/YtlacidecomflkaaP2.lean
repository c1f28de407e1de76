/- The least and the most loaded: loads, first, least, most of the package plan. -/
import Derived.Test.YtlacidecomflkaaP1
set_option linter.unusedSimpArgs false
set_option linter.unusedVariables false
namespace Go.Proofs.Ytlacidecomflkaa
open Go.RowKit

theorem info_six : (Try.prog.info? 95).map (·.size) = some 6 := by kernel_rfl
theorem loadVar_six {w : World} {b : Nat} (h : (rowD w b).size = 6) : (loadVar 95 ⟨b, 0, none⟩).run Try.prog w = .ok (.agg (rowD w b)) w := by
  unfold rowD at h ⊢
  cases hg : w.heap[b]? with
  | none => rw [hg] at h; simp at h
  | some o =>
    rw [hg] at h
    cases o with
    | cells cs t fr => exact run_loadVar_row w b t _ cs fr _ hg Try.underlying95 rfl (by rw [info_six]; simpa using h.symm)
    | _ => simp at h
theorem loadAt_six {w : World} {b : Nat} (h : (rowD w b).size = 6) : (Instr.loadAt 95 (.pointer (some ⟨b, 0, none⟩))).run Try.prog w = .ok (.agg (rowD w b)) w := by
  simp only [Instr.loadAt, Instr.sureAddr, Sem.run_bind, Sem.run_pure, Result.andThen_ok]
  exact loadVar_six h
theorem storeAt_six {w : World} {b : Nat} (cs : Array Value) (hs : cs.size = 6) (h : (rowD w b).size = 6) (hz : frzD w b = (0, 0)) (h1 : cs.all (·.oneCell') = true) : (Instr.storeAt 95 (.pointer (some ⟨b, 0, none⟩)) (.agg cs)).run Try.prog w = .ok () (setRow w b cs) := by
  refine run_storeAt_mid w b 0 95 cs (fun j hj => ⟨?_, frozen_of_frz hz _⟩) (by rw [info_six, hs]) h1
  rw [cell_rowD, Nat.zero_add, Array.getElem?_eq_getElem (by omega)]; rfl
@[go_sem ↓ high] theorem exec_load_six (ρ : Operand → Value) (dst : Option Tmp) (x : Operand) (ty : TypeId) (pos : String) (after : Array Edge) (g : Option (Nat × Bool)) (w : World)
    (hx : ρ x = .pointer (some ⟨blkOf (ρ x), 0, none⟩)) (h : (rowD w (blkOf (ρ x))).size = 6) :
    (execOp ρ ⟨dst, .load 95 x, ty, pos, after, g⟩).run Try.prog w = .ok (.value (.agg (rowD w (blkOf (ρ x))))) w := by
  generalize hB : blkOf (ρ x) = B at *
  simp only [execOp, hx, Sem.run_bind, loadAt_six h, Result.andThen_ok, Sem.run_pure]
@[go_sem ↓ high] theorem exec_store_six (ρ : Operand → Value) (dst : Option Tmp) (x y : Operand) (ty : TypeId) (pos : String) (after : Array Edge) (g : Option (Nat × Bool)) (w : World)
    (hx : ρ x = .pointer (some ⟨blkOf (ρ x), 0, none⟩)) (hy : ρ y = .agg (ρ y).cells) (hs : (ρ y).cells.size = 6) (h : (rowD w (blkOf (ρ x))).size = 6) (hz : frzD w (blkOf (ρ x)) = (0, 0)) (h1 : oneC (ρ y).cells) :
    (execOp ρ ⟨dst, .store 95 x y, ty, pos, after, g⟩).run Try.prog w = .ok .skip (setRow w (blkOf (ρ x)) (ρ y).cells) := by
  generalize hB : blkOf (ρ x) = B at *
  generalize hC : (ρ y).cells = C at *
  simp only [execOp, hx, hy, Sem.run_bind, storeAt_six _ hs h hz h1, Result.andThen_ok, Sem.run_pure]

/-- Loads: the cells. -/
def lv (l : Nat → Int) : Array Value := rowv 6 fun i => .int .i64 (l i)
@[go_sem, simp] theorem size_lv (o : Nat → Int) : (lv o).size = 6 := size_rowv _ _
@[go_sem] theorem get_lv (o : Nat → Int) (i : Nat) (h : i < 6) : (lv o)[i]? = some (.int .i64 (o i)) := by unfold lv; rw [get_rowv, if_pos h]
@[go_sem] theorem get_lv' (o : Nat → Int) (i : Nat) (h : i < (lv o).size) : (lv o)[i]'h = .int .i64 (o i) := by
  have h2 : i < 6 := by simpa using h
  have := get_lv o i h2
  rw [Array.getElem?_eq_some_iff] at this
  exact this.2
theorem set_lv (o : Nat → Int) (k : Nat) (x : Int) : (lv o).setIfInBounds k (.int .i64 x) = lv (upd o k x) := by
  unfold lv; rw [set_rowv]; congr 1; funext i; unfold upd; split <;> rfl
theorem lv_congr (o p : Nat → Int) (h : ∀ i, i < 6 → o i = p i) : lv o = lv p := rowv_congr _ _ _ fun i hi => by rw [h i hi]
@[go_sem] theorem all_lv (o : Nat → Int) : oneC (lv o) := all_rowv _ _ fun _ => rfl
@[go_sem ↓ high] theorem cells_lv (o : Nat → Int) : (Value.agg (lv o)).cells = lv o := rfl
theorem lv_zero (o : Nat → Int) : #[.int .i64 0, .int .i64 0, .int .i64 0, .int .i64 0, .int .i64 0, .int .i64 0] = lv (fun i => loadN o i 0) := rfl
theorem results_of {P : Program} {fn : Func} {p : Tmp} {ty : TypeId} {v : Value} (h : fn.results = #[.cell p ty]) (tmps : Array Value) (w : World) (g : Nat)
    (hp : tmps.getD p undef = .pointer (some ⟨g, 0, none⟩)) (hl : (loadVar ty ⟨g, 0, none⟩).run P w = .ok v w) : (results fn tmps).run P w = .ok v w := by
  have hp' : tmps[p]?.getD undef = .pointer (some ⟨g, 0, none⟩) := by simpa using hp
  simp [results, h, hp', asAddr, hl]
theorem cell_row {w : World} {b : Nat} {f : Nat → Value} {n : Nat} (h : rowD w b = rowv n f) (i : Nat) (hi : i < n) : w.cell? ⟨b, i, none⟩ = some (f i) := by
  rw [cell_rowD, h, get_rowv, if_pos hi]
theorem loads_step (o : Nat → Int) (k : Nat) (h : backB (o k) = true) : lv (upd (fun i => loadN o i k) (o k).toNat (loadN o (o k) k + 1)) = lv (fun i => loadN o i (k + 1)) := by
  unfold backB at h
  simp only [Bool.and_eq_true, decide_eq_true_eq] at h
  refine lv_congr _ _ fun i hi => ?_
  unfold upd
  by_cases hk : i = (o k).toNat
  · have : (i : Int) = o k := by omega
    rw [if_pos hk, loadN, if_pos this.symm, this]
  · rw [if_neg hk]
    show loadN o i k = loadN o i (k + 1)
    rw [loadN, if_neg (by omega)]; omega
theorem loads_stay (o : Nat → Int) (k : Nat) (h : backB (o k) = false) : lv (fun i => loadN o i k) = lv (fun i => loadN o i (k + 1)) := by
  unfold backB at h
  refine lv_congr _ _ fun i hi => ?_
  have : ¬ o k = i := by intro e; rw [e] at h; simp at h; omega
  show loadN o i k = loadN o i (k + 1)
  rw [loadN, if_neg this]; omega

set_option maxRecDepth 20000 in
set_option maxHeartbeats 2000000 in
theorem rmost_any (o : Nat → Int) (p : Option Addr) (ms : List Int) (c : Nat) (w : World) (hs : Sl w p ms) (hl : ms.length ≤ 1000) (hp : 0 < ms.length) :
    Calls Try.prog 48 #[.agg (ov o), .slice p ms.length c] w fun e w' => e = .returned (.int .i64 (most o ms)) ∧ Ext w w' := by
  obtain ⟨b0, off0, hp0, hb0, hcell0⟩ := hs 0 hp
  rw [Nat.add_zero] at hcell0
  subst hp0
  have hL0 : Lt b0 w := hb0
  have e0 : ms[0]?.getD 0 = bestN (moreP o) ms 0 := by unfold bestN; cases ms <;> simp [best]
  rw [e0] at hcell0
  clear e0
  have hpp : (0 : Int) < ms.length := by omega
  go_enter Try.func48, Try.ntmps48
  go_wp2
  go_loopw [5, 6] (fun n i wr => ∃ k : Nat, k + 1 ≤ ms.length ∧ i = .int .i64 (k + 1 : Nat) ∧ n = .int .i64 (bestN (moreP o) ms k) ∧ Ext (w.alloc (.cells (ov o) 22)) wr) (fun _ i _ => ms.length - (intOf i).toNat)
  case atStart => exact ⟨0, by omega, by go_num, rfl, Ext.rf _⟩
  case round =>
    obtain ⟨k, hk, rfl, rfl, hE⟩ := hrel
    have hR : rowD wr w.heap.size = ov o := row_ext hE (by simp) (rowD_new w _ _ _)
    have hLB : Lt w.heap.size wr := Nat.lt_of_lt_of_le (by simp) hE.size
    have hEw : Ext w wr := (Ext.al (Ext.rf _) _).tr hE
    by_cases hlt : k + 1 < ms.length
    · obtain ⟨b, off, hbo, hb, hcell⟩ := (hs.ext hEw) (k + 1) hlt
      cases hbo
      have hL : Lt b0 wr := hb
      have HS := Lib.hid (bestN_succ (moreP o) ms k hlt)
      generalize hx : ms[k+1]?.getD 0 = x at hcell HS
      clear hx
      generalize hm : bestN (moreP o) ms k = m at HS ⊢
      have ht : decide (load o m < load o x) = moreP o x m := rfl
      have hle : ((k + 1 : Nat) : Int) < ms.length := by omega
      have hge : (0 : Int) ≤ (k : Int) + 1 := by omega
      have hle2 : (k : Int) + 1 < ms.length := by omega
      cases hbt : moreP o x m
      all_goals
        rw [hbt] at ht
        have HT := Lib.hid hbt
        clear hbt
        go_wp2_with (fail)
        refine wp_region_later (by kernel_rfl) (by kernel_rfl) ?_; (repeat (go_big_quiet_step ((go_at_call 26; exact calls_later (rload_any o _ _))))); refine wpQuiet_nil ?_; intro d
        have hE2 : Ext (w.alloc (.cells (ov o) 22)) (later d) := hE.tr (later_ext d)
        go_wp2
        go_roundw
        case rel => exact ⟨k + 1, by omega, by go_num, by rw [HS.out, HT.out]; rfl, hE2⟩
        case measure => simp [intOf]; omega
    · have hk2 : ms.length = k + 1 := by omega
      go_wp2
      go_ret
      exact ⟨ret_i (by rw [bestN_all _ _ _ (by omega)]; rfl), hEw⟩

set_option maxRecDepth 20000 in
set_option maxHeartbeats 2000000 in
theorem loads_any (o : Nat → Int) (w : World) :
    Calls Try.prog 78 #[.agg (ov o)] w fun e w' => e = .returned (.agg (lv fun i => load o i)) ∧ Ext w w' := by
  go_enter Try.func78, Try.ntmps78
  go_wp2
  go_loopw [4, 6] (fun _ i wr => ∃ k : Nat, k ≤ 16 ∧ i = .int .i64 k ∧ rowD wr (w.heap.size + 1) = lv (fun i => loadN o i k) ∧ frzD wr (w.heap.size + 1) = (0, 0) ∧ Lt (w.heap.size + 1) wr ∧ Ext w wr) (fun _ i _ => 16 - (intOf i).toNat)
  case atStart => exact ⟨0, Nat.zero_le _, rfl, by simp [go_sem]; exact lv_zero o, by simp [go_sem], by simp [Lt], by repeat (first | with_reducible exact Ext.rf _ | with_reducible assumption | with_reducible refine Ext.al ?_ _ | with_reducible refine Ext.dr ?_ | with_reducible refine Ext.dn ?_ _ | ((with_reducible refine Ext.st _ ?_ ?_); focus (first | omega | (simp; omega) | simp)) | ((with_reducible refine Ext.sr _ ?_ ?_); focus (first | omega | (simp; omega) | simp)) | with_reducible refine Ext.tr ?_ (by assumption) | with_reducible refine Ext.tr ?_ (up_ext (by assumption)) | with_reducible refine Ext.of (by assumption) ?_)⟩
  case round =>
    obtain ⟨k, hk, rfl, hR, hZ, hL, hE⟩ := hrel
    have hk16 : (k : Int) ≤ 16 := by omega
    by_cases hlt : k < 16
    · have hlt' : (k : Int) < 16 := by omega
      have hRX := Lib.hid hR
      clear hR
      cases hbk : backB (o k)
      · have HS := Lib.hid (loads_stay o k hbk)
        have HB := Lib.hid hbk
        clear hbk
        go_wp2_with (go_at_call 44; (with_reducible refine (back_any _ _).mono ?_); rw [HB.out]; rintro e w' ⟨rfl, rfl⟩)
        go_roundw
        case rel => exact ⟨k + 1, by omega, by go_num, by rw [hRX.out, HS.out], hZ, hL, hE⟩
        case measure => simp [intOf]; omega
      · have HS := Lib.hid (loads_step o k hbk)
        have h06 := hbk
        unfold backB at h06
        simp only [Bool.and_eq_true, decide_eq_true_eq] at h06
        obtain ⟨h0, h6⟩ := h06
        have hcell := cell_row (i := (o k).toNat) hRX.out (by omega)
        have hfro := frozen_of_frz hZ (o k).toNat
        have h1 := (loadN_bd o (o k) k).1
        have h2 := (loadN_bd o (o k) k).2
        dsimp only at hcell
        rw [show (((o k).toNat : Nat) : Int) = o k by omega] at hcell
        have HB := Lib.hid hbk
        clear hbk
        go_wp2_with (go_at_call 44; (with_reducible refine (back_any _ _).mono ?_); rw [HB.out]; rintro e w' ⟨rfl, rfl⟩)
        go_roundw
        case rel => exact ⟨k + 1, by omega, by go_num, by rw [rowD_setCell, if_pos rfl, hRX.out, set_lv, HS.out], by rw [frzD_setCell]; exact hZ, by rw [Lt_setCell]; exact hL, Ext.st _ (by simp) hE⟩
        case measure => simp [intOf]; omega
    · obtain rfl : k = 16 := by omega
      go_wp2
      refine bodyPost_ret (v := .agg (lv fun i => load o i)) ?_ rfl ⟨rfl, ?_⟩
      · refine results_of rfl _ _ (w.heap.size + 1) rfl ?_
        rw [loadVar_six (by simp [go_sem, hR])]; simp [go_sem, hR]; rfl
      · exact Ext.sr _ (by simp) hE

theorem best_mem (bt : Int → Int → Bool) (b : Int) (l : List Int) : best bt b l = b ∨ best bt b l ∈ l := by
  induction l generalizing b with
  | nil => exact .inl rfl
  | cons m r ih =>
    unfold best
    rcases ih (if bt m b then m else b) with h | h
    · rw [h]; split
      · exact .inr (by simp)
      · exact .inl rfl
    · exact .inr (by simp [h])
theorem bestN_mem (bt : Int → Int → Bool) (ms : List Int) (k : Nat) (h : 0 < ms.length) : bestN bt ms k ∈ ms := by
  unfold bestN
  cases ms with
  | nil => simp at h
  | cons m r =>
    rcases best_mem bt m (r.take k) with e | e
    · simp only [List.headD_cons, List.tail_cons, e]; simp
    · simp only [List.headD_cons, List.tail_cons]; exact List.mem_cons_of_mem _ (List.mem_of_mem_take e)
theorem best_congr (bt bt' : Int → Int → Bool) (b : Int) (l : List Int) (h : ∀ x y, x ∈ b :: l → y ∈ b :: l → bt x y = bt' x y) : best bt b l = best bt' b l := by
  induction l generalizing b with
  | nil => rfl
  | cons m r ih =>
    unfold best
    rw [h m b (by simp) (by simp)]
    refine ih _ fun x y hx hy => h x y ?_ ?_
    · simp only [List.mem_cons] at hx ⊢; rcases hx with rfl | hx
      · split <;> simp
      · exact .inr (.inr hx)
    · simp only [List.mem_cons] at hy ⊢; rcases hy with rfl | hy
      · split <;> simp
      · exact .inr (.inr hy)

set_option maxRecDepth 20000 in
set_option maxHeartbeats 2000000 in
theorem first_any (g : Nat) (lb : Array Value) (eg : ∀ args w, (callFunc g args).run Try.prog w = .ok (.enter g args) w) (bt : Int → Int → Bool) (p : Option Addr) (ms : List Int) (c : Nat) (w : World)
    (hs : Sl w p ms) (hl : ms.length ≤ 1000) (hp : 0 < ms.length) (hcap : ms.length ≤ c) (hf : ∀ a b W, a ∈ ms → b ∈ ms → Ext w W → Calls Try.prog g (#[.int .i64 a, .int .i64 b] ++ lb) W fun e w' => e = .returned (.bool (bt a b)) ∧ Ext W w') :
    Calls Try.prog 79 #[.slice p ms.length c, .func (.func g) #[] lb] w fun e w' => e = .returned (.int .i64 (firstM bt ms)) ∧ Ext w w' := by
  have HF := Lib.hid hf
  clear hf
  obtain ⟨b0, off0, hp0, hb0, hcell0⟩ := hs 0 hp
  rw [Nat.add_zero] at hcell0
  subst hp0
  have hL0 : Lt b0 w := hb0
  have e0 : ms[0]?.getD 0 = bestN bt ms 0 := by unfold bestN; cases ms <;> simp [best]
  rw [e0] at hcell0
  clear e0
  have hpp : (0 : Int) < ms.length := by omega
  have hc1 : (1 : Int) ≤ c := by omega
  have hcc : (ms.length : Int) ≤ c := by omega
  by_cases hone : c = 1
  · subst hone
    have h1 : ms.length = 1 := by omega
    have HX := Lib.hid (bestN_all bt ms 0 (by omega))
    generalize bestN bt ms 0 = m0 at *
    clear hpp hcc hcap hp hs HF hl
    generalize ms.length = n at *
    subst h1
    go_enter Try.func79, Try.ntmps79
    go_wp2
    go_loop [5, 14] (fun n i => n = .int .i64 m0 ∧ i = .int .i64 0) (fun _ _ => 0)
    case atStart => exact ⟨rfl, rfl⟩
    case round =>
      obtain ⟨rfl, rfl⟩ := hrel
      go_wp2
      go_ret
      exact ⟨ret_i HX.out, Ext.rf _⟩
  · have hc2 : (1 : Int) < c := by omega
    have hc3 : 1 < c := by omega
    have hl1 : (1 : Int) ≤ ms.length := by omega
    have hn1 : 1 ≤ ms.length := hp
    go_enter Try.func79, Try.ntmps79
    go_wp2
    go_loopw [5, 7, 14] (fun n _ i wr => ∃ k : Nat, k + 1 ≤ ms.length ∧ i = .int .i64 k ∧ n = .int .i64 (bestN bt ms k) ∧ Ext w wr) (fun _ _ i _ => ms.length - (intOf i).toNat)
    case atStart => exact ⟨0, by omega, by go_num, rfl, Ext.rf _⟩
    case round =>
      obtain ⟨k, hk, rfl, rfl, hE⟩ := hrel
      by_cases hlt : k + 1 < ms.length
      · obtain ⟨b, off, hbo, hb, hcell⟩ := (hs.ext hE) (k + 1) hlt
        cases hbo
        have hL : Lt b0 wr := hb
        have HS := Lib.hid (bestN_succ bt ms k hlt)
        have hmx : ms[k+1]?.getD 0 ∈ ms := by simp [hlt]
        have HC := HF.out _ _ wr hmx (bestN_mem bt ms k hp) hE
        clear hmx
        rw [show off0 + (k + 1) = off0 + 1 + k by omega] at hcell
        generalize ms[k+1]?.getD 0 = x at hcell HS HC
        generalize hm : bestN bt ms k = m at HS HC ⊢
        have hle : (k : Int) < (ms.length : Int) - 1 := by omega
        have hle' : k < ms.length - 1 := by omega
        cases hbt : bt x m
        all_goals
          rw [hbt] at HC
          have HT := Lib.hid hbt
          clear hbt
          have HCC := Lib.hid HC
          clear HC
          go_wp2_with ((with_reducible refine (HCC.out).mono ?_); rintro e w' ⟨rfl, hb'⟩)
          go_roundw
          case rel => exact ⟨k + 1, by omega, by go_num, by rw [HS.out, HT.out]; rfl, hE.tr hb'⟩
          case measure => simp [intOf]; omega
      · have hk2 : ms.length = k + 1 := by omega
        have HX := Lib.hid (bestN_all bt ms k (by omega))
        clear hk hlt
        go_wp2
        go_ret
        exact ⟨ret_i HX.out, hE⟩

end Go.Proofs.Ytlacidecomflkaa
