/- What the small functions of the package plan and of its reference return. -/
import Derived.Test.YtlacidecomflkaaV4
set_option linter.unusedSimpArgs false
set_option linter.unusedVariables false
namespace Go.Proofs.Ytlacidecomflkaa
open Go.RowKit

theorem ret_i {a b : Int} (h : a = b) : Ending.returned (.int .i64 a) = .returned (.int .i64 b) := by rw [h]
/-- W is kept in w', any world, rows too: rules under a condition. -/
abbrev UpR (W w' : World) : Prop := Up W w' ∧ (∀ b, Lt b W → rowD w' b = rowD W b) ∧ (∀ b, Lt b W → frzD w' b = frzD W b)
theorem upR {W w' : World} (h : Below W.heap.size W w') : UpR W w' :=
  ⟨up h, fun b hb => rowD_same (h.block b hb), fun b hb => by unfold frzD; rw [h.block b hb]⟩
/-- .. and a block B holds owners. -/
abbrev UpO (o : Nat → Int) (B : Nat) (W w' : World) : Prop := Up W w' ∧ w'.rangeAt B 0 (ov o).toList
theorem rangeAt_row {w : World} {b : Nat} {cs : Array Value} (h : rowD w b = cs) : w.rangeAt b 0 cs.toList := fun j v hv => by
  rw [cell_rowD, h, Nat.zero_add]; simpa using hv
theorem upO {o : Nat → Int} {B : Nat} {W w' : World} (h : Ext W w') (hb : Lt B W) (hr : rowD W B = ov o) : UpO o B W w' :=
  ⟨up h, rangeAt_row (by rw [rowD_same (h.block B hb)]; exact hr)⟩
theorem upO_ext {o : Nat → Int} {B : Nat} {W w' : World} (h : UpO o B W w') : Ext W w' := h.1.2.2.2.2
theorem own_hi (o : Nat → Int) : (Try.prog.info? 22).map (·.size) = some (ov o).toList.length := by rw [info_own]; simp
theorem upR_ext {W w' : World} (h : UpR W w') : Ext W w' := h.1.2.2.2.2
theorem row_ext {W w' : World} {b : Nat} {cs : Array Value} (h : Ext W w') (hb : b < W.heap.size) (hr : rowD W b = cs) : rowD w' b = cs := by rw [rowD_same (h.block b hb)]; exact hr

set_option maxHeartbeats 400000 in
theorem back_any (n : Int) (w : World) :
    Calls Try.prog 44 #[.int .i64 n] w fun e w' => e = .returned (.bool (backB n)) ∧ w = w' := by
  go_enter Try.func44, Try.ntmps44
  go_wp2
  all_goals (go_ret; exact ⟨ret_bool (by simp_all [backB] <;> omega), rfl⟩)

set_option maxHeartbeats 400000 in
theorem rback_any (n : Int) (w : World) :
    Calls Try.prog 47 #[.int .i64 n] w fun e w' => e = .returned (.bool (backB n)) ∧ w = w' := by
  go_enter Try.func47, Try.ntmps47
  go_wp2
  all_goals (go_ret; exact ⟨ret_bool (by simp_all [backB] <;> omega), rfl⟩)

theorem loadN_yes (o : Nat → Int) (x : Int) (k : Nat) (h : o k = x) : loadN o x (k + 1) = loadN o x k + 1 := by rw [loadN, if_pos h]
theorem loadN_no (o : Nat → Int) (x : Int) (k : Nat) (h : ¬ o k = x) : loadN o x (k + 1) = loadN o x k := by rw [loadN, if_neg h]; omega
theorem lastN_yes (o : Nat → Int) (x : Int) (k : Nat) (h : o k = x) : lastN o x (k + 1) = k := by rw [lastN, if_pos h]
theorem lastN_no (o : Nat → Int) (x : Int) (k : Nat) (h : ¬ o k = x) : lastN o x (k + 1) = lastN o x k := by rw [lastN, if_neg h]

set_option maxHeartbeats 1000000 in
theorem load_any (o : Nat → Int) (x : Int) (w : World) :
    Calls Try.prog 25 #[.agg (ov o), .int .i64 x] w fun e w' => e = .returned (.int .i64 (load o x)) ∧ Ext w w' := by
  go_enter Try.func25, Try.ntmps25
  go_wp2
  go_loop [4, 6, 8] (fun n _ i => ∃ k : Nat, k ≤ 16 ∧ i = .int .i64 k ∧ n = .int .i64 (loadN o x k)) (fun n _ i => 16 - (intOf i).toNat)
  case atStart => exact ⟨0, Nat.zero_le _, rfl, rfl⟩
  case round =>
    obtain ⟨k, hk, rfl, rfl⟩ := hrel
    have hd := loadN_bd o x k
    have hk16 : (k : Int) ≤ 16 := by omega
    by_cases hlt : k < 16
    · have hlt' : (k : Int) < 16 := by omega
      by_cases hx : o k = x
      · have hx' : (o k == x) = true := by simpa using hx
        have HS := Lib.hid (loadN_yes o x k hx)
        clear hx
        go_wp2
        go_round
        case rel => exact ⟨k + 1, by omega, by go_num, by rw [HS.out]⟩
        case measure => simp [intOf]; omega
      · have hx' : (o k == x) = false := by simpa using hx
        have HS := Lib.hid (loadN_no o x k hx)
        clear hx
        go_wp2
        go_round
        case rel => exact ⟨k + 1, by omega, by go_num, by rw [HS.out]⟩
        case measure => simp [intOf]; omega
    · obtain rfl : k = 16 := by omega
      go_wp2
      go_ret
      exact ⟨rfl, by repeat (first | with_reducible exact Ext.rf _ | with_reducible assumption | with_reducible refine Ext.al ?_ _ | with_reducible refine Ext.dr ?_ | with_reducible refine Ext.dn ?_ _ | ((with_reducible refine Ext.st _ ?_ ?_); focus (first | omega | (simp; omega) | simp)) | ((with_reducible refine Ext.sr _ ?_ ?_); focus (first | omega | (simp; omega) | simp)) | with_reducible refine Ext.tr ?_ (by assumption) | with_reducible refine Ext.tr ?_ (up_ext (by assumption)) | with_reducible refine Ext.of (by assumption) ?_)⟩

set_option maxHeartbeats 1000000 in
theorem rload_any (o : Nat → Int) (x : Int) (w : World) :
    Calls Try.prog 26 #[.agg (ov o), .int .i64 x] w fun e w' => e = .returned (.int .i64 (load o x)) ∧ Ext w w' := by
  go_enter Try.func26, Try.ntmps26
  go_wp2
  go_loop [5, 6] (fun n i => ∃ k : Nat, k ≤ 16 ∧ i = .int .i64 k ∧ n = .int .i64 (loadN o x k)) (fun n i => 16 - (intOf i).toNat)
  case atStart => exact ⟨0, Nat.zero_le _, rfl, rfl⟩
  case round =>
    obtain ⟨k, hk, rfl, rfl⟩ := hrel
    have hd := loadN_bd o x k
    have hk16 : (k : Int) ≤ 16 := by omega
    by_cases hlt : k < 16
    · have hlt' : (k : Int) < 16 := by omega
      by_cases hx : o k = x
      · have hx' : (o k == x) = true := by simpa using hx
        have HS := Lib.hid (loadN_yes o x k hx)
        clear hx
        go_wp2
        go_round
        case rel => exact ⟨k + 1, by omega, by go_num, by rw [HS.out]⟩
        case measure => simp [intOf]; omega
      · have hx' : (o k == x) = false := by simpa using hx
        have HS := Lib.hid (loadN_no o x k hx)
        clear hx
        go_wp2
        go_round
        case rel => exact ⟨k + 1, by omega, by go_num, by rw [HS.out]⟩
        case measure => simp [intOf]; omega
    · obtain rfl : k = 16 := by omega
      go_wp2
      go_ret
      exact ⟨rfl, by repeat (first | with_reducible exact Ext.rf _ | with_reducible assumption | with_reducible refine Ext.al ?_ _ | with_reducible refine Ext.dr ?_ | with_reducible refine Ext.dn ?_ _ | ((with_reducible refine Ext.st _ ?_ ?_); focus (first | omega | (simp; omega) | simp)) | ((with_reducible refine Ext.sr _ ?_ ?_); focus (first | omega | (simp; omega) | simp)) | with_reducible refine Ext.tr ?_ (by assumption) | with_reducible refine Ext.tr ?_ (up_ext (by assumption)) | with_reducible refine Ext.of (by assumption) ?_)⟩

set_option maxHeartbeats 1000000 in
theorem rlast_any (o : Nat → Int) (x : Int) (w : World) :
    Calls Try.prog 49 #[.agg (ov o), .int .i64 x] w fun e w' => e = .returned (.int .i64 (lastN o x 16)) ∧ Ext w w' := by
  go_enter Try.func49, Try.ntmps49
  go_wp2
  go_loop [5, 6] (fun n i => ∃ k : Nat, k ≤ 16 ∧ i = .int .i64 k ∧ n = .int .i64 (lastN o x k)) (fun n i => 16 - (intOf i).toNat)
  case atStart => exact ⟨0, Nat.zero_le _, rfl, rfl⟩
  case round =>
    obtain ⟨k, hk, rfl, rfl⟩ := hrel
    have hd := lastN_bd o x k
    have hk16 : (k : Int) ≤ 16 := by omega
    by_cases hlt : k < 16
    · have hlt' : (k : Int) < 16 := by omega
      by_cases hx : o k = x
      · have hx' : (o k == x) = true := by simpa using hx
        have HS := Lib.hid (lastN_yes o x k hx)
        clear hx
        go_wp2
        go_round
        case rel => exact ⟨k + 1, by omega, by go_num, by rw [HS.out]⟩
        case measure => simp [intOf]; omega
      · have hx' : (o k == x) = false := by simpa using hx
        have HS := Lib.hid (lastN_no o x k hx)
        clear hx
        go_wp2
        go_round
        case rel => exact ⟨k + 1, by omega, by go_num, by rw [HS.out]⟩
        case measure => simp [intOf]; omega
    · obtain rfl : k = 16 := by omega
      go_wp2
      go_ret
      exact ⟨rfl, by repeat (first | with_reducible exact Ext.rf _ | with_reducible assumption | with_reducible refine Ext.al ?_ _ | with_reducible refine Ext.dr ?_ | with_reducible refine Ext.dn ?_ _ | ((with_reducible refine Ext.st _ ?_ ?_); focus (first | omega | (simp; omega) | simp)) | ((with_reducible refine Ext.sr _ ?_ ?_); focus (first | omega | (simp; omega) | simp)) | with_reducible refine Ext.tr ?_ (by assumption) | with_reducible refine Ext.tr ?_ (up_ext (by assumption)) | with_reducible refine Ext.of (by assumption) ?_)⟩

set_option maxHeartbeats 1000000 in
theorem rin_any (x : Int) (p : Option Addr) (ms : List Int) (c : Nat) (w : World) (hs : Sl w p ms) (hl : ms.length ≤ 1000) :
    Calls Try.prog 32 #[.slice p ms.length c, .int .i64 x] w fun e w' => e = .returned (.bool (ms.any (x == ·))) ∧ w = w' := by
  go_enter Try.func32, Try.ntmps32
  go_wp2
  go_loop [5] (fun i => ∃ k : Nat, k ≤ ms.length ∧ i = .int .i64 k ∧ (∀ j, j < k → ∀ (hj : j < ms.length), (x == ms[j]) = false)) (fun i => ms.length - (intOf i).toNat)
  case atStart => exact ⟨0, Nat.zero_le _, rfl, fun j hj => by omega⟩
  case round =>
    obtain ⟨k, hk, rfl, hno⟩ := hrel
    have HN := Lib.hid hno
    clear hno
    by_cases hlt : k < ms.length
    · obtain ⟨b, off, rfl, hb, hcell⟩ := hs k hlt
      have e1 : ms[k]?.getD 0 = ms[k] := by simp [hlt]
      rw [e1] at hcell
      generalize hy : ms[k] = y at hcell
      have HY := Lib.hid hy
      clear hy e1
      cases hp : (y == x)
      · go_wp2
        go_round
        case rel => exact ⟨k + 1, by omega, by go_num, fun j hj hj' => by
          rcases Nat.lt_or_ge j k with h | h
          · exact HN.out j h hj'
          · obtain rfl : j = k := by omega
            rw [HY.out]; rw [beq_eq_false_iff_ne] at hp ⊢; exact fun e => hp e.symm⟩
        case measure => simp [intOf]; omega
      · go_wp2
        go_ret
        refine ⟨ret_bool (Eq.symm (List.any_eq_true.2 ⟨y, ?_, ?_⟩)), rfl⟩
        · rw [← HY.out]; exact List.getElem_mem hlt
        · rw [beq_iff_eq] at hp ⊢; exact hp.symm
    · obtain rfl : k = ms.length := by omega
      go_wp2
      go_ret
      refine ⟨ret_bool (Eq.symm (Bool.eq_false_iff.2 fun h => ?_)), rfl⟩
      obtain ⟨y, hy, hxy⟩ := List.any_eq_true.1 h
      obtain ⟨j, hj, rfl⟩ := List.mem_iff_getElem.1 hy
      rw [HN.out j hj hj] at hxy; cases hxy

theorem best_snoc (bt : Int → Int → Bool) (b x : Int) (l : List Int) : best bt b (l ++ [x]) = if bt x (best bt b l) then x else best bt b l := by
  induction l generalizing b with
  | nil => rfl
  | cons m r ih => simp only [List.cons_append, best]; exact ih _
theorem take_snoc' (ms : List Int) (k : Nat) (h : k < ms.length) : ms.take (k + 1) = ms.take k ++ [ms[k]] := by
  rw [List.take_succ_eq_append_getElem h]
/-- The best of the first k + 1. -/
def bestN (bt : Int → Int → Bool) (ms : List Int) (k : Nat) : Int := best bt (ms.headD 0) (ms.tail.take k)
theorem bestN_succ (bt : Int → Int → Bool) (ms : List Int) (k : Nat) (h : k + 1 < ms.length) : bestN bt ms (k + 1) = if bt (ms[k+1]?.getD 0) (bestN bt ms k) then (ms[k+1]?.getD 0) else bestN bt ms k := by
  unfold bestN
  cases ms with
  | nil => simp at h
  | cons m r =>
    simp only [List.tail_cons, List.headD_cons]
    rw [take_snoc' r k (by simpa using h), best_snoc]
    simp [show k < r.length by simpa using h]
theorem bestN_all (bt : Int → Int → Bool) (ms : List Int) (k : Nat) (h : ms.length ≤ k + 1) : bestN bt ms k = firstM bt ms := by
  unfold bestN firstM; rw [List.take_of_length_le (by simp; omega)]

set_option maxRecDepth 20000 in
set_option maxHeartbeats 2000000 in
theorem rleast_any (o : Nat → Int) (p : Option Addr) (ms : List Int) (c : Nat) (w : World) (hs : Sl w p ms) (hl : ms.length ≤ 1000) (hp : 0 < ms.length) :
    Calls Try.prog 59 #[.agg (ov o), .slice p ms.length c] w fun e w' => e = .returned (.int .i64 (least o ms)) ∧ Ext w w' := by
  obtain ⟨b0, off0, hp0, hb0, hcell0⟩ := hs 0 hp
  rw [Nat.add_zero] at hcell0
  subst hp0
  have hL0 : Lt b0 w := hb0
  have e0 : ms[0]?.getD 0 = bestN (lessP o) ms 0 := by unfold bestN; cases ms <;> simp [best]
  rw [e0] at hcell0
  clear e0
  have hpp : (0 : Int) < ms.length := by omega
  go_enter Try.func59, Try.ntmps59
  go_wp2
  go_loopw [5, 6] (fun n i wr => ∃ k : Nat, k + 1 ≤ ms.length ∧ i = .int .i64 (k + 1 : Nat) ∧ n = .int .i64 (bestN (lessP o) ms k) ∧ Ext (w.alloc (.cells (ov o) 22)) wr) (fun _ i _ => ms.length - (intOf i).toNat)
  case atStart => exact ⟨0, by omega, by go_num, rfl, Ext.rf _⟩
  case round =>
    obtain ⟨k, hk, rfl, rfl, hE⟩ := hrel
    have hR : rowD wr w.heap.size = ov o := row_ext hE (by simp) (rowD_new w _ _ _)
    have hLB : Lt w.heap.size wr := Nat.lt_of_lt_of_le (by simp) hE.size
    have hEw : Ext w wr := (Ext.al (Ext.rf _) _).tr hE
    by_cases hlt : k + 1 < ms.length
    · obtain ⟨b, off, hbo, hb, hcell⟩ := (hs.ext hEw) (k + 1) hlt
      cases hbo
      have hL : Lt b0 wr := hb
      have HS := Lib.hid (bestN_succ (lessP o) ms k hlt)
      generalize hx : ms[k+1]?.getD 0 = x at hcell HS
      clear hx
      generalize hm : bestN (lessP o) ms k = m at HS ⊢
      have ht : decide (load o x < load o m) = lessP o x m := rfl
      have hle : ((k + 1 : Nat) : Int) < ms.length := by omega
      have hge : (0 : Int) ≤ (k : Int) + 1 := by omega
      have hle2 : (k : Int) + 1 < ms.length := by omega
      cases hbt : lessP o x m
      all_goals
        rw [hbt] at ht
        have HT := Lib.hid hbt
        clear hbt
        go_wp2_with (fail)
        refine wp_region_later (by kernel_rfl) (by kernel_rfl) ?_; (repeat (go_big_quiet_step ((go_at_call 26; exact calls_later (rload_any o _ _))))); refine wpQuiet_nil ?_; intro d
        have hE2 : Ext (w.alloc (.cells (ov o) 22)) (later d) := hE.tr (later_ext d)
        go_wp2
        go_roundw
        case rel => exact ⟨k + 1, by omega, by go_num, by rw [HS.out, HT.out]; rfl, hE2⟩
        case measure => simp [intOf]; omega
    · have hk2 : ms.length = k + 1 := by omega
      go_wp2
      go_ret
      exact ⟨ret_i (by rw [bestN_all _ _ _ (by omega)]; rfl), hEw⟩

end Go.Proofs.Ytlacidecomflkaa
