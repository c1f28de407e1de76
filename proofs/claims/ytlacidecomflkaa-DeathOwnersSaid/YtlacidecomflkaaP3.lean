/- The least and the most loaded, who may be, spreads, picks. -/
import Derived.Test.YtlacidecomflkaaP2
set_option linter.unusedSimpArgs false
set_option linter.unusedVariables false
namespace Go.Proofs.Ytlacidecomflkaa
open Go.RowKit

theorem lessP_of (o : Nat → Int) (a b : Int) (ha : 0 ≤ a) (hb : 0 ≤ b) : decide (load o (max a 0) < load o (max b 0)) = lessP o a b := by
  rw [show max a 0 = a by omega, show max b 0 = b by omega]; rfl
theorem moreP_of (o : Nat → Int) (a b : Int) (ha : 0 ≤ a) (hb : 0 ≤ b) : decide (load o (max b 0) < load o (max a 0)) = moreP o a b := by
  rw [show max a 0 = a by omega, show max b 0 = b by omega]; rfl

set_option maxRecDepth 20000 in
set_option maxHeartbeats 1000000 in
theorem least1_any (o : Nat → Int) (a b : Int) (B : Nat) (w : World) (hL : Lt B w) (hR : rowD w B = lv fun i => load o i) (ha0 : 0 ≤ a) (ha6 : a < 6) (hb0 : 0 ≤ b) (hb6 : b < 6) :
    Calls Try.prog 80 #[.int .i64 a, .int .i64 b, .pointer (some ⟨B, 0, none⟩)] w fun e w' => e = .returned (.bool (lessP o a b)) ∧ Ext w w' := by
  have h1 := cell_row (i := a.toNat) hR (by omega)
  have h2 := cell_row (i := b.toNat) hR (by omega)
  dsimp only at h1 h2
  have HP := Lib.hid (lessP_of o a b ha0 hb0)
  clear hR
  go_enter Try.func80, Try.ntmps80
  go_wp2
  refine wp_region_later (by kernel_rfl) (by kernel_rfl) ?_; (repeat (go_big_quiet_step (fail))); refine wpQuiet_nil ?_; intro d
  go_wp2
  go_ret
  exact ⟨ret_bool HP.out, later_ext d⟩
theorem enters_least1 : ∀ args w, (callFunc 80 args).run Try.prog w = .ok (.enter 80 args) w := enters_of Try.func80 (by kernel_rfl) rfl

set_option maxRecDepth 20000 in
set_option maxHeartbeats 1000000 in
theorem least_any (o : Nat → Int) (p : Option Addr) (ms : List Int) (c : Nat) (w : World) (hs : Sl w p ms) (hlen : ms.length ≤ 1000) (hp : 0 < ms.length) (hcap : ms.length ≤ c) (hm : ∀ m ∈ ms, 0 ≤ m ∧ m < 6) :
    Calls Try.prog 58 #[.agg (ov o), .slice p ms.length c] w fun e w' => e = .returned (.int .i64 (least o ms)) ∧ Ext w w' := by
  have HM := Lib.hid hm
  clear hm
  have hE0 : Ext w (w.alloc (.cells (ov o) 22)) := Ext.al (Ext.rf _) _
  go_enter Try.func58, Try.ntmps58
  go_wp2_with (go_at_call 78; (with_reducible refine (loads_any _ _).mono ?_); rintro e w' ⟨rfl, hb⟩; obtain ⟨hc, hf, hl, hz, -⟩ := kept hb; obtain ⟨hr, hq⟩ := keptR hb; try simp at hz)
  have hE : Ext w (setRow (w'.alloc (.cells #[.int .i64 0, .int .i64 0, .int .i64 0, .int .i64 0, .int .i64 0, .int .i64 0] 95)) w'.heap.size (lv fun i => load o i)) := by
    have h0 := hE0.tr hb
    exact Ext.sr _ h0.size (Ext.al h0 _)
  refine (first_any 80 #[.pointer (some ⟨w'.heap.size, 0, none⟩)] enters_least1 (lessP o) p ms c _ (hs.ext hE) hlen hp hcap ?_).mono ?_
  · intro a b W ha hb' hW
    obtain ⟨a0, a6⟩ := HM.out a ha
    obtain ⟨b0, b6⟩ := HM.out b hb'
    have hB : w'.heap.size < (setRow (w'.alloc (.cells #[.int .i64 0, .int .i64 0, .int .i64 0, .int .i64 0, .int .i64 0, .int .i64 0] 95)) w'.heap.size (lv fun i => load o i)).heap.size := by rw [size_setRow]; simp
    exact least1_any o a b w'.heap.size W (Nat.lt_of_lt_of_le hB hW.size) (row_ext hW hB (by rw [rowD_setRow, if_pos rfl, if_pos (by rw [rowD_new]; simp)])) a0 a6 b0 b6
  · rintro e w2 ⟨rfl, hb2⟩
    go_wp2
    go_ret
    exact ⟨rfl, hE.tr hb2⟩

set_option maxRecDepth 20000 in
set_option maxHeartbeats 1000000 in
theorem most1_any (o : Nat → Int) (a b : Int) (B : Nat) (w : World) (hL : Lt B w) (hR : rowD w B = lv fun i => load o i) (ha0 : 0 ≤ a) (ha6 : a < 6) (hb0 : 0 ≤ b) (hb6 : b < 6) :
    Calls Try.prog 81 #[.int .i64 a, .int .i64 b, .pointer (some ⟨B, 0, none⟩)] w fun e w' => e = .returned (.bool (moreP o a b)) ∧ Ext w w' := by
  have h1 := cell_row (i := a.toNat) hR (by omega)
  have h2 := cell_row (i := b.toNat) hR (by omega)
  dsimp only at h1 h2
  have HP := Lib.hid (moreP_of o a b ha0 hb0)
  clear hR
  go_enter Try.func81, Try.ntmps81
  go_wp2
  refine wp_region_later (by kernel_rfl) (by kernel_rfl) ?_; (repeat (go_big_quiet_step (fail))); refine wpQuiet_nil ?_; intro d
  go_wp2
  go_ret
  exact ⟨ret_bool HP.out, later_ext d⟩
theorem enters_most1 : ∀ args w, (callFunc 81 args).run Try.prog w = .ok (.enter 81 args) w := enters_of Try.func81 (by kernel_rfl) rfl

set_option maxRecDepth 20000 in
set_option maxHeartbeats 1000000 in
theorem most_any (o : Nat → Int) (p : Option Addr) (ms : List Int) (c : Nat) (w : World) (hs : Sl w p ms) (hlen : ms.length ≤ 1000) (hp : 0 < ms.length) (hcap : ms.length ≤ c) (hm : ∀ m ∈ ms, 0 ≤ m ∧ m < 6) :
    Calls Try.prog 62 #[.agg (ov o), .slice p ms.length c] w fun e w' => e = .returned (.int .i64 (most o ms)) ∧ Ext w w' := by
  have HM := Lib.hid hm
  clear hm
  have hE0 : Ext w (w.alloc (.cells (ov o) 22)) := Ext.al (Ext.rf _) _
  go_enter Try.func62, Try.ntmps62
  go_wp2_with (go_at_call 78; (with_reducible refine (loads_any _ _).mono ?_); rintro e w' ⟨rfl, hb⟩; obtain ⟨hc, hf, hl, hz, -⟩ := kept hb; obtain ⟨hr, hq⟩ := keptR hb; try simp at hz)
  have hE : Ext w (setRow (w'.alloc (.cells #[.int .i64 0, .int .i64 0, .int .i64 0, .int .i64 0, .int .i64 0, .int .i64 0] 95)) w'.heap.size (lv fun i => load o i)) := by
    have h0 := hE0.tr hb
    exact Ext.sr _ h0.size (Ext.al h0 _)
  refine (first_any 81 #[.pointer (some ⟨w'.heap.size, 0, none⟩)] enters_most1 (moreP o) p ms c _ (hs.ext hE) hlen hp hcap ?_).mono ?_
  · intro a b W ha hb' hW
    obtain ⟨a0, a6⟩ := HM.out a ha
    obtain ⟨b0, b6⟩ := HM.out b hb'
    have hB : w'.heap.size < (setRow (w'.alloc (.cells #[.int .i64 0, .int .i64 0, .int .i64 0, .int .i64 0, .int .i64 0, .int .i64 0] 95)) w'.heap.size (lv fun i => load o i)).heap.size := by rw [size_setRow]; simp
    exact most1_any o a b w'.heap.size W (Nat.lt_of_lt_of_le hB hW.size) (row_ext hW hB (by rw [rowD_setRow, if_pos rfl, if_pos (by rw [rowD_new]; simp)])) a0 a6 b0 b6
  · rintro e w2 ⟨rfl, hb2⟩
    go_wp2
    go_ret
    exact ⟨rfl, hE.tr hb2⟩

/-- Owners as a list. -/
def ownL (o : Nat → Int) : List Int := (List.range 16).map o
theorem ownL_len (o : Nat → Int) : (ownL o).length = 16 := by simp [ownL]
theorem sl_own {o : Nat → Int} {w : World} {B : Nat} (hL : Lt B w) (hR : rowD w B = ov o) : Sl w (some ⟨B, 0, none⟩) (ownL o) := fun k hk => by
  rw [ownL_len] at hk
  refine ⟨B, 0, rfl, hL, ?_⟩
  rw [Nat.zero_add, cell_row hR k hk]
  simp [ownL, hk]
theorem ownB_all (o : Nat → Int) (n : Nat) : ((List.range n).map o).any (fun n => n != -1 && !backB n) = !ownB o n := by
  induction n with
  | zero => rfl
  | succ n ih =>
    rw [List.range_succ, List.map_append, List.any_append, ih, ownB]
    cases ownB o n <;> simp [bne]
set_option maxHeartbeats 400000 in
theorem right1_any (n : Int) (w : World) :
    Calls Try.prog 61 #[.int .i64 n] w fun e w' => e = .returned (.bool (n != -1 && !backB n)) ∧ w = w' := by
  go_enter Try.func61, Try.ntmps61
  go_wp2_with (go_at_call 44; (with_reducible refine (back_any _ _).mono ?_); rintro e w' ⟨rfl, rfl⟩)
  all_goals go_ret
  all_goals (exact ⟨ret_bool (by simp_all), rfl⟩)
theorem enters_right1 : ∀ args w, (callFunc 61 args).run Try.prog w = .ok (.enter 61 args) w := enters_of Try.func61 (by kernel_rfl) rfl
theorem containsOwn_any (o : Nat → Int) (B : Nat) (w : World) (hL : Lt B w) (hR : rowD w B = ov o) :
    Calls Try.prog 60 #[.slice (some ⟨B, 0, none⟩) 16 16, .func (.func 61) #[] #[]] w fun e w' => e = .returned (.bool (!ownB o 16)) ∧ Ext w w' := by
  have h := containsFunc_any 61 #[] enters_right1 (fun n => n != -1 && !backB n) (some ⟨B, 0, none⟩) (ownL o) 16 w (sl_own hL hR) (by rw [ownL_len]; omega)
    (fun x W _ _ => (right1_any x W).mono fun e w' h => ⟨h.1, by rw [← h.2]; exact Ext.rf _⟩)
  rw [ownL_len] at h
  refine h.mono fun e w' h => ⟨?_, h.2⟩
  rw [h.1]
  exact ret_bool (ownB_all o 16)
theorem rises_drop (a : Int) (ms : List Int) (k : Nat) (h : k < ms.length) : risesB a (ms.drop k) = (decide (a < ms[k]?.getD 0) && backB (ms[k]?.getD 0) && risesB (ms[k]?.getD 0) (ms.drop (k + 1))) := by
  rw [List.drop_eq_getElem_cons h]
  simp [risesB, h]

set_option maxRecDepth 20000 in
set_option maxHeartbeats 2000000 in
theorem right_any (o : Nat → Int) (p : Option Addr) (ms : List Int) (c : Nat) (w : World) (hs : Sl w p ms) (hlen : ms.length ≤ 1000) :
    Calls Try.prog 23 #[.agg (ov o), .slice p ms.length c] w fun e w' => e = .returned (.bool (rightP o ms)) ∧ Ext w w' := by
  have hE0 : Ext w (w.alloc (.cells (ov o) 22)) := Ext.al (Ext.rf _) _
  cases ho : ownB o 16
  · have HR := Lib.hid (show rightP o ms = false by unfold rightP; rw [ho]; rfl)
    have HO := Lib.hid ho
    clear ho
    go_enter Try.func23, Try.ntmps23
    go_wp2
    refine wp_scope_fwd 0 rfl ?_
    go_wp2_with (go_at_call 60; (with_reducible refine (containsOwn_any o _ _ (by simp [Lt]) (by simp [go_sem])).mono ?_); rw [HO.out]; rintro e w' ⟨rfl, hb⟩; obtain ⟨hc, hf, hl, hz, -⟩ := kept hb; obtain ⟨hr, hq⟩ := keptR hb; try simp at hz)
    go_step3
    refine ⟨rfl, ?_⟩
    go_wp2
    rw [Exit.noGoto_ret]
    go_ret
    exact ⟨ret_bool HR.out.symm, hE0.tr hb⟩
  · have HR := Lib.hid (show rightP o ms = risesB (-1) ms by unfold rightP; rw [ho]; rfl)
    have HO := Lib.hid ho
    clear ho
    go_enter Try.func23, Try.ntmps23
    go_wp2
    refine wp_scope_fwd 0 rfl ?_
    go_wp2_with (go_at_call 60; (with_reducible refine (containsOwn_any o _ _ (by simp [Lt]) (by simp [go_sem])).mono ?_); rw [HO.out]; rintro e w' ⟨rfl, hb⟩)
    have hE := hE0.tr hb
    obtain ⟨W0, hW0⟩ : ∃ W0 : World, W0 = w' := ⟨_, rfl⟩
    rw [← hW0] at hE ⊢
    clear hW0 hb
    have hs0 := hs.ext hE
    go_loop [5, 7, 12] (fun a _ i => ∃ (k : Nat) (x : Int), k ≤ ms.length ∧ i = .int .i64 k ∧ a = .int .i64 x ∧ risesB (-1) ms = risesB x (ms.drop k)) (fun _ _ i => ms.length - (intOf i).toNat)
    case atStart => exact ⟨0, -1, Nat.zero_le _, rfl, rfl, by simp⟩
    case round =>
      obtain ⟨k, x, hk, rfl, rfl, hr⟩ := hrel
      by_cases hlt : k < ms.length
      · obtain ⟨b, off, rfl, hb, hcell⟩ := hs0 k hlt
        rw [rises_drop x ms k hlt] at hr
        generalize hm : ms[k]?.getD 0 = m at hcell hr
        have HH := Lib.hid hr
        clear hr hm
        by_cases h1 : x < m
        · have h1' : ¬ m ≤ x := by omega
          cases h2 : backB m
          · have H2 := Lib.hid h2
            clear h2
            go_wp2_with (go_at_call 44; (with_reducible refine (back_any _ _).mono ?_); rw [H2.out]; rintro e w' ⟨rfl, rfl⟩)
            go_step3
            refine ⟨rfl, ?_⟩
            go_wp2
            rw [Exit.noGoto_ret]
            go_ret
            exact ⟨ret_bool (by rw [HR.out, HH.out, H2.out]; simp), hE⟩
          · have H2 := Lib.hid h2
            clear h2
            go_wp2_with (go_at_call 44; (with_reducible refine (back_any _ _).mono ?_); rw [H2.out]; rintro e w' ⟨rfl, rfl⟩)
            go_round
            case rel => exact ⟨k + 1, m, by omega, by go_num, rfl, by rw [HH.out, H2.out]; simp [h1]⟩
            case measure => simp [intOf]; omega
        · have h1' : m ≤ x := by omega
          go_wp2
          go_step3
          refine ⟨rfl, ?_⟩
          go_wp2
          rw [Exit.noGoto_ret]
          go_ret
          exact ⟨ret_bool (by rw [HR.out, HH.out]; simp [show ¬ x < m by omega]), hE⟩
      · obtain rfl : k = ms.length := by omega
        have HH := Lib.hid hr
        clear hr
        go_wp2
        simp only [Exit.jump]
        go_ret
        exact ⟨ret_bool (by rw [HR.out, HH.out]; simp [risesB]), hE⟩

end Go.Proofs.Ytlacidecomflkaa
