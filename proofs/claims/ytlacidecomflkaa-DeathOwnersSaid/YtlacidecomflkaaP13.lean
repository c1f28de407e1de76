/- Remove and Fill of the package plan. -/
import Derived.Test.YtlacidecomflkaaP12
set_option linter.unusedSimpArgs false
set_option linter.unusedVariables false
namespace Go.Proofs.Ytlacidecomflkaa
open Go.RowKit

set_option maxRecDepth 20000 in
set_option maxHeartbeats 4000000 in
theorem fill_any (o : Nat → Int) (p : Option Addr) (ms : List Int) (c : Nat) (w : World) (hs : Sl w p ms) (hlen : ms.length ≤ 1000) (hcap : ms.length ≤ c) :
    Calls Try.prog 18 #[.agg (ov o), .slice p ms.length c] w (PlanRet (fillX o ms) (fillE o ms) w) := by
  have hE0 : Ext w ((w.alloc (.cells (ov o) 22)).alloc (.cells #[.slice p ms.length c] 23)) := Ext.al (Ext.al (Ext.rf _) _) _
  cases hr : rightP o ms
  · have HE := Lib.hid (show fillE o ms = 2 by unfold fillE; rw [hr]; rfl)
    have HX := Lib.hid (show fillX o ms = [] by unfold fillX; rw [HE.out]; rfl)
    have HR := Lib.hid hr
    clear hr
    rw [HE.out]
    go_enter Try.func18, Try.ntmps18
    go_wp2_with ((go_at_call 23; (with_reducible refine (right_any o p ms c _ (hs.ext hE0) hlen).mono ?_); rw [HR.out]; rintro e w' ⟨rfl, hb⟩; obtain ⟨hc, hf, hl, hz, -⟩ := kept hb; obtain ⟨hr, hq⟩ := keptR hb; try simp at hz))
    go_ret2
    exact planRet_nil HX.out (hE0.tr hb)
  by_cases h0 : ms.length = 0
  · have HE := Lib.hid (show fillE o ms = 200 by unfold fillE; rw [hr, if_pos h0]; rfl)
    have HX := Lib.hid (show fillX o ms = [] by unfold fillX; rw [HE.out]; rfl)
    have b0 : ((ms.length : Int) == 0) = true := by rw [beq_iff_eq]; omega
    have HR := Lib.hid hr
    clear hr h0
    rw [HE.out]
    go_enter Try.func18, Try.ntmps18
    go_wp2_with ((go_at_call 23; (with_reducible refine (right_any o p ms c _ (hs.ext hE0) hlen).mono ?_); rw [HR.out]; rintro e w' ⟨rfl, hb⟩; obtain ⟨hc, hf, hl, hz, -⟩ := kept hb; obtain ⟨hr, hq⟩ := keptR hb; try simp at hz))
    go_ret2
    exact planRet_nil HX.out (hE0.tr hb)
  · have HE := Lib.hid (show fillE o ms = 0 by unfold fillE; rw [hr, if_neg h0]; rfl)
    have HX := Lib.hid (show fillX o ms = moveP (fun i => !ms.any (o i == ·)) ms o by unfold fillX; rw [HE.out]; rfl)
    have b0 : ((ms.length : Int) == 0) = false := by rw [beq_eq_false_iff_ne]; omega
    have hp : 0 < ms.length := by omega
    have HM := Lib.hid (right_mem hr)
    have HR := Lib.hid hr
    clear hr h0
    rw [HE.out, HX.out]
    have hl0 : Lt (w.heap.size + 1) ((w.alloc (.cells (ov o) 22)).alloc (.cells #[.slice p ms.length c] 23)) := by unfold Lt; simp
    have hc0 : ((w.alloc (.cells (ov o) 22)).alloc (.cells #[.slice p ms.length c] 23)).cell? ⟨w.heap.size + 1, 0, none⟩ = some (.slice p ms.length c) := by rw [cell_rowD]; simp [go_sem]
    have HL0 := Lib.hid hl0
    have HC0 := Lib.hid hc0
    clear hl0 hc0
    go_enter Try.func18, Try.ntmps18
    go_wp2_with (first | (go_at_call 23; (with_reducible refine (right_any o p ms c _ (hs.ext hE0) hlen).mono ?_); rw [HR.out]; rintro e w' ⟨rfl, hb⟩; obtain ⟨hc, hf, hl, hz, -⟩ := kept hb; obtain ⟨hr, hq⟩ := keptR hb; try simp at hz) | (go_at_call 54; (with_reducible refine (leaving_any o p ms.length c 57 #[.pointer (some ⟨w.heap.size + 1, 0, none⟩)] _).mono ?_); rintro e w3 ⟨rfl, rfl⟩))
    have hE1 := hE0.tr hb
    have hlb : Lt (w.heap.size + 1) w' := Nat.lt_of_lt_of_le HL0.out hb.size
    have hcb : w'.cell? ⟨w.heap.size + 1, 0, none⟩ = some (.slice p ms.length c) := (hb.cell (p := ⟨_, 0, none⟩) HL0.out).trans HC0.out
    refine (collected 57 #[.pointer (some ⟨w.heap.size + 1, 0, none⟩)] enters_Fill1 (fun x => !ms.any (x == ·)) o p ms c w' (hs.ext hE1) hlen hcap hp HM.out ?_).mono ?_
    · intro x W hW
      exact (Fill1_any x p ms c (w.heap.size + 1) W ((hW.cell (p := ⟨_, 0, none⟩) hlb).trans hcb) (hs.ext (hE1.tr hW)) hlen).mono fun e w2 h => ⟨h.1, by rw [← h.2]; exact Ext.rf _⟩
    · rintro e w4 ⟨v, rfl, hown, hE4⟩
      clear hc hf hl hz hr hq
      go_wp2
      go_ret2
      exact ⟨v, rfl, ownsRow_le hown hE1.size, hE1.tr hE4⟩

theorem delete_who (who : Int) (B base : Nat) (v : Value) (ms : List Int) (w w0 : World) (hlen : ms.length ≤ 1000) (h : w.ownsRow base 3 1 v ms.length (ms.map (Value.int .i64))) (h0 : Ext w0 w) (hB : B < w0.heap.size) (hb : w0.heap.size ≤ base) (hc : w0.cell? ⟨B, 0, none⟩ = some (.int .i64 who)) :
    Calls Try.prog 50 #[v, .func (.func 52) #[] #[.pointer (some ⟨B, 0, none⟩)]] w fun e w' =>
      ∃ p' c', e = .returned (.slice p' (without ms who).length c') ∧ (without ms who).length ≤ c' ∧ Sl w' p' (without ms who) ∧ Ext w0 w' :=
  (delete_row 52 #[.pointer (some ⟨B, 0, none⟩)] enters_Remove1 (fun x => x == who) base v ms w hlen h (fun x W hm =>
    (Remove1_any x who B W ((mv_cell hm (Nat.lt_of_lt_of_le hB h0.size) (by omega) 0).trans ((h0.cell (p := ⟨B, 0, none⟩) hB).trans hc))).mono fun e w2 h => ⟨h.1, by rw [← h.2]; exact Ext.rf _⟩)).mono
    fun e w' ⟨p', c', h1, h2, h3, h4⟩ => ⟨p', c', h1, h2, h3, Mv.ext_of h0 h4 (fun k hk => by omega)⟩

set_option maxRecDepth 20000 in
set_option maxHeartbeats 4000000 in
theorem remove_A (o : Nat → Int) (p : Option Addr) (ms : List Int) (c : Nat) (who : Int) (w : World) (hs : Sl w p ms) (hlen : ms.length ≤ 1000) (hcap : ms.length ≤ c) (HX : Hid (remX o ms who = [])) (HB : Hid (backB who = false)) :
    Calls Try.prog 16 #[.agg (ov o), .slice p ms.length c, .int .i64 who] w (PlanRet (remX o ms who) 2 w) := by
  have hE0 : Ext w ((w.alloc (.cells (ov o) 22)).alloc (.cells #[.int .i64 who] 3)) := Ext.al (Ext.al (Ext.rf _) _) _
  have HL0 := Lib.hid (show w.heap.size + 1 < ((w.alloc (.cells (ov o) 22)).alloc (.cells #[.int .i64 who] 3)).heap.size by simp)
  have HC0 := Lib.hid (show ((w.alloc (.cells (ov o) 22)).alloc (.cells #[.int .i64 who] 3)).cell? ⟨w.heap.size + 1, 0, none⟩ = some (.int .i64 who) by rw [cell_rowD]; simp [go_sem])
  go_enter Try.func16, Try.ntmps16
  go_wp2
  refine wp_scope_fwd 0 rfl ?_
  go_wp2_with (first | (go_at_call 51; (with_reducible refine (clone_any p ms c _ (hs.ext hE0) hlen).mono ?_); rintro e w1 ⟨v1, rfl, hown, hb1⟩) | (go_at_call 50; (with_reducible refine (delete_who who (w.heap.size + 1) ((w.alloc (.cells (ov o) 22)).alloc (.cells #[.int .i64 who] 3)).heap.size v1 ms _ ((w.alloc (.cells (ov o) 22)).alloc (.cells #[.int .i64 who] 3)) hlen hown hb1 HL0.out (Nat.le_refl _) HC0.out).mono ?_); rintro e w2 ⟨p2, c2, rfl, hc2, hs2, hb⟩; obtain ⟨hc, hf, hl, hz, -⟩ := kept hb; obtain ⟨hr, hq⟩ := keptR hb; try simp at hz) | (go_at_call 44; (with_reducible refine (back_any _ _).mono ?_); rw [HB.out]; rintro e w' ⟨rfl, rfl⟩))
  go_step3
  refine ⟨rfl, ?_⟩
  go_wp2
  rw [Exit.noGoto_ret]
  go_ret2
  exact planRet_nil HX.out (hE0.tr hb)

set_option maxRecDepth 20000 in
set_option maxHeartbeats 4000000 in
theorem remove_B (o : Nat → Int) (p : Option Addr) (ms : List Int) (c : Nat) (who : Int) (w : World) (hs : Sl w p ms) (hlen : ms.length ≤ 1000) (hcap : ms.length ≤ c) (HX : Hid (remX o ms who = [])) (HB : Hid (backB who = true)) (HR : Hid (rightP o ms = false)) :
    Calls Try.prog 16 #[.agg (ov o), .slice p ms.length c, .int .i64 who] w (PlanRet (remX o ms who) 2 w) := by
  have hE0 : Ext w ((w.alloc (.cells (ov o) 22)).alloc (.cells #[.int .i64 who] 3)) := Ext.al (Ext.al (Ext.rf _) _) _
  have HL0 := Lib.hid (show w.heap.size + 1 < ((w.alloc (.cells (ov o) 22)).alloc (.cells #[.int .i64 who] 3)).heap.size by simp)
  have HC0 := Lib.hid (show ((w.alloc (.cells (ov o) 22)).alloc (.cells #[.int .i64 who] 3)).cell? ⟨w.heap.size + 1, 0, none⟩ = some (.int .i64 who) by rw [cell_rowD]; simp [go_sem])
  go_enter Try.func16, Try.ntmps16
  go_wp2
  refine wp_scope_fwd 0 rfl ?_
  go_wp2_with (first | (go_at_call 51; (with_reducible refine (clone_any p ms c _ (hs.ext hE0) hlen).mono ?_); rintro e w1 ⟨v1, rfl, hown, hb1⟩) | (go_at_call 50; (with_reducible refine (delete_who who (w.heap.size + 1) ((w.alloc (.cells (ov o) 22)).alloc (.cells #[.int .i64 who] 3)).heap.size v1 ms _ ((w.alloc (.cells (ov o) 22)).alloc (.cells #[.int .i64 who] 3)) hlen hown hb1 HL0.out (Nat.le_refl _) HC0.out).mono ?_); rintro e w2 ⟨p2, c2, rfl, hc2, hs2, hb⟩; obtain ⟨hc, hf, hl, hz, -⟩ := kept hb; obtain ⟨hr, hq⟩ := keptR hb; try simp at hz) | (go_at_call 44; (with_reducible refine (back_any _ _).mono ?_); rw [HB.out]; rintro e w' ⟨rfl, rfl⟩) | (go_at_call 23; (with_reducible refine (right_any o p ms c _ (hs.ext (hE0.tr hb)) hlen).mono ?_); rw [HR.out]; rintro e w3 ⟨rfl, hbr⟩; obtain ⟨hcr, hfr, hlr, hzr, -⟩ := kept hbr; obtain ⟨hrr, hqr⟩ := keptR hbr; try simp at hzr))
  go_step3
  refine ⟨rfl, ?_⟩
  go_wp2
  rw [Exit.noGoto_ret]
  go_ret2
  exact planRet_nil HX.out ((hE0.tr hb).tr hbr)

set_option maxRecDepth 20000 in
set_option maxHeartbeats 4000000 in
theorem remove_C (o : Nat → Int) (p : Option Addr) (ms : List Int) (c : Nat) (who : Int) (w : World) (hs : Sl w p ms) (hlen : ms.length ≤ 1000) (hcap : ms.length ≤ c) (HX : Hid (remX o ms who = [])) (HB : Hid (backB who = true)) (HR : Hid (rightP o ms = true)) (b1 : (((without ms who).length : Int) == ms.length) = true) (b2 : ((without ms who).length == ms.length) = true) :
    Calls Try.prog 16 #[.agg (ov o), .slice p ms.length c, .int .i64 who] w (PlanRet (remX o ms who) 202 w) := by
  have hE0 : Ext w ((w.alloc (.cells (ov o) 22)).alloc (.cells #[.int .i64 who] 3)) := Ext.al (Ext.al (Ext.rf _) _) _
  have HL0 := Lib.hid (show w.heap.size + 1 < ((w.alloc (.cells (ov o) 22)).alloc (.cells #[.int .i64 who] 3)).heap.size by simp)
  have HC0 := Lib.hid (show ((w.alloc (.cells (ov o) 22)).alloc (.cells #[.int .i64 who] 3)).cell? ⟨w.heap.size + 1, 0, none⟩ = some (.int .i64 who) by rw [cell_rowD]; simp [go_sem])
  go_enter Try.func16, Try.ntmps16
  go_wp2
  refine wp_scope_fwd 0 rfl ?_
  go_wp2_with (first | (go_at_call 51; (with_reducible refine (clone_any p ms c _ (hs.ext hE0) hlen).mono ?_); rintro e w1 ⟨v1, rfl, hown, hb1⟩) | (go_at_call 50; (with_reducible refine (delete_who who (w.heap.size + 1) ((w.alloc (.cells (ov o) 22)).alloc (.cells #[.int .i64 who] 3)).heap.size v1 ms _ ((w.alloc (.cells (ov o) 22)).alloc (.cells #[.int .i64 who] 3)) hlen hown hb1 HL0.out (Nat.le_refl _) HC0.out).mono ?_); rintro e w2 ⟨p2, c2, rfl, hc2, hs2, hb⟩; obtain ⟨hc, hf, hl, hz, -⟩ := kept hb; obtain ⟨hr, hq⟩ := keptR hb; try simp at hz) | (go_at_call 44; (with_reducible refine (back_any _ _).mono ?_); rw [HB.out]; rintro e w' ⟨rfl, rfl⟩) | (go_at_call 23; (with_reducible refine (right_any o p ms c _ (hs.ext (hE0.tr hb)) hlen).mono ?_); rw [HR.out]; rintro e w3 ⟨rfl, hbr⟩; obtain ⟨hcr, hfr, hlr, hzr, -⟩ := kept hbr; obtain ⟨hrr, hqr⟩ := keptR hbr; try simp at hzr))
  go_step3
  refine ⟨rfl, ?_⟩
  go_wp2
  rw [Exit.noGoto_ret]
  go_ret2
  exact planRet_nil HX.out ((hE0.tr hb).tr hbr)

set_option maxRecDepth 20000 in
set_option maxHeartbeats 4000000 in
theorem remove_D (o : Nat → Int) (p : Option Addr) (ms : List Int) (c : Nat) (who : Int) (w : World) (hs : Sl w p ms) (hlen : ms.length ≤ 1000) (hcap : ms.length ≤ c) (HX : Hid (remX o ms who = [])) (HB : Hid (backB who = true)) (HR : Hid (rightP o ms = true)) (b1 : (((without ms who).length : Int) == ms.length) = false) (b2 : ((without ms who).length == ms.length) = false) (b3 : (((without ms who).length : Int) == 0) = true) (b4 : ((without ms who).length == 0) = true) :
    Calls Try.prog 16 #[.agg (ov o), .slice p ms.length c, .int .i64 who] w (PlanRet (remX o ms who) 200 w) := by
  have hE0 : Ext w ((w.alloc (.cells (ov o) 22)).alloc (.cells #[.int .i64 who] 3)) := Ext.al (Ext.al (Ext.rf _) _) _
  have HL0 := Lib.hid (show w.heap.size + 1 < ((w.alloc (.cells (ov o) 22)).alloc (.cells #[.int .i64 who] 3)).heap.size by simp)
  have HC0 := Lib.hid (show ((w.alloc (.cells (ov o) 22)).alloc (.cells #[.int .i64 who] 3)).cell? ⟨w.heap.size + 1, 0, none⟩ = some (.int .i64 who) by rw [cell_rowD]; simp [go_sem])
  go_enter Try.func16, Try.ntmps16
  go_wp2
  refine wp_scope_fwd 0 rfl ?_
  go_wp2_with (first | (go_at_call 51; (with_reducible refine (clone_any p ms c _ (hs.ext hE0) hlen).mono ?_); rintro e w1 ⟨v1, rfl, hown, hb1⟩) | (go_at_call 50; (with_reducible refine (delete_who who (w.heap.size + 1) ((w.alloc (.cells (ov o) 22)).alloc (.cells #[.int .i64 who] 3)).heap.size v1 ms _ ((w.alloc (.cells (ov o) 22)).alloc (.cells #[.int .i64 who] 3)) hlen hown hb1 HL0.out (Nat.le_refl _) HC0.out).mono ?_); rintro e w2 ⟨p2, c2, rfl, hc2, hs2, hb⟩; obtain ⟨hc, hf, hl, hz, -⟩ := kept hb; obtain ⟨hr, hq⟩ := keptR hb; try simp at hz) | (go_at_call 44; (with_reducible refine (back_any _ _).mono ?_); rw [HB.out]; rintro e w' ⟨rfl, rfl⟩) | (go_at_call 23; (with_reducible refine (right_any o p ms c _ (hs.ext (hE0.tr hb)) hlen).mono ?_); rw [HR.out]; rintro e w3 ⟨rfl, hbr⟩; obtain ⟨hcr, hfr, hlr, hzr, -⟩ := kept hbr; obtain ⟨hrr, hqr⟩ := keptR hbr; try simp at hzr))
  go_step3
  refine ⟨rfl, ?_⟩
  go_wp2
  rw [Exit.noGoto_ret]
  go_ret2
  exact planRet_nil HX.out ((hE0.tr hb).tr hbr)

set_option maxRecDepth 20000 in
set_option maxHeartbeats 4000000 in
theorem remove_E (o : Nat → Int) (p : Option Addr) (ms : List Int) (c : Nat) (who : Int) (w : World) (hs : Sl w p ms) (hlen : ms.length ≤ 1000) (hcap : ms.length ≤ c) (HX : Hid (remX o ms who = moveP (fun i => o i == who) (without ms who) o)) (HB : Hid (backB who = true)) (HR : Hid (rightP o ms = true)) (b1 : (((without ms who).length : Int) == ms.length) = false) (b2 : ((without ms who).length == ms.length) = false) (b3 : (((without ms who).length : Int) == 0) = false) (b4 : ((without ms who).length == 0) = false) (hp : 0 < (without ms who).length) :
    Calls Try.prog 16 #[.agg (ov o), .slice p ms.length c, .int .i64 who] w (PlanRet (remX o ms who) 0 w) := by
  have hE0 : Ext w ((w.alloc (.cells (ov o) 22)).alloc (.cells #[.int .i64 who] 3)) := Ext.al (Ext.al (Ext.rf _) _) _
  have HL0 := Lib.hid (show w.heap.size + 1 < ((w.alloc (.cells (ov o) 22)).alloc (.cells #[.int .i64 who] 3)).heap.size by simp)
  have HC0 := Lib.hid (show ((w.alloc (.cells (ov o) 22)).alloc (.cells #[.int .i64 who] 3)).cell? ⟨w.heap.size + 1, 0, none⟩ = some (.int .i64 who) by rw [cell_rowD]; simp [go_sem])
  go_enter Try.func16, Try.ntmps16
  go_wp2
  refine wp_scope_fwd 0 rfl ?_
  go_wp2_with (first | (go_at_call 51; (with_reducible refine (clone_any p ms c _ (hs.ext hE0) hlen).mono ?_); rintro e w1 ⟨v1, rfl, hown, hb1⟩) | (go_at_call 50; (with_reducible refine (delete_who who (w.heap.size + 1) ((w.alloc (.cells (ov o) 22)).alloc (.cells #[.int .i64 who] 3)).heap.size v1 ms _ ((w.alloc (.cells (ov o) 22)).alloc (.cells #[.int .i64 who] 3)) hlen hown hb1 HL0.out (Nat.le_refl _) HC0.out).mono ?_); rintro e w2 ⟨p2, c2, rfl, hc2, hs2, hb⟩; obtain ⟨hc, hf, hl, hz, -⟩ := kept hb; obtain ⟨hr, hq⟩ := keptR hb; try simp at hz) | (go_at_call 44; (with_reducible refine (back_any _ _).mono ?_); rw [HB.out]; rintro e w' ⟨rfl, rfl⟩) | (go_at_call 23; (with_reducible refine (right_any o p ms c _ (hs.ext (hE0.tr hb)) hlen).mono ?_); rw [HR.out]; rintro e w3 ⟨rfl, hbr⟩; obtain ⟨hcr, hfr, hlr, hzr, -⟩ := kept hbr; obtain ⟨hrr, hqr⟩ := keptR hbr; try simp at hzr) | (go_at_call 54; (with_reducible refine (leaving_any o p2 (without ms who).length c2 55 #[.pointer (some ⟨w.heap.size + 1, 0, none⟩)] _).mono ?_); rintro e w5 ⟨rfl, rfl⟩))
  have hM := right_mem HR.out
  have hE3 := (hE0.tr hb).tr hbr
  have hlb : w.heap.size + 1 < w3.heap.size := Nat.lt_of_lt_of_le (Nat.lt_of_lt_of_le HL0.out hb.size) hbr.size
  have hcb : w3.cell? ⟨w.heap.size + 1, 0, none⟩ = some (.int .i64 who) := ((hb.tr hbr).cell (p := ⟨_, 0, none⟩) HL0.out).trans HC0.out
  refine (collected 55 #[.pointer (some ⟨w.heap.size + 1, 0, none⟩)] enters_Remove2 (fun x => x == who) o p2 (without ms who) c2 w3 (hs2.ext hbr) (Nat.le_trans (without_len _ _) hlen) hc2 hp (fun m hm => hM m (without_mem hm)) ?_).mono ?_
  · intro x W hW
    exact (Remove2_any x who (w.heap.size + 1) W ((hW.cell (p := ⟨_, 0, none⟩) hlb).trans hcb)).mono fun e w2 h => ⟨h.1, by rw [← h.2]; exact Ext.rf _⟩
  · rintro e w4 ⟨v, rfl, hown4, hE4⟩
    clear hc hf hl hz hr hq hcr hfr hlr hzr hrr hqr
    have HO4 := Lib.hid hown4
    clear hown4
    go_wp2
    simp only [Exit.jump]
    go_ret2
    exact ⟨v, rfl, by rw [HX.out]; exact ownsRow_le HO4.out hE3.size, hE3.tr hE4⟩

theorem remove_any (o : Nat → Int) (p : Option Addr) (ms : List Int) (c : Nat) (who : Int) (w : World) (hs : Sl w p ms) (hlen : ms.length ≤ 1000) (hcap : ms.length ≤ c) :
    Calls Try.prog 16 #[.agg (ov o), .slice p ms.length c, .int .i64 who] w (PlanRet (remX o ms who) (remE o ms who) w) := by
  cases hbk : backB who
  · have he : remE o ms who = 2 := by unfold remE; rw [hbk]; rfl
    rw [he]; exact remove_A o p ms c who w hs hlen hcap (show remX o ms who = [] by unfold remX; rw [he]; rfl) hbk
  cases hr : rightP o ms
  · have he : remE o ms who = 2 := by unfold remE; rw [hbk, hr]; rfl
    rw [he]; exact remove_B o p ms c who w hs hlen hcap (show remX o ms who = [] by unfold remX; rw [he]; rfl) hbk hr
  by_cases h1 : (without ms who).length = ms.length
  · have he : remE o ms who = 202 := by unfold remE; rw [hbk, hr, if_pos h1]; rfl
    rw [he]; exact remove_C o p ms c who w hs hlen hcap (show remX o ms who = [] by unfold remX; rw [he]; rfl) hbk hr (by rw [beq_iff_eq]; omega) (by rw [beq_iff_eq]; omega)
  by_cases h2 : (without ms who).length = 0
  · have he : remE o ms who = 200 := by unfold remE; rw [hbk, hr, if_neg h1, if_pos h2]; rfl
    rw [he]; exact remove_D o p ms c who w hs hlen hcap (show remX o ms who = [] by unfold remX; rw [he]; rfl) hbk hr (by rw [beq_eq_false_iff_ne]; omega) (by rw [beq_eq_false_iff_ne]; omega) (by rw [beq_iff_eq]; omega) (by rw [beq_iff_eq]; omega)
  · have he : remE o ms who = 0 := by unfold remE; rw [hbk, hr, if_neg h1, if_neg h2]; rfl
    rw [he]; exact remove_E o p ms c who w hs hlen hcap (show remX o ms who = moveP (fun i => o i == who) (without ms who) o by unfold remX; rw [he]; rfl) hbk hr (by rw [beq_eq_false_iff_ne]; omega) (by rw [beq_eq_false_iff_ne]; omega) (by rw [beq_eq_false_iff_ne]; omega) (by rw [beq_eq_false_iff_ne]; omega) (by omega)

end Go.Proofs.Ytlacidecomflkaa
