/- Spreads and picks, of the package plan and of its reference. -/
import Derived.Test.YtlacidecomflkaaP4
set_option linter.unusedSimpArgs false
set_option linter.unusedVariables false
namespace Go.Proofs.Ytlacidecomflkaa
open Go.RowKit

theorem rises_mem : ∀ (ms : List Int) (a : Int), risesB a ms = true → ∀ m ∈ ms, 0 ≤ m ∧ m < 6
  | [], _, _, _, h => by simp at h
  | x :: r, a, hr, m, h => by
    simp only [risesB, Bool.and_eq_true] at hr
    rcases List.mem_cons.1 h with rfl | h
    · have := hr.1.2; unfold backB at this; simpa using this
    · exact rises_mem r x hr.2 m h
theorem right_mem {o : Nat → Int} {ms : List Int} (h : rightP o ms = true) : ∀ m ∈ ms, 0 ≤ m ∧ m < 6 := by
  unfold rightP at h
  rw [Bool.and_eq_true] at h
  exact rises_mem ms _ h.2
/-- A shift as a value. -/
abbrev shv (s : Sh) : Value := .agg #[.int .i64 s.b, .int .i64 s.t]
theorem empty_len (ms : List Int) : ms.isEmpty = decide (ms.length = 0) := by cases ms <;> simp

set_option maxRecDepth 20000 in
set_option maxHeartbeats 2000000 in
theorem pick_any (o : Nat → Int) (p : Option Addr) (ms : List Int) (c : Nat) (w : World) (hs : Sl w p ms) (hlen : ms.length ≤ 1000) (hcap : ms.length ≤ c) :
    Calls Try.prog 20 #[.agg (ov o), .slice p ms.length c] w fun e w' => e = .returned (.tuple #[.int .i64 (pick o ms), .bool (pickB o ms)]) ∧ Ext w w' := by
  have hE0 : Ext w (w.alloc (.cells (ov o) 22)) := Ext.al (Ext.rf _) _
  by_cases h0 : ms.length = 0
  · have b0 : ((ms.length : Int) == 0) = true := by rw [beq_iff_eq]; omega
    have HV := Lib.hid (show pick o ms = 0 by unfold pick pickB; rw [empty_len]; simp [h0])
    have HB := Lib.hid (show pickB o ms = false by unfold pickB; rw [empty_len]; simp [h0])
    cases hr : rightP o ms
    all_goals
      have HR := Lib.hid hr
      clear hr
      clear h0
      go_enter Try.func20, Try.ntmps20
      go_wp2_with ((go_at_call 23; (with_reducible refine (right_any o p ms c _ (hs.ext hE0) hlen).mono ?_); rw [HR.out]; rintro e w' ⟨rfl, hb⟩; obtain ⟨hc, hf, hl, hz, -⟩ := kept hb; obtain ⟨hr, hq⟩ := keptR hb; try simp at hz))
      go_ret2
      exact ⟨by rw [HV.out, HB.out]; rfl, (by first | exact hE0 | exact hE0.tr hb)⟩
  have b0 : ((ms.length : Int) == 0) = false := by rw [beq_eq_false_iff_ne]; omega
  have hp : 0 < ms.length := by omega
  cases hr : rightP o ms
  · have HV := Lib.hid (show pick o ms = 0 by unfold pick pickB; rw [hr]; simp)
    have HB := Lib.hid (show pickB o ms = false by unfold pickB; rw [hr]; simp)
    have HR := Lib.hid hr
    clear hr h0
    go_enter Try.func20, Try.ntmps20
    go_wp2_with ((go_at_call 23; (with_reducible refine (right_any o p ms c _ (hs.ext hE0) hlen).mono ?_); rw [HR.out]; rintro e w' ⟨rfl, hb⟩; obtain ⟨hc, hf, hl, hz, -⟩ := kept hb; obtain ⟨hr, hq⟩ := keptR hb; try simp at hz))
    go_ret2
    exact ⟨by rw [HV.out, HB.out]; rfl, hE0.tr hb⟩
  · have HV := Lib.hid (show pick o ms = least o ms by unfold pick pickB; rw [hr, empty_len]; simp [h0])
    have HB := Lib.hid (show pickB o ms = true by unfold pickB; rw [hr, empty_len]; simp [h0])
    have HM := Lib.hid (right_mem hr)
    have HR := Lib.hid hr
    clear hr h0
    go_enter Try.func20, Try.ntmps20
    go_wp2_with ((go_at_call 23; (with_reducible refine (right_any o p ms c _ (hs.ext hE0) hlen).mono ?_); rw [HR.out]; rintro e w' ⟨rfl, hb⟩; obtain ⟨hc, hf, hl, hz, -⟩ := kept hb; obtain ⟨hr, hq⟩ := keptR hb; try simp at hz))
    have hE := hE0.tr hb
    have hsW := hs.ext hE
    refine (least_any o p ms c _ hsW hlen hp hcap HM.out).mono ?_
    rintro e w2 ⟨rfl, hb2⟩
    go_wp2
    go_ret2
    exact ⟨by rw [HV.out, HB.out]; rfl, hE.tr hb2⟩

set_option maxRecDepth 20000 in
set_option maxHeartbeats 2000000 in
theorem rpick_any (o : Nat → Int) (p : Option Addr) (ms : List Int) (c : Nat) (w : World) (hs : Sl w p ms) (hlen : ms.length ≤ 1000) (hcap : ms.length ≤ c) :
    Calls Try.prog 21 #[.agg (ov o), .slice p ms.length c] w fun e w' => e = .returned (.tuple #[.int .i64 (pick o ms), .bool (pickB o ms)]) ∧ Ext w w' := by
  have hE0 : Ext w (w.alloc (.cells (ov o) 22)) := Ext.al (Ext.rf _) _
  by_cases h0 : ms.length = 0
  · have b0 : ((ms.length : Int) == 0) = true := by rw [beq_iff_eq]; omega
    have HV := Lib.hid (show pick o ms = 0 by unfold pick pickB; rw [empty_len]; simp [h0])
    have HB := Lib.hid (show pickB o ms = false by unfold pickB; rw [empty_len]; simp [h0])
    cases hr : rightP o ms
    all_goals
      have HR := Lib.hid hr
      clear hr
      clear h0
      go_enter Try.func21, Try.ntmps21
      go_wp2_with ((go_at_call 24; (with_reducible refine (rright_any o p ms c _ (hs.ext hE0) hlen).mono ?_); rw [HR.out]; rintro e w' ⟨rfl, hb⟩; obtain ⟨hc, hf, hl, hz, -⟩ := kept hb; obtain ⟨hr, hq⟩ := keptR hb; try simp at hz))
      go_ret2
      exact ⟨by rw [HV.out, HB.out]; rfl, (by first | exact hE0 | exact hE0.tr hb)⟩
  have b0 : ((ms.length : Int) == 0) = false := by rw [beq_eq_false_iff_ne]; omega
  have hp : 0 < ms.length := by omega
  cases hr : rightP o ms
  · have HV := Lib.hid (show pick o ms = 0 by unfold pick pickB; rw [hr]; simp)
    have HB := Lib.hid (show pickB o ms = false by unfold pickB; rw [hr]; simp)
    have HR := Lib.hid hr
    clear hr h0
    go_enter Try.func21, Try.ntmps21
    go_wp2_with ((go_at_call 24; (with_reducible refine (rright_any o p ms c _ (hs.ext hE0) hlen).mono ?_); rw [HR.out]; rintro e w' ⟨rfl, hb⟩; obtain ⟨hc, hf, hl, hz, -⟩ := kept hb; obtain ⟨hr, hq⟩ := keptR hb; try simp at hz))
    go_ret2
    exact ⟨by rw [HV.out, HB.out]; rfl, hE0.tr hb⟩
  · have HV := Lib.hid (show pick o ms = least o ms by unfold pick pickB; rw [hr, empty_len]; simp [h0])
    have HB := Lib.hid (show pickB o ms = true by unfold pickB; rw [hr, empty_len]; simp [h0])
    have HM := Lib.hid (right_mem hr)
    have HR := Lib.hid hr
    clear hr h0
    go_enter Try.func21, Try.ntmps21
    go_wp2_with ((go_at_call 24; (with_reducible refine (rright_any o p ms c _ (hs.ext hE0) hlen).mono ?_); rw [HR.out]; rintro e w' ⟨rfl, hb⟩; obtain ⟨hc, hf, hl, hz, -⟩ := kept hb; obtain ⟨hr, hq⟩ := keptR hb; try simp at hz))
    have hE := hE0.tr hb
    have hsW := hs.ext hE
    refine (rleast_any o p ms c _ hsW hlen hp).mono ?_
    rintro e w2 ⟨rfl, hb2⟩
    go_wp2
    go_ret2
    exact ⟨by rw [HV.out, HB.out]; rfl, hE.tr hb2⟩

set_option maxRecDepth 20000 in
set_option maxHeartbeats 2000000 in
theorem spread_any (o : Nat → Int) (p : Option Addr) (ms : List Int) (c : Nat) (w : World) (hs : Sl w p ms) (hlen : ms.length ≤ 1000) (hcap : ms.length ≤ c) :
    Calls Try.prog 27 #[.agg (ov o), .slice p ms.length c] w fun e w' => e = .returned (.int .i64 (spread o ms)) ∧ Ext w w' := by
  have hE0 : Ext w (w.alloc (.cells (ov o) 22)) := Ext.al (Ext.rf _) _
  by_cases h0 : ms.length = 0
  · have b0 : ((ms.length : Int) == 0) = true := by rw [beq_iff_eq]; omega
    have HV := Lib.hid (show spread o ms = 0 by unfold spread; rw [empty_len]; simp [h0])
    have HB := Lib.hid (show pickB o ms = false by unfold pickB; rw [empty_len]; simp [h0])
    cases hr : rightP o ms
    all_goals
      have HR := Lib.hid hr
      clear hr
      clear h0
      go_enter Try.func27, Try.ntmps27
      go_wp2_with ((go_at_call 23; (with_reducible refine (right_any o p ms c _ (hs.ext hE0) hlen).mono ?_); rw [HR.out]; rintro e w' ⟨rfl, hb⟩; obtain ⟨hc, hf, hl, hz, -⟩ := kept hb; obtain ⟨hr, hq⟩ := keptR hb; try simp at hz))
      go_ret
      exact ⟨ret_i HV.out.symm, (by first | exact hE0 | exact hE0.tr hb)⟩
  have b0 : ((ms.length : Int) == 0) = false := by rw [beq_eq_false_iff_ne]; omega
  have hp : 0 < ms.length := by omega
  cases hr : rightP o ms
  · have HV := Lib.hid (show spread o ms = 0 by unfold spread; rw [hr]; simp)
    have HB := Lib.hid (show pickB o ms = false by unfold pickB; rw [hr]; simp)
    have HR := Lib.hid hr
    clear hr h0
    go_enter Try.func27, Try.ntmps27
    go_wp2_with ((go_at_call 23; (with_reducible refine (right_any o p ms c _ (hs.ext hE0) hlen).mono ?_); rw [HR.out]; rintro e w' ⟨rfl, hb⟩; obtain ⟨hc, hf, hl, hz, -⟩ := kept hb; obtain ⟨hr, hq⟩ := keptR hb; try simp at hz))
    go_ret
    exact ⟨ret_i HV.out.symm, hE0.tr hb⟩
  · have HV := Lib.hid (show spread o ms = load o (most o ms) - load o (least o ms) by unfold spread; rw [hr, empty_len]; simp [h0])
    have HB := Lib.hid (show pickB o ms = true by unfold pickB; rw [hr, empty_len]; simp [h0])
    have HM := Lib.hid (right_mem hr)
    have HR := Lib.hid hr
    clear hr h0
    go_enter Try.func27, Try.ntmps27
    go_wp2_with ((go_at_call 23; (with_reducible refine (right_any o p ms c _ (hs.ext hE0) hlen).mono ?_); rw [HR.out]; rintro e w' ⟨rfl, hb⟩; obtain ⟨hc, hf, hl, hz, -⟩ := kept hb; obtain ⟨hr, hq⟩ := keptR hb; try simp at hz))
    have hE := hE0.tr hb
    have hsW := hs.ext hE
    have l1 := load_bd o (most o ms)
    have l2 := load_bd o (least o ms)
    refine wp_region_later (by kernel_rfl) (by kernel_rfl) ?_; (repeat (go_big_quiet_step (first | (go_at_call 62; exact calls_later (most_any o p ms c _ (hsW.ext (later_ext _)) hlen hp hcap HM.out)) | (go_at_call 58; exact calls_later (least_any o p ms c _ (hsW.ext (later_ext _)) hlen hp hcap HM.out)) | (go_at_call 25; exact calls_later (load_any o _ _))))); refine wpQuiet_nil ?_; intro d
    go_wp2
    go_ret
    exact ⟨ret_i HV.out.symm, hE.tr (later_ext d)⟩

set_option maxRecDepth 20000 in
set_option maxHeartbeats 2000000 in
theorem rspread_any (o : Nat → Int) (p : Option Addr) (ms : List Int) (c : Nat) (w : World) (hs : Sl w p ms) (hlen : ms.length ≤ 1000) (hcap : ms.length ≤ c) :
    Calls Try.prog 28 #[.agg (ov o), .slice p ms.length c] w fun e w' => e = .returned (.int .i64 (spread o ms)) ∧ Ext w w' := by
  have hE0 : Ext w (w.alloc (.cells (ov o) 22)) := Ext.al (Ext.rf _) _
  by_cases h0 : ms.length = 0
  · have b0 : ((ms.length : Int) == 0) = true := by rw [beq_iff_eq]; omega
    have HV := Lib.hid (show spread o ms = 0 by unfold spread; rw [empty_len]; simp [h0])
    have HB := Lib.hid (show pickB o ms = false by unfold pickB; rw [empty_len]; simp [h0])
    cases hr : rightP o ms
    all_goals
      have HR := Lib.hid hr
      clear hr
      clear h0
      go_enter Try.func28, Try.ntmps28
      go_wp2_with ((go_at_call 24; (with_reducible refine (rright_any o p ms c _ (hs.ext hE0) hlen).mono ?_); rw [HR.out]; rintro e w' ⟨rfl, hb⟩; obtain ⟨hc, hf, hl, hz, -⟩ := kept hb; obtain ⟨hr, hq⟩ := keptR hb; try simp at hz))
      go_ret
      exact ⟨ret_i HV.out.symm, (by first | exact hE0 | exact hE0.tr hb)⟩
  have b0 : ((ms.length : Int) == 0) = false := by rw [beq_eq_false_iff_ne]; omega
  have hp : 0 < ms.length := by omega
  cases hr : rightP o ms
  · have HV := Lib.hid (show spread o ms = 0 by unfold spread; rw [hr]; simp)
    have HB := Lib.hid (show pickB o ms = false by unfold pickB; rw [hr]; simp)
    have HR := Lib.hid hr
    clear hr h0
    go_enter Try.func28, Try.ntmps28
    go_wp2_with ((go_at_call 24; (with_reducible refine (rright_any o p ms c _ (hs.ext hE0) hlen).mono ?_); rw [HR.out]; rintro e w' ⟨rfl, hb⟩; obtain ⟨hc, hf, hl, hz, -⟩ := kept hb; obtain ⟨hr, hq⟩ := keptR hb; try simp at hz))
    go_ret
    exact ⟨ret_i HV.out.symm, hE0.tr hb⟩
  · have HV := Lib.hid (show spread o ms = load o (most o ms) - load o (least o ms) by unfold spread; rw [hr, empty_len]; simp [h0])
    have HB := Lib.hid (show pickB o ms = true by unfold pickB; rw [hr, empty_len]; simp [h0])
    have HM := Lib.hid (right_mem hr)
    have HR := Lib.hid hr
    clear hr h0
    go_enter Try.func28, Try.ntmps28
    go_wp2_with ((go_at_call 24; (with_reducible refine (rright_any o p ms c _ (hs.ext hE0) hlen).mono ?_); rw [HR.out]; rintro e w' ⟨rfl, hb⟩; obtain ⟨hc, hf, hl, hz, -⟩ := kept hb; obtain ⟨hr, hq⟩ := keptR hb; try simp at hz))
    have hE := hE0.tr hb
    have hsW := hs.ext hE
    have l1 := load_bd o (most o ms)
    have l2 := load_bd o (least o ms)
    refine wp_region_later (by kernel_rfl) (by kernel_rfl) ?_; (repeat (go_big_quiet_step (first | (go_at_call 48; exact calls_later (rmost_any o p ms c _ (hsW.ext (later_ext _)) hlen hp)) | (go_at_call 59; exact calls_later (rleast_any o p ms c _ (hsW.ext (later_ext _)) hlen hp)) | (go_at_call 26; exact calls_later (rload_any o _ _))))); refine wpQuiet_nil ?_; intro d
    go_wp2
    go_ret
    exact ⟨ret_i HV.out.symm, hE.tr (later_ext d)⟩

end Go.Proofs.Ytlacidecomflkaa
