/- great, even, shifts: the small functions of law 21. -/
import Derived.Test.YtlacidecomflkaaP18
set_option linter.unusedSimpArgs false
set_option linter.unusedVariables false
namespace Go.Proofs.Ytlacidecomflkaa
open Go.RowKit

theorem great_any (p : Option Addr) (n c : Nat) (w : World) :
    Calls Try.prog 12 #[.slice p n c] w fun e w' => e = .returned (.bool (decide (40 < (n : Int)))) ∧ w = w' := by
  by_cases h : 40 < (n : Int)
  · have e1 := Lib.hid (decide_eq_true h)
    go_enter Try.func12, Try.ntmps12
    go_wp2
    go_ret
    exact ⟨ret_bool e1.out.symm, rfl⟩
  · have e1 := Lib.hid (decide_eq_false h)
    go_enter Try.func12, Try.ntmps12
    go_wp2
    go_ret
    exact ⟨ret_bool e1.out.symm, rfl⟩
/-- The first n buckets are members'. -/
def inN (o : Nat → Int) (ms : List Int) : Nat → Bool
  | 0 => true
  | n + 1 => inN o ms n && ms.any (o n == ·)
theorem inN_no (o : Nat → Int) (ms : List Int) (k : Nat) (h : ms.any (o k == ·) = false) : ∀ n, inN o ms (k + 1 + n) = false
  | 0 => by show inN o ms (k + 1) = false; rw [inN, h]; simp
  | n + 1 => by show inN o ms (k + 1 + n + 1) = false; rw [inN, inN_no o ms k h n]; rfl
def evenP (o : Nat → Int) (ms : List Int) : Bool := rightP o ms && !(ms.length == 0) && inN o ms 16 && decide (spread o ms ≤ 1)

set_option maxRecDepth 20000 in
set_option maxHeartbeats 4000000 in
theorem even_A (o : Nat → Int) (p : Option Addr) (ms : List Int) (c : Nat) (w : World) (hs : Sl w p ms) (hlen : ms.length ≤ 1000) (hcap : ms.length ≤ c) (HR : Hid (rightP o ms = false)) :
    Calls Try.prog 31 #[.agg (ov o), .slice p ms.length c] w fun e w' => e = .returned (.bool false) ∧ Ext w w' := by
  have hE0 : Ext w (w.alloc (.cells (ov o) 22)) := Ext.al (Ext.rf _) _
  go_enter Try.func31, Try.ntmps31
  go_wp2_with (first | (go_at_call 24; (with_reducible refine (rright_any o p ms c _ (hs.ext hE0) hlen).mono ?_); rw [HR.out]; rintro e w' ⟨rfl, hb⟩; obtain ⟨hc, hf, hl, hz, -⟩ := kept hb; obtain ⟨hr, hq⟩ := keptR hb; try simp at hz))
  go_ret
  exact ⟨rfl, hE0.tr hb⟩

set_option maxRecDepth 20000 in
set_option maxHeartbeats 4000000 in
theorem even_B (o : Nat → Int) (p : Option Addr) (ms : List Int) (c : Nat) (w : World) (hs : Sl w p ms) (hlen : ms.length ≤ 1000) (hcap : ms.length ≤ c) (HR : Hid (rightP o ms = true)) (b0 : ((ms.length : Int) == 0) = true) :
    Calls Try.prog 31 #[.agg (ov o), .slice p ms.length c] w fun e w' => e = .returned (.bool false) ∧ Ext w w' := by
  have hE0 : Ext w (w.alloc (.cells (ov o) 22)) := Ext.al (Ext.rf _) _
  go_enter Try.func31, Try.ntmps31
  go_wp2_with (first | (go_at_call 24; (with_reducible refine (rright_any o p ms c _ (hs.ext hE0) hlen).mono ?_); rw [HR.out]; rintro e w' ⟨rfl, hb⟩; obtain ⟨hc, hf, hl, hz, -⟩ := kept hb; obtain ⟨hr, hq⟩ := keptR hb; try simp at hz))
  go_ret
  exact ⟨rfl, hE0.tr hb⟩

set_option maxRecDepth 20000 in
set_option maxHeartbeats 4000000 in
theorem even_C (o : Nat → Int) (p : Option Addr) (ms : List Int) (c : Nat) (w : World) (hs : Sl w p ms) (hlen : ms.length ≤ 1000) (hcap : ms.length ≤ c) (HR : Hid (rightP o ms = true)) (b0 : ((ms.length : Int) == 0) = false) :
    Calls Try.prog 31 #[.agg (ov o), .slice p ms.length c] w fun e w' => e = .returned (.bool (inN o ms 16 && decide (spread o ms ≤ 1))) ∧ Ext w w' := by
  have hE0 : Ext w (w.alloc (.cells (ov o) 22)) := Ext.al (Ext.rf _) _
  go_enter Try.func31, Try.ntmps31
  go_wp2_with (first | (go_at_call 24; (with_reducible refine (rright_any o p ms c _ (hs.ext hE0) hlen).mono ?_); rw [HR.out]; rintro e w' ⟨rfl, hb⟩; obtain ⟨hc, hf, hl, hz, -⟩ := kept hb; obtain ⟨hr, hq⟩ := keptR hb; try simp at hz))
  have hE1 := hE0.tr hb
  have hR1 : rowD w' w.heap.size = ov o := row_ext hb (by simp) (rowD_new _ _ _ _)
  have hL1 : Lt w.heap.size w' := by have := hb.size; simp at this; unfold Lt; omega
  clear hc hf hl hz hr hq hb
  go_loopw [5] (fun v wr => ∃ k : Nat, k ≤ 16 ∧ v = .int .i64 k ∧ inN o ms k = true ∧ rowD wr w.heap.size = ov o ∧ Lt w.heap.size wr ∧ Ext w wr) (fun v _ => 16 - (intOf v).toNat)
  case atStart => exact ⟨0, Nat.zero_le _, rfl, rfl, hR1, hL1, hE1⟩
  case round =>
    obtain ⟨k, hk, rfl, hin, hR, hL, hE⟩ := hrel
    have HI := Lib.hid hin
    clear hin hE1 hR1 hL1
    by_cases hlt : k < 16
    · have hjl : (k : Int) < 16 := by omega
      have hco := cell_row (i := k) hR hlt
      have HRR := Lib.hid hR
      clear hR
      cases hbb : ms.any (o k == ·)
      · have HC := Lib.hid hbb
        have HN := Lib.hid (show inN o ms 16 = false by have := inN_no o ms k hbb (15 - k); rwa [show k + 1 + (15 - k) = 16 by omega] at this)
        clear hbb
        go_wp2_with ((go_at_call 32; (with_reducible refine (rin_any _ p ms c _ (hs.ext hE) hlen).mono ?_); rw [HC.out]; rintro e w' ⟨rfl, rfl⟩))
        go_ret
        exact ⟨ret_bool (by rw [HN.out]; rfl), hE⟩
      · have HC := Lib.hid hbb
        have HN := Lib.hid (show inN o ms (k + 1) = true by rw [inN, HI.out, hbb]; rfl)
        clear hbb
        go_wp2_with ((go_at_call 32; (with_reducible refine (rin_any _ p ms c _ (hs.ext hE) hlen).mono ?_); rw [HC.out]; rintro e w' ⟨rfl, rfl⟩))
        go_roundw
        case rel => exact ⟨k + 1, by omega, by go_num, HN.out, HRR.out, hL, hE⟩
        case measure => simp [intOf]; omega
    · obtain rfl : k = 16 := by omega
      go_wp2_with ((go_at_call 28; (with_reducible refine (rspread_any o p ms c _ (hs.ext hE) hlen hcap).mono ?_); rintro e w4 ⟨rfl, hb4⟩))
      go_ret
      exact ⟨ret_bool (by rw [HI.out]; simp), hE.tr hb4⟩

theorem even_any (o : Nat → Int) (p : Option Addr) (ms : List Int) (c : Nat) (w : World) (hs : Sl w p ms) (hlen : ms.length ≤ 1000) (hcap : ms.length ≤ c) :
    Calls Try.prog 31 #[.agg (ov o), .slice p ms.length c] w fun e w' => e = .returned (.bool (evenP o ms)) ∧ Ext w w' := by
  cases hr : rightP o ms
  · have he : evenP o ms = false := by unfold evenP; rw [hr]; rfl
    rw [he]; exact even_A o p ms c w hs hlen hcap hr
  by_cases h0 : ms.length = 0
  · have he : evenP o ms = false := by unfold evenP; rw [hr, h0]; rfl
    rw [he]; exact even_B o p ms c w hs hlen hcap hr (by rw [beq_iff_eq]; omega)
  · have he : evenP o ms = (inN o ms 16 && decide (spread o ms ≤ 1)) := by
      have hb0 : (ms.length == 0) = false := by rw [beq_eq_false_iff_ne]; exact h0
      unfold evenP; rw [hr, hb0]; simp
    rw [he]; exact even_C o p ms c w hs hlen hcap hr (by rw [beq_eq_false_iff_ne]; omega)

/-- Does each shift a bucket that is so, each once, to who is a member? -/
def shiftsP : List Sh → (Nat → Bool) → List Int → Bool
  | [], _, _ => true
  | s :: r, so, ms => decide (0 ≤ s.b) && decide (s.b < 16) && so s.b.toNat && ms.any (s.t == ·) && shiftsP r (fun i => if i = s.b.toNat then false else so i) ms
theorem shiftsP_at (xs : List Sh) (so : Nat → Bool) (ms : List Int) (k : Nat) (h : k < xs.length) : shiftsP (xs.drop k) so ms = (decide (0 ≤ xs[k].b) && decide (xs[k].b < 16) && so xs[k].b.toNat && ms.any (xs[k].t == ·) && shiftsP (xs.drop (k + 1)) (fun i => if i = xs[k].b.toNat then false else so i) ms) := by
  rw [List.drop_eq_getElem_cons h]; rfl
set_option maxRecDepth 20000 in
set_option maxHeartbeats 4000000 in
theorem shifts_any (q : Option Addr) (xs : List Sh) (d : Nat) (so : Nat → Bool) (p : Option Addr) (ms : List Int) (c : Nat) (w : World) (hx : SlS w q xs) (hxl : xs.length ≤ 1000) (hs : Sl w p ms) (hlen : ms.length ≤ 1000) :
    Calls Try.prog 33 #[.slice q xs.length d, .agg (bv so), .slice p ms.length c] w fun e w' => e = .returned (.bool (shiftsP xs so ms)) ∧ Ext w w' := by
  go_enter Try.func33, Try.ntmps33
  go_wp2
  go_loopw [7] (fun i wr => ∃ (k : Nat) (s2 : Nat → Bool), k ≤ xs.length ∧ i = .int .i64 k ∧ shiftsP xs so ms = shiftsP (xs.drop k) s2 ms ∧ rowD wr w.heap.size = bv s2 ∧ frzD wr w.heap.size = (0, 0) ∧ Lt w.heap.size wr ∧ Ext w wr) (fun i _ => xs.length - (intOf i).toNat)
  case atStart => exact ⟨0, so, Nat.zero_le _, rfl, rfl, by simp [go_sem], by simp [go_sem], by simp [Lt], Ext.al (Ext.rf _) _⟩
  case round =>
    obtain ⟨k, s2, hk, rfl, hP, hR, hZ, hL, hE⟩ := hrel
    by_cases hlt : k < xs.length
    · have i1 : (k : Int) < xs.length := by omega
      have hst := shiftsP_at xs s2 ms k hlt
      obtain ⟨b, off, rfl, hb, c1, c2⟩ := (hx.ext hE) k hlt
      have HR := Lib.hid hR
      clear hR
      generalize xs[k] = x at c1 c2 hst
      obtain ⟨xb, xt⟩ := x
      dsimp only at c1 c2 hst
      rw [← hP] at hst
      have HS := Lib.hid hst
      clear hst hP
      by_cases h0 : 0 ≤ xb
      · by_cases h16 : xb < 16
        · obtain ⟨j, rfl⟩ : ∃ j : Nat, xb = j := ⟨xb.toNat, by omega⟩
          have hj : j < 16 := by omega
          have d0 : decide ((j : Int) < 0) = false := decide_eq_false (by omega)
          have d1 : decide ((16 : Int) ≤ j) = false := decide_eq_false (by omega)
          have d2 : decide (16 ≤ j) = false := decide_eq_false (by omega)
          have hcb := cell_row (i := j) HR.out hj
          have hfr := frozen_of_frz hZ j
          cases hso : s2 j
          · rw [hso] at hcb
            have HF := Lib.hid (show shiftsP xs so ms = false by rw [HS.out]; simp [hso])
            clear hso
            go_wp2
            go_ret
            exact ⟨ret_bool HF.out.symm, hE⟩
          · rw [hso] at hcb
            cases hmm : ms.any (xt == ·)
            · have HF := Lib.hid (show shiftsP xs so ms = false by rw [HS.out, hmm]; simp)
              have HC := Lib.hid hmm
              clear hso hmm
              go_wp2_with (go_at_call 32; (with_reducible refine (rin_any _ p ms c _ (hs.ext hE) hlen).mono ?_); rw [HC.out]; rintro e w' ⟨rfl, rfl⟩)
              go_ret
              exact ⟨ret_bool HF.out.symm, hE⟩
            · have HF := Lib.hid (show shiftsP xs so ms = shiftsP (xs.drop (k + 1)) (fun i => if i = j then false else s2 i) ms by rw [HS.out, hmm]; simp [hso, h16])
              have HC := Lib.hid hmm
              clear hso hmm
              go_wp2_with (go_at_call 32; (with_reducible refine (rin_any _ p ms c _ (hs.ext hE) hlen).mono ?_); rw [HC.out]; rintro e w' ⟨rfl, rfl⟩)
              go_roundw
              case rel => exact ⟨k + 1, _, by omega, by go_num, HF.out, by rw [rowD_setCell, if_pos rfl, HR.out, set_bv], by rw [frzD_setCell]; exact hZ, by rw [Lt_setCell]; exact hL, Ext.st _ (Nat.le_refl _) hE⟩
              case measure => simp [intOf]; omega
        · have HF := Lib.hid (show shiftsP xs so ms = false by rw [HS.out]; simp [h16])
          have d0 : decide (xb < 0) = false := decide_eq_false (by omega)
          have d1 : decide (16 ≤ xb) = true := decide_eq_true (by omega)
          clear h0 h16
          go_wp2
          go_ret
          exact ⟨ret_bool HF.out.symm, hE⟩
      · have HF := Lib.hid (show shiftsP xs so ms = false by rw [HS.out]; simp [h0])
        have d0 : decide (xb < 0) = true := decide_eq_true (by omega)
        clear h0
        go_wp2
        go_ret
        exact ⟨ret_bool HF.out.symm, hE⟩
    · obtain rfl : k = xs.length := by omega
      have HF := Lib.hid (show shiftsP xs so ms = true by rw [hP, List.drop_length]; rfl)
      clear hP
      go_wp2
      go_ret
      exact ⟨ret_bool HF.out.symm, hE⟩

end Go.Proofs.Ytlacidecomflkaa
