/- What the document says of deaths: wakes of law 23 returns true. -/
import Derived.Test.YtlacidecomflkaaD11
set_option linter.unusedSimpArgs false
set_option linter.unusedVariables false
namespace Go.Proofs.Ytlacidecomflkaa
open Go.RowKit

def lk (k : Nat) : Nat → Mo := fun i => if i < k then l0 i else mz i
theorem lk_zero : lk 0 = mz := by funext i; unfold lk; simp
theorem lk_all : lm (lk 16) = lm l0 := lm_congr _ _ fun i hi => by unfold lk; rw [if_pos hi]
theorem lk_step (k : Nat) : updM (lk k) k ⟨1, (k : Int).tmod 2, -1, 1, 0, 0⟩ = lk (k + 1) := by
  funext i
  unfold updM lk
  split
  · rename_i h; rw [h, if_pos (by omega)]; rfl
  · by_cases h : i < k
    · rw [if_pos h, if_pos (by omega)]
    · rw [if_neg h, if_neg (by omega)]
set_option maxRecDepth 100000 in
set_option maxHeartbeats 8000000 in
theorem dwakes_any (w : World) :
    Calls Try.prog 37 #[] w fun e w' => e = .returned (.bool true) ∧ Ext w w' := by
  go_enter Try.func37, Try.ntmps37
  go_upto_region 2 with (first | (go_at_call 67; (with_reducible refine (window_any _).mono ?_); rintro e U1 ⟨rfl, g1⟩) | (go_at_call 35; (with_reducible refine (wd1 _).mono ?_); rintro e U2 ⟨rfl, g2⟩))
  obtain ⟨W1, hW⟩ : ∃ W1, U2.alloc (.cells #[.int .u8 2, .int .i64 1, .int .i64 3, .int .i64 5, .int .i64 9, .int .i64 0] 48) = W1 := ⟨_, rfl⟩
  rw [hW]
  have h1 : Ext w W1 := by rw [← hW]; exact Ext.al (g1.tr g2) _
  have m1 : MoAt W1 U2.heap.size (⟨2, 1, 3, 5, 9, 0⟩ : Mo) := by rw [← hW]; unfold MoAt; simp [go_sem, Lt]
  have e1 : Ext w W1 := h1
  clear hW g1 g2 h1
  generalize U2.heap.size = B1 at *
  go_upto_region 3 with (first | (go_at_call 67; (with_reducible refine (window_any _).mono ?_); rintro e U1 ⟨rfl, g1⟩) | (go_at_call 35; (with_reducible refine (wd2 _).mono ?_); rintro e U2 ⟨rfl, g2⟩))
  obtain ⟨W2, hW⟩ : ∃ W2, U2.alloc (.cells #[.int .u8 6, .int .i64 (-1), .int .i64 2, .int .i64 5, .int .i64 9, .int .i64 0] 48) = W2 := ⟨_, rfl⟩
  rw [hW]
  have h2 : Ext W1 W2 := by rw [← hW]; exact Ext.al (g1.tr g2) _
  have m2 : MoAt W2 U2.heap.size (⟨6, (-1), 2, 5, 9, 0⟩ : Mo) := by rw [← hW]; unfold MoAt; simp [go_sem, Lt]
  have e2 : Ext w W2 := e1.tr h2
  have m1 := m1.ext h2
  clear hW g1 g2 h2 e1
  generalize U2.heap.size = B2 at *
  go_upto_region 4 with (first | (go_at_call 67; (with_reducible refine (window_any _).mono ?_); rintro e U1 ⟨rfl, g1⟩) | (go_at_call 35; (with_reducible refine (wd3 _).mono ?_); rintro e U2 ⟨rfl, g2⟩))
  obtain ⟨W3, hW⟩ : ∃ W3, U2.alloc (.cells #[.int .u8 6, .int .i64 (-1), .int .i64 1, .int .i64 5, .int .i64 9, .int .i64 0] 48) = W3 := ⟨_, rfl⟩
  rw [hW]
  have h3 : Ext W2 W3 := by rw [← hW]; exact Ext.al (g1.tr g2) _
  have m3 : MoAt W3 U2.heap.size (⟨6, (-1), 1, 5, 9, 0⟩ : Mo) := by rw [← hW]; unfold MoAt; simp [go_sem, Lt]
  have e3 : Ext w W3 := e2.tr h3
  have m1 := m1.ext h3
  have m2 := m2.ext h3
  clear hW g1 g2 h3 e2
  generalize U2.heap.size = B3 at *
  go_upto_region 5 with (first | (go_at_call 67; (with_reducible refine (window_any _).mono ?_); rintro e U1 ⟨rfl, g1⟩) | (go_at_call 35; (with_reducible refine (wd4 _).mono ?_); rintro e U2 ⟨rfl, g2⟩))
  obtain ⟨W4, hW⟩ : ∃ W4, U2.alloc (.cells #[.int .u8 4, .int .i64 1, .int .i64 2, .int .i64 4, .int .i64 9, .int .i64 0] 48) = W4 := ⟨_, rfl⟩
  rw [hW]
  have h4 : Ext W3 W4 := by rw [← hW]; exact Ext.al (g1.tr g2) _
  have m4 : MoAt W4 U2.heap.size (⟨4, 1, 2, 4, 9, 0⟩ : Mo) := by rw [← hW]; unfold MoAt; simp [go_sem, Lt]
  have e4 : Ext w W4 := e3.tr h4
  have m1 := m1.ext h4
  have m2 := m2.ext h4
  have m3 := m3.ext h4
  clear hW g1 g2 h4 e3
  generalize U2.heap.size = B4 at *
  go_upto_region 6 with (first | (go_at_call 67; (with_reducible refine (window_any _).mono ?_); rintro e U1 ⟨rfl, g1⟩) | (go_at_call 35; (with_reducible refine (wd5 _).mono ?_); rintro e U2 ⟨rfl, g2⟩))
  obtain ⟨W5, hW⟩ : ∃ W5, U2.alloc (.cells #[.int .u8 4, .int .i64 1, .int .i64 2, .int .i64 4, .int .i64 9, .int .i64 0] 48) = W5 := ⟨_, rfl⟩
  rw [hW]
  have h5 : Ext W4 W5 := by rw [← hW]; exact Ext.al (g1.tr g2) _
  have m5 : MoAt W5 U2.heap.size (⟨4, 1, 2, 4, 9, 0⟩ : Mo) := by rw [← hW]; unfold MoAt; simp [go_sem, Lt]
  have e5 : Ext w W5 := e4.tr h5
  have m1 := m1.ext h5
  have m2 := m2.ext h5
  have m3 := m3.ext h5
  clear hW g1 g2 h5 e4
  generalize U2.heap.size = B5 at *
  go_upto_region 7 with ((go_at_call 35; (with_reducible refine (wd6 _).mono ?_); rintro e U2 ⟨rfl, g2⟩))
  obtain ⟨W6, hW⟩ : ∃ W6, U2.alloc (.cells #[.int .u8 0, .int .i64 (-1), .int .i64 (-1), .int .i64 4, .int .i64 0, .int .i64 0] 48) = W6 := ⟨_, rfl⟩
  rw [hW]
  have h6 : Ext W5 W6 := by rw [← hW]; exact Ext.al g2 _
  have m6 : MoAt W6 U2.heap.size (⟨0, (-1), (-1), 4, 0, 0⟩ : Mo) := by rw [← hW]; unfold MoAt; simp [go_sem, Lt]
  have e6 : Ext w W6 := e5.tr h6
  have m1 := m1.ext h6
  have m2 := m2.ext h6
  have m3 := m3.ext h6
  clear hW g2 h6 e5
  generalize U2.heap.size = B6 at *
  obtain ⟨c0, c1, c2, c3, c4, c5⟩ := m6.cells
  have l6 : Lt B6 W6 := m6.2
  go_upto_region 8 with ((go_at_call 68; (with_reducible refine (wf _).mono ?_); rintro e U2 ⟨rfl, g2⟩))
  obtain ⟨W7, hW⟩ : ∃ W7, U2.alloc (.cells #[.int .u8 6, .int .i64 (-1), .int .i64 5, .int .i64 5, .int .i64 0, .int .i64 0] 48) = W7 := ⟨_, rfl⟩
  rw [hW]
  have h7 : Ext W6 W7 := by rw [← hW]; exact Ext.al g2 _
  have m7 : MoAt W7 U2.heap.size (⟨6, (-1), 5, 5, 0, 0⟩ : Mo) := by rw [← hW]; unfold MoAt; simp [go_sem, Lt]
  have e7 : Ext w W7 := e6.tr h7
  have m1 := m1.ext h7
  have m2 := m2.ext h7
  have m3 := m3.ext h7
  have m6 := m6.ext h7
  clear c0 c1 c2 c3 c4 c5 l6
  clear hW g2 h7 e6
  generalize U2.heap.size = B7 at *
  go_wp2
  go_loopw [16] (fun a wr => ∃ k : Nat, k ≤ 16 ∧ a = .int .i64 k ∧ rowD wr W7.heap.size = lm (lk k) ∧ frzD wr W7.heap.size = (0, 0) ∧ Lt W7.heap.size wr ∧ Ext W7 wr) (fun a _ => 16 - (intOf a).toNat)
  case atStart => exact ⟨0, Nat.zero_le _, rfl, by rw [lk_zero]; simp [go_sem], by simp [go_sem], by simp [Lt], Ext.al (Ext.rf _) _⟩
  case round =>
    obtain ⟨k, hk, rfl, r, z, lb, hE⟩ := hrel
    by_cases hlt : k < 16
    · have hjl : (k : Int) < 16 := by omega
      obtain ⟨c0, c1, c2, c3, c4, c5⟩ := cells_row r k hlt
      have f0 := frozen_of_frz z (k * 6)
      have f1 := frozen_of_frz z (k * 6 + 1)
      have f2 := frozen_of_frz z (k * 6 + 2)
      have f3 := frozen_of_frz z (k * 6 + 3)
      have f4 := frozen_of_frz z (k * 6 + 4)
      have f5 := frozen_of_frz z (k * 6 + 5)
      have HR := Lib.hid r
      have HZ := Lib.hid z
      clear r z
      clear m1 m2 m3 m6 m7
      go_wp2
      go_roundw
      case rel =>
        refine ⟨k + 1, by omega, by go_num, ?_, by simp only [frzD_setCell]; exact HZ.out, by simp only [Lt_setCell]; exact lb, ?_⟩
        · rw [← lk_step]; exact row_six (x := ⟨1, (k : Int).tmod 2, -1, 1, 0, 0⟩) HR.out hlt
        · exact Ext.st _ (Nat.le_refl _) (Ext.st _ (Nat.le_refl _) (Ext.st _ (Nat.le_refl _) (Ext.st _ (Nat.le_refl _) (Ext.st _ (Nat.le_refl _) (Ext.st _ (Nat.le_refl _) hE)))))
      case measure => simp [intOf]; omega
    · obtain rfl : k = 16 := by omega
      rw [lk_all] at r
      have m1 := m1.ext hE
      have m2 := m2.ext hE
      have m3 := m3.ext hE
      have m6 := m6.ext hE
      have m7 := m7.ext hE
      have h0 := o0_0
      have h1 := o0_1
      have HA := Lib.hid wall
      have HO := Lib.hid wowners
      have HLd := Lib.hid wload
      generalize o0 = O at *
      generalize allM l0 1 [0, 3] = L1 at *
      generalize l0 = L0 at *
      go_upto_region 14 with (first | (go_at_call 41; (with_reducible refine (HA.out _ _).mono ?_); rintro e U1 ⟨rfl, g1⟩) | (go_at_call 43; (with_reducible refine (HO.out _).mono ?_); rintro e U2 ⟨rfl, g2⟩))
      obtain ⟨W8, hW⟩ : ∃ W8, setRow (U2.alloc (.cells #[.int .i64 0, .int .i64 0, .int .i64 0, .int .i64 0, .int .i64 0, .int .i64 0, .int .i64 0, .int .i64 0, .int .i64 0, .int .i64 0, .int .i64 0, .int .i64 0, .int .i64 0, .int .i64 0, .int .i64 0, .int .i64 0] 22)) U2.heap.size (ov O) = W8 := ⟨_, rfl⟩
      rw [hW]
      have h8 : Ext wr W8 := by rw [← hW]; exact Ext.sr _ (by have := g1.size; have := g2.size; simp at *; omega) (Ext.al ((Ext.al (Ext.rf _) _).tr (g1.tr g2)) _)
      have rO : rowD W8 U2.heap.size = ov O := by rw [← hW]; exact rowD_setRow_same _ _ _ (by rw [rowD_new]; simp)
      have lO : Lt U2.heap.size W8 := by unfold Lt; rw [← hW, size_setRow]; simp
      have e8 : Ext w W8 := (e7.tr hE).tr h8
      have m1 := m1.ext h8
      have m2 := m2.ext h8
      have m3 := m3.ext h8
      have m6 := m6.ext h8
      have m7 := m7.ext h8
      clear hW g1 g2 h8 hE e7
      generalize U2.heap.size = BO at *
      generalize W7.heap.size = BL at *
      obtain ⟨c10, c11, c12, c13, c14, c15⟩ := m1.cells
      have l1 : Lt B1 W8 := m1.2
      obtain ⟨c20, c21, c22, c23, c24, c25⟩ := m2.cells
      have l2 : Lt B2 W8 := m2.2
      obtain ⟨c30, c31, c32, c33, c34, c35⟩ := m3.cells
      have l3 : Lt B3 W8 := m3.2
      obtain ⟨c60, c61, c62, c63, c64, c65⟩ := m6.cells
      have l6 : Lt B6 W8 := m6.2
      obtain ⟨c70, c71, c72, c73, c74, c75⟩ := m7.cells
      have l7 : Lt B7 W8 := m7.2
      have k0 := cell_row (i := 0) rO (by omega)
      have k1 := cell_row (i := 1) rO (by omega)
      rw [h0] at k0
      rw [h1] at k1
      clear m1 m2 m3 m6 m7 r z lb HA HO h0 h1
      go_wp2_with (first | (go_at_call 67; (with_reducible refine (window_any _).mono ?_); rintro e w' ⟨rfl, g⟩; obtain ⟨hc, hf, hl, hz, -⟩ := kept g; obtain ⟨hr, hq⟩ := keptR g; (try simp at hz)) | (go_at_call 42; (first | (with_reducible refine (wof1 _).mono ?_) | (with_reducible refine (wof0 _).mono ?_)); rintro e w' ⟨rfl, g⟩; obtain ⟨hc, hf, hl, hz, -⟩ := kept g; obtain ⟨hr, hq⟩ := keptR g; (try simp at hz)) | (go_at_call 26; (with_reducible refine (HLd.out _).mono ?_); rintro e w' ⟨rfl, g⟩; obtain ⟨hc, hf, hl, hz, -⟩ := kept g; obtain ⟨hr, hq⟩ := keptR g; (try simp at hz)))
      go_ret
      refine ⟨rfl, ?_⟩
      (repeat (first | with_reducible exact Ext.rf _ | with_reducible assumption | with_reducible refine Ext.al ?_ _ | with_reducible refine Ext.dr ?_ | with_reducible refine Ext.dn ?_ _ | ((with_reducible refine Ext.st _ ?_ ?_); focus (first | omega | (simp; omega) | simp)) | with_reducible refine Ext.tr ?_ (by assumption) | with_reducible refine Ext.tr ?_ (up_ext (by assumption)) | with_reducible refine Ext.of (by assumption) ?_))

end Go.Proofs.Ytlacidecomflkaa
