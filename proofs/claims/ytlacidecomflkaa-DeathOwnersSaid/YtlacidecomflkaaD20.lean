/- DeathOwners: the loops. -/
import Derived.Test.YtlacidecomflkaaD19
set_option linter.unusedSimpArgs false
set_option linter.unusedVariables false
namespace Go.Proofs.Ytlacidecomflkaa
open Go.ChangeShapes Go.WideShapes Go.ChangeAt Go.RowKit

attribute [local go_sem] beq_self_eq_true
theorem all_one (L : Nat → Mo) (n left : Int) (W : World) (hph : ∀ i, 0 ≤ (L i).ph) :
    Calls Try.prog 41 #[.agg (lm L), .int .i64 n, .slice (some ⟨W.heap.size, 0, none⟩) 1 1] (W.alloc (.cells #[.int .i64 left] 3)) fun e w' => e = .returned (.agg (lm (allM L n [left]))) ∧ Ext (W.alloc (.cells #[.int .i64 left] 3)) w' :=
  all_any L n _ [left] 1 _ hph (sl_lit1 left _ W) (by simp) (by simp)
theorem boxo_own (X : World) (o : Nat → Int) : Ext X (setRow (X.alloc (.cells #[.int .i64 0, .int .i64 0, .int .i64 0, .int .i64 0, .int .i64 0, .int .i64 0, .int .i64 0, .int .i64 0, .int .i64 0, .int .i64 0, .int .i64 0, .int .i64 0, .int .i64 0, .int .i64 0, .int .i64 0, .int .i64 0] 22)) X.heap.size (ov o)) ∧ rowD (setRow (X.alloc (.cells #[.int .i64 0, .int .i64 0, .int .i64 0, .int .i64 0, .int .i64 0, .int .i64 0, .int .i64 0, .int .i64 0, .int .i64 0, .int .i64 0, .int .i64 0, .int .i64 0, .int .i64 0, .int .i64 0, .int .i64 0, .int .i64 0] 22)) X.heap.size (ov o)) X.heap.size = ov o ∧ X.heap.size < (setRow (X.alloc (.cells #[.int .i64 0, .int .i64 0, .int .i64 0, .int .i64 0, .int .i64 0, .int .i64 0, .int .i64 0, .int .i64 0, .int .i64 0, .int .i64 0, .int .i64 0, .int .i64 0, .int .i64 0, .int .i64 0, .int .i64 0, .int .i64 0] 22)) X.heap.size (ov o)).heap.size :=
  ⟨Ext.sr _ (Nat.le_refl _) (Ext.al (Ext.rf _) _), rowD_setRow_same _ _ _ (by rw [rowD_new]; simp), by rw [size_setRow]; simp⟩
theorem frz_ext {W w' : World} {b : Nat} {x : Nat × Nat} (h : Ext W w') (hb : Lt b W) (hz : frzD W b = x) : frzD w' b = x := by
  unfold frzD at hz ⊢
  rw [h.block b hb]; exact hz
theorem runN_eq (l : Nat → Mo) (left : Int) (j : Nat) (h : ((j : Int) == left) = true) : runN l left (j + 1) = runN l left j := by rw [runN, if_pos (by simpa using h)]
theorem runN_ne (l : Nat → Mo) (left : Int) (j : Nat) (h : ((j : Int) == left) = false) : runN l left (j + 1) = allM (runN l left j) j [left] := by rw [runN, if_neg (by simpa using h)]
theorem rowD_setRow_ne (w : World) (b b' : Nat) (cs : Array Value) (h : b' ≠ b) : rowD (setRow w b cs) b' = rowD w b' := rowD_same (heap_setRow w b cs b' h)

set_option maxRecDepth 100000 in
set_option maxHeartbeats 8000000 in
theorem deathOwners_M (l : Nat → Mo) (left : Int) (w : World) (hph : ∀ i, 0 ≤ (l i).ph) (d0 : decide (left < 0) = false) (d6 : decide (6 ≤ left) = false) (HG : Hid (∀ i, i < 16 → (l i).right = true ∧ (l i).gen ≤ 1000)) (HLAW : Hid (∀ i, i < 16 → ownersM (runN l left 6) i = left ∨ ownersM l i = -1 ∧ ownersM (runN l left 6) i = -1)) :
    Calls Try.prog 11 #[.agg (lm l), .int .i64 left] w fun e w' => e = .returned (.bool true) ∧ Ext w w' := by
  go_enter Try.func11, Try.ntmps11
  go_upto_region 1 with (fail)
  obtain ⟨W0, hW0⟩ : ∃ W0, w.alloc (.cells (lm l) 63) = W0 := ⟨_, rfl⟩
  have e0 : Ext w W0 := by rw [← hW0]; exact Ext.al (Ext.rf _) _
  have r : rowD W0 w.heap.size = lm l := by rw [← hW0]; simp [go_sem]
  have z : frzD W0 w.heap.size = (0, 0) := by rw [← hW0]; simp [go_sem]
  have lb : Lt w.heap.size W0 := by rw [← hW0]; simp [Lt]
  rw [hW0]
  clear hW0
  go_wp2
  go_loopw [5] (fun a wr => ∃ i : Nat, i ≤ 16 ∧ a = .int .i64 i ∧ Ext W0 wr) (fun a _ => 16 - (intOf a).toNat)
  case atStart => exact ⟨0, Nat.zero_le _, rfl, Ext.rf _⟩
  case round =>
    obtain ⟨i, hi, rfl, hE⟩ := hrel
    have hli := hph i
    by_cases hlt : i < 16
    · have hli16 : i < 16 := hlt
      have hil : (i : Int) < 16 := by omega
      obtain ⟨hrt, hg⟩ := HG.out i hlt
      have hg' : decide (1000 < (l i).gen) = false := decide_eq_false (by omega)
      have HRT := Lib.hid hrt
      clear hrt hg
      have rw_ := row_ext hE lb r
      have lbw : Lt w.heap.size wr := Nat.lt_of_lt_of_le lb hE.size
      obtain ⟨c0, c1, c2, c3, c4, c5⟩ := cells_row rw_ i hli16
      go_wp2_with (go_at_call 36; (with_reducible refine (rright22_any (l i) _ hli).mono ?_); rw [HRT.out]; rintro e w1 ⟨rfl, g1⟩; obtain ⟨hc1, hf1, hl1, hz1, -⟩ := kept g1; (try simp at hz1))
      go_roundw
      case rel => exact ⟨i + 1, by omega, by go_num, hE.tr g1⟩
      case measure => simp [intOf]; omega
    · obtain rfl : i = 16 := by omega
      have h1 := hE
      obtain ⟨W1, rfl⟩ : ∃ W1, wr = W1 := ⟨_, rfl⟩
      have z : frzD wr w.heap.size = (0, 0) := by unfold frzD; rw [h1.block _ lb]; exact z
      have r := row_ext h1 lb r
      have lb : Lt w.heap.size wr := Nat.lt_of_lt_of_le lb h1.size
      have e1 := e0.tr h1
      clear hE hi hlt h1 hli HG
      go_upto_region 9 with (go_at_call 43; (with_reducible refine (owners_any l _).mono ?_); rintro e X2 ⟨rfl, h2⟩)
      obtain ⟨W2, hV⟩ : ∃ V, setRow (X2.alloc (.cells #[Value.int IntKind.i64 0, Value.int IntKind.i64 0, Value.int IntKind.i64 0, Value.int IntKind.i64 0, Value.int IntKind.i64 0, Value.int IntKind.i64 0, Value.int IntKind.i64 0, Value.int IntKind.i64 0, Value.int IntKind.i64 0, Value.int IntKind.i64 0, Value.int IntKind.i64 0, Value.int IntKind.i64 0, Value.int IntKind.i64 0, Value.int IntKind.i64 0, Value.int IntKind.i64 0, Value.int IntKind.i64 0] 22)) X2.heap.size (ov (ownersM l)) = V := ⟨_, rfl⟩
      obtain ⟨gV, rp, lp⟩ : Ext X2 W2 ∧ rowD W2 X2.heap.size = ov (ownersM l) ∧ X2.heap.size < W2.heap.size := by rw [← hV]; exact boxo_own X2 (ownersM l)
      rw [hV]
      clear hV
      have X2G : wr.heap.size ≤ X2.heap.size := h2.size
      have lbx : w.heap.size < wr.heap.size := lb
      have h2 : Ext wr W2 := h2.tr gV
      have z : frzD W2 w.heap.size = (0, 0) := by unfold frzD; rw [h2.block _ lb]; exact z
      have r := row_ext h2 lb r
      have lb : Lt w.heap.size W2 := Nat.lt_of_lt_of_le lb h2.size
      have e2 := e1.tr h2
      have lp : Lt X2.heap.size W2 := lp
      have hne : X2.heap.size ≠ w.heap.size := by omega
      clear gV h2 e1 X2G lbx
      generalize X2.heap.size = BP at *
      go_wp2
      go_loopw [7] (fun a wr => ∃ i : Nat, i ≤ 16 ∧ a = .int .i64 i ∧ Ext W2 wr) (fun a _ => 16 - (intOf a).toNat)
      case atStart => exact ⟨0, Nat.zero_le _, rfl, Ext.rf _⟩
      case round =>
        obtain ⟨i, hi, rfl, hE⟩ := hrel
        by_cases hlt : i < 16
        · have hil : (i : Int) < 16 := by omega
          have r2 := row_ext hE lb r
          have rp2 := row_ext hE lp rp
          have lb2 : Lt w.heap.size wr := Nat.lt_of_lt_of_le lb hE.size
          have lp2 : Lt BP wr := Nat.lt_of_lt_of_le lp hE.size
          obtain ⟨c0, c1, c2, c3, c4, c5⟩ := cells_row r2 i hlt
          have ci := cell_row (i := i) rp2 hlt
          have hO : ownersM l i = if (l i).nxt = -1 then (l i).cur else (l i).nxt := rfl
          cases q3 : ((l i).nxt == -1)
          · have q1 : ((l i).nxt != -1) = true := by rw [bne, q3]; rfl
            have q2 : (ownersM l i != (l i).nxt) = false := by rw [hO, if_neg (by simpa using q3)]; simp
            clear hO
            go_wp2_with (fail)
            refine wp_region_later (by kernel_rfl) (by kernel_rfl) ?_; (repeat (go_big_quiet_step (fail))); refine wpQuiet_nil ?_; intro d
            have hd := later_ext d
            generalize later d = w5 at *
            go_wp2
            go_roundw
            case rel => exact ⟨i + 1, by omega, by go_num, hE.tr hd⟩
            case measure => simp [intOf]; omega
          · have q1 : ((l i).nxt != -1) = false := by rw [bne, q3]; rfl
            have q4 : (ownersM l i != (l i).cur) = false := by rw [hO, if_pos (by simpa using q3)]; simp
            clear hO
            go_wp2_with (fail)
            refine wp_region_later (by kernel_rfl) (by kernel_rfl) ?_; (repeat (go_big_quiet_step (fail))); refine wpQuiet_nil ?_; intro d
            have hd := later_ext d
            generalize later d = w5 at *
            go_wp2
            go_roundw
            case rel => exact ⟨i + 1, by omega, by go_num, hE.tr hd⟩
            case measure => simp [intOf]; omega
        · obtain rfl : i = 16 := by omega
          rw [show ((16 : Nat) : Int) = 16 from rfl]
          have h3 := hE
          obtain ⟨W3, rfl⟩ : ∃ W3, wr = W3 := ⟨_, rfl⟩
          have z : frzD wr w.heap.size = (0, 0) := by unfold frzD; rw [h3.block _ lb]; exact z
          have r := row_ext h3 lb r
          have lb : Lt w.heap.size wr := Nat.lt_of_lt_of_le lb h3.size
          have rp := row_ext h3 lp rp
          have lp : Lt BP wr := Nat.lt_of_lt_of_le lp h3.size
          have e3 := e2.tr h3
          clear hE hi hlt h3 e2
          go_wp2
          go_loopw [8] (fun a wq => ∃ k : Nat, k ≤ 6 ∧ a = .int .i64 k ∧ rowD wq w.heap.size = lm (runN l left k) ∧ frzD wq w.heap.size = (0, 0) ∧ rowD wq BP = ov (ownersM l) ∧ Lt w.heap.size wq ∧ Lt BP wq ∧ Ext w wq) (fun a _ => 6 - (intOf a).toNat)
          case atStart => exact ⟨0, Nat.zero_le _, rfl, r, z, rp, lb, lp, e3⟩
          case round =>
            clear r z rp lb lp e3
            obtain ⟨k, hk, rfl, r, z, rp, lb, lp, hE⟩ := hrel
            by_cases hlt : k < 6
            · have hkl : (k : Int) < 6 := by omega
              have hpk := runN_ph l left hph k
              cases q : ((k : Int) == left)
              · have qn : ((k : Int) != left) = true := by rw [bne, q]; rfl
                have HRN := Lib.hid (runN_ne l left k q)
                generalize runN l left k = L at *
                go_wp2_with (go_at_call 41; (with_reducible refine (all_one L _ left _ hpk).mono ?_); rintro e w6 ⟨rfl, g6⟩; have g7 := (Ext.al (Ext.rf _) _).tr g6; have r6 := row_ext g7 lb r; have z6 := frz_ext g7 lb z; have rp6 := row_ext g7 lp rp; have lb6 : Lt w.heap.size w6 := Nat.lt_of_lt_of_le lb g7.size; have lp6 : Lt BP w6 := Nat.lt_of_lt_of_le lp g7.size; have hE6 := hE.tr g7; clear r z rp lb lp hE g6 g7)
                go_roundw
                case rel => exact ⟨k + 1, by omega, by go_num, by rw [HRN.out]; exact rowD_setRow_same _ _ _ (by rw [r6]; simp), by rw [frzD_setRow]; exact z6, by rw [rowD_setRow_ne _ _ _ _ hne]; exact rp6, by rw [Lt_setRow]; exact lb6, by rw [Lt_setRow]; exact lp6, Ext.sr _ (Nat.le_refl _) hE6⟩
                case measure => simp [intOf]; omega
              · have qn : ((k : Int) != left) = false := by rw [bne, q]; rfl
                have HRN := Lib.hid (runN_eq l left k q)
                generalize runN l left k = L at *
                go_wp2_with (fail)
                go_roundw
                case rel => exact ⟨k + 1, by omega, by go_num, by rw [HRN.out]; exact r, z, rp, lb, lp, hE⟩
                case measure => simp [intOf]; omega
            · obtain rfl : k = 6 := by omega
              rw [show ((6 : Nat) : Int) = 6 from rfl]
              have HLW := HLAW
              clear HLAW
              obtain ⟨L, hL⟩ : ∃ L, runN l left 6 = L := ⟨_, rfl⟩
              rw [hL] at r HLW
              clear hL hk hlt
              go_upto_region 20 with (go_at_call 43; (with_reducible refine (owners_any L _).mono ?_); rintro e X4 ⟨rfl, h4⟩)
              obtain ⟨W4, hV⟩ : ∃ V, setRow (X4.alloc (.cells #[Value.int IntKind.i64 0, Value.int IntKind.i64 0, Value.int IntKind.i64 0, Value.int IntKind.i64 0, Value.int IntKind.i64 0, Value.int IntKind.i64 0, Value.int IntKind.i64 0, Value.int IntKind.i64 0, Value.int IntKind.i64 0, Value.int IntKind.i64 0, Value.int IntKind.i64 0, Value.int IntKind.i64 0, Value.int IntKind.i64 0, Value.int IntKind.i64 0, Value.int IntKind.i64 0, Value.int IntKind.i64 0] 22)) X4.heap.size (ov (ownersM L)) = V := ⟨_, rfl⟩
              obtain ⟨gV, rq, lq⟩ : Ext X4 W4 ∧ rowD W4 X4.heap.size = ov (ownersM L) ∧ X4.heap.size < W4.heap.size := by rw [← hV]; exact boxo_own X4 (ownersM L)
              rw [hV]
              clear hV
              have h4 := h4.tr gV
              have lq : Lt X4.heap.size W4 := lq
              have rp := row_ext h4 lp rp
              have lp : Lt BP W4 := Nat.lt_of_lt_of_le lp h4.size
              have e4 := hE.tr h4
              clear gV h4 r z lb hE
              generalize X4.heap.size = BQ at *
              go_wp2
              go_loopw [10] (fun a wr => ∃ i : Nat, i ≤ 16 ∧ a = .int .i64 i ∧ Ext W4 wr) (fun a _ => 16 - (intOf a).toNat)
              case atStart => exact ⟨0, Nat.zero_le _, rfl, Ext.rf _⟩
              case round =>
                obtain ⟨i, hi, rfl, hE⟩ := hrel
                by_cases hlt : i < 16
                · have hil : (i : Int) < 16 := by omega
                  have rp2 := row_ext hE lp rp
                  have rq2 := row_ext hE lq rq
                  have lp2 : Lt BP wr := Nat.lt_of_lt_of_le lp hE.size
                  have lq2 : Lt BQ wr := Nat.lt_of_lt_of_le lq hE.size
                  have ci := cell_row (i := i) rp2 hlt
                  have co := cell_row (i := i) rq2 hlt
                  cases q : (ownersM L i == left)
                  · have q1 : (ownersM L i != left) = true := by rw [bne, q]; rfl
                    have hlw := (HLW.out i hlt).resolve_left (by simpa using q)
                    have q2 : (ownersM l i != -1) = false := by rw [hlw.1]; rfl
                    have q3 : (ownersM L i != -1) = false := by rw [hlw.2]; rfl
                    clear hlw
                    go_wp2_with (fail)
                    go_roundw
                    case rel => exact ⟨i + 1, by omega, by go_num, hE⟩
                    case measure => simp [intOf]; omega
                  · have q1 : (ownersM L i != left) = false := by rw [bne, q]; rfl
                    go_wp2_with (fail)
                    go_roundw
                    case rel => exact ⟨i + 1, by omega, by go_num, hE⟩
                    case measure => simp [intOf]; omega
                · obtain rfl : i = 16 := by omega
                  go_wp2_with (go_at_call 37; (with_reducible refine (dwakes_any _).mono ?_); rintro e w' ⟨rfl, hb⟩; obtain ⟨hc, hf, hl, hz, -⟩ := kept hb; (try simp at hz))
                  go_ret
                  exact ⟨rfl, (e4.tr hE).tr hb⟩

end Go.Proofs.Ytlacidecomflkaa
