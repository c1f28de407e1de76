/- Deaths: All, its rounds. -/
import Derived.Test.YtlacidecomflkaaD9
set_option linter.unusedSimpArgs false
set_option linter.unusedVariables false
namespace Go.Proofs.Ytlacidecomflkaa
open Go.RowKit

theorem deathM_of {m x : Mo} {d a : Int} {D : Bool} (h : (deathM m d a, deathB m d a) = (x, D)) (hD : D = false) : x = m := by
  simp only [Prod.mk.injEq] at h
  rw [← h.1]; exact deathM_no (by rw [h.2]; exact hD)
theorem death_as {m x : Mo} {d a : Int} {D : Bool} (h : (deathM m d a, deathB m d a) = (x, D)) : (Value.tuple #[(deathM m d a).v, .bool (deathB m d a)]) = .tuple #[mo x.ph x.cur x.nxt x.gen x.tick x.ver, .bool D] := by
  simp only [Prod.mk.injEq] at h
  rw [h.1, h.2]
set_option maxRecDepth 100000 in
set_option maxHeartbeats 8000000 in
theorem all_c (l : Nat → Mo) (dead : Int) (p : Option Addr) (ms : List Int) (c : Nat) (w : World) (hph : ∀ i, 0 ≤ (l i).ph) (hs : Sl w p ms) (hlen : ms.length ≤ 1000) (hcap : ms.length ≤ c) (HC : Hid (ms.any (dead == ·) = false)) (HR : Hid (rightP (fun _ => 0) ms = true)) :
    Calls Try.prog 41 #[.agg (lm l), .int .i64 dead, .slice p ms.length c] w fun e w' => e = .returned (.agg (lm (allN l dead ms 16))) ∧ Ext w w' := by
  go_enter Try.func41, Try.ntmps41
  go_upto_region 1 with (fail)
  obtain ⟨W0, hW0⟩ : ∃ W0, (w.alloc (.cells (lm l) 63)).alloc (.cells (lm mz) 63) = W0 := ⟨_, rfl⟩
  have e0 : Ext w W0 := by rw [← hW0]; exact Ext.al (Ext.al (Ext.rf _) _) _
  have s0 := hs.ext e0
  have r : rowD W0 w.heap.size = lm l := by rw [← hW0]; simp [go_sem]
  have z : frzD W0 w.heap.size = (0, 0) := by rw [← hW0]; simp [go_sem]
  have r' : (rowD W0 (w.heap.size + 1)).size = 96 := by rw [← hW0]; simp [go_sem]
  have z' : frzD W0 (w.heap.size + 1) = (0, 0) := by rw [← hW0]; simp [go_sem]
  have lb : Lt w.heap.size W0 := by rw [← hW0]; simp [Lt]; try omega
  have lb' : Lt (w.heap.size + 1) W0 := by rw [← hW0]; simp [Lt]; try omega
  rw [hW0]
  clear hW0
  go_upto_region 3 with (first | (go_at_call 45; (with_reducible refine (contains_any dead p ms c _ s0 hlen).mono ?_); rw [HC.out]; rintro e w' ⟨rfl, rfl⟩) | (go_at_call 23; (with_reducible refine (rightz_any p ms c _ s0 hlen).mono ?_); rw [HR.out]; rintro e W1 ⟨rfl, h1⟩))
  have r := row_ext h1 lb r
  have z : frzD W1 w.heap.size = (0, 0) := by unfold frzD; rw [h1.block _ lb]; exact z
  have r' : (rowD W1 (w.heap.size + 1)).size = 96 := by rw [rowD_same (h1.block _ lb')]; exact r'
  have z' : frzD W1 (w.heap.size + 1) = (0, 0) := by unfold frzD; rw [h1.block _ lb']; exact z'
  have lb : Lt w.heap.size W1 := Nat.lt_of_lt_of_le lb h1.size
  have lb' : Lt (w.heap.size + 1) W1 := Nat.lt_of_lt_of_le lb' h1.size
  have s0 := s0.ext h1
  have e1 := e0.tr h1
  clear e0 h1
  go_wp2
  go_loopw [7, 8, 9, 10, 11, 22] (fun _ _ _ _ _ a wr => ∃ k : Nat, k ≤ 16 ∧ a = .int .i64 k ∧ rowD wr w.heap.size = lm (allN l dead ms k) ∧ frzD wr w.heap.size = (0, 0) ∧ (rowD wr (w.heap.size + 1)).size = 96 ∧ frzD wr (w.heap.size + 1) = (0, 0) ∧ Lt w.heap.size wr ∧ Lt (w.heap.size + 1) wr ∧ Ext w wr) (fun _ _ _ _ _ a _ => 16 - (intOf a).toNat)
  case atStart => exact ⟨0, Nat.zero_le _, rfl, r, z, r', z', lb, lb', e1⟩
  case round =>
    clear r z r' z' lb lb'
    obtain ⟨k, hk, rfl, r, z, r', z', lb, lb', hE⟩ := hrel
    by_cases hlt : k < 16
    · have hjl : (k : Int) < 16 := by omega
      have hLk := allN_ph l dead ms hph k k
      have hnx : allN l dead ms (k + 1) = updM (allN l dead ms k) k (deathM (allN l dead ms k k) dead (whoP (allN l dead ms k) ms)) := rfl
      generalize allN l dead ms k = L at *
      cases hP : pickB (ownersM L) ms
      · have hw : whoP L ms = -1 := by unfold whoP; rw [hP]; rfl
        rw [hw] at hnx
        obtain ⟨⟨x, D⟩, hxD⟩ : ∃ r, (deathM (L k) dead (-1), deathB (L k) dead (-1)) = r := ⟨_, rfl⟩
        have HX := Lib.hid (death_as hxD)
        have HS := Lib.hid (fun h : D = false => deathM_of hxD h)
        rw [show deathM (L k) dead (-1) = x from (Prod.mk.injEq _ _ _ _ ▸ hxD).1] at hnx
        have HNX := Lib.hid hnx
        have HP := Lib.hid hP
        clear hnx hw hxD hP
        go_upto_region 9 with (first | (go_at_call 43; (with_reducible refine (owners_any L _).mono ?_); rintro e w1 ⟨rfl, h1⟩) | (go_at_call 20; (with_reducible refine (pick_any (ownersM L) p ms c _ ((hs.ext hE).ext h1) hlen hcap).mono ?_); rw [HP.out]; rintro e w2 ⟨rfl, h2⟩))
        have r := row_ext (h1.tr h2) lb r
        have z : frzD w2 w.heap.size = (0, 0) := by unfold frzD; rw [(h1.tr h2).block _ lb]; exact z
        have r' : (rowD w2 (w.heap.size + 1)).size = 96 := by rw [rowD_same ((h1.tr h2).block _ lb')]; exact r'
        have z' : frzD w2 (w.heap.size + 1) = (0, 0) := by unfold frzD; rw [(h1.tr h2).block _ lb']; exact z'
        have lb : Lt w.heap.size w2 := Nat.lt_of_lt_of_le lb (h1.tr h2).size
        have lb' : Lt (w.heap.size + 1) w2 := Nat.lt_of_lt_of_le lb' (h1.tr h2).size
        have hE2 := hE.tr (h1.tr h2)
        clear hE h1 h2
        obtain ⟨c0, c1, c2, c3, c4, c5⟩ := cells_row r k hlt
        go_upto_region 10 with (go_at_call 35; (with_reducible refine (death_any (L k) dead (-1) _ hLk).mono ?_); rw [HX.out]; rintro e w3 ⟨rfl, h3⟩)
        obtain ⟨W4, hW4⟩ : ∃ W4, w3.alloc (.cells #[.int .u8 x.ph, .int .i64 x.cur, .int .i64 x.nxt, .int .i64 x.gen, .int .i64 x.tick, .int .i64 x.ver] 48) = W4 := ⟨_, rfl⟩
        rw [hW4]
        have h4 : Ext w2 W4 := by rw [← hW4]; exact Ext.al h3 _
        have hmx : MoAt W4 w3.heap.size x := by rw [← hW4]; unfold MoAt; simp [go_sem, Lt]
        clear hW4 h3 c0 c1 c2 c3 c4 c5
        generalize w3.heap.size = BX at *
        have r := row_ext h4 lb r
        have z : frzD W4 w.heap.size = (0, 0) := by unfold frzD; rw [h4.block _ lb]; exact z
        have r' : (rowD W4 (w.heap.size + 1)).size = 96 := by rw [rowD_same (h4.block _ lb')]; exact r'
        have z' : frzD W4 (w.heap.size + 1) = (0, 0) := by unfold frzD; rw [h4.block _ lb']; exact z'
        have lb : Lt w.heap.size W4 := Nat.lt_of_lt_of_le lb h4.size
        have lb' : Lt (w.heap.size + 1) W4 := Nat.lt_of_lt_of_le lb' h4.size
        have hE4 := hE2.tr h4
        obtain ⟨c0, c1, c2, c3, c4, c5⟩ := cells_row r k hlt
        obtain ⟨x0, x1, x2, x3, x4, x5⟩ := hmx.cells
        have lx : Lt BX W4 := hmx.2
        clear hE2 h4
        cases hb : D
        · have hN : updM L k x = L := by rw [HS.out hb]; exact updM_self L k
          have HN := Lib.hid hN
          clear hN
          refine wp_region_later (by kernel_rfl) (by kernel_rfl) ?_; (repeat (go_big_quiet_step (fail))); refine wpQuiet_nil ?_; intro d
          have h5 := later_ext d
          generalize later d = W5 at *
          clear c0 c1 c2 c3 c4 c5 x0 x1 x2 x3 x4 x5 hmx
          have r := row_ext h5 lb r
          have z : frzD W5 w.heap.size = (0, 0) := by unfold frzD; rw [h5.block _ lb]; exact z
          have r' : (rowD W5 (w.heap.size + 1)).size = 96 := by rw [rowD_same (h5.block _ lb')]; exact r'
          have z' : frzD W5 (w.heap.size + 1) = (0, 0) := by unfold frzD; rw [h5.block _ lb']; exact z'
          have lb : Lt w.heap.size W5 := Nat.lt_of_lt_of_le lb h5.size
          have lb' : Lt (w.heap.size + 1) W5 := Nat.lt_of_lt_of_le lb' h5.size
          have hE5 := hE4.tr h5
          go_wp2_with (fail)
          go_roundw
          case rel => exact ⟨k + 1, by omega, by go_num, by rw [HNX.out, HN.out]; exact r, z, r', z', lb, lb', hE5⟩
          case measure => simp [intOf]; omega
        · cases hq : (x.ph == (L k).ph && x.cur == (L k).cur && x.nxt == (L k).nxt && x.gen == (L k).gen && x.tick == (L k).tick && x.ver == (L k).ver)
          · refine wp_region_later (by kernel_rfl) (by kernel_rfl) ?_; (repeat (go_big_quiet_step (fail))); refine wpQuiet_nil ?_; intro d
            have h5 := later_ext d
            generalize later d = W5 at *
            have hmx := hmx.ext h5
            clear c0 c1 c2 c3 c4 c5 x0 x1 x2 x3 x4 x5 lx
            have r := row_ext h5 lb r
            have z : frzD W5 w.heap.size = (0, 0) := by unfold frzD; rw [h5.block _ lb]; exact z
            have r' : (rowD W5 (w.heap.size + 1)).size = 96 := by rw [rowD_same (h5.block _ lb')]; exact r'
            have z' : frzD W5 (w.heap.size + 1) = (0, 0) := by unfold frzD; rw [h5.block _ lb']; exact z'
            have lb : Lt w.heap.size W5 := Nat.lt_of_lt_of_le lb h5.size
            have lb' : Lt (w.heap.size + 1) W5 := Nat.lt_of_lt_of_le lb' h5.size
            have hE5 := hE4.tr h5
            obtain ⟨x0, x1, x2, x3, x4, x5⟩ := hmx.cells
            have lx : Lt BX W5 := hmx.2
            obtain ⟨c0, c1, c2, c3, c4, c5⟩ := cells_row r k hlt
            have f0 := frozen_of_frz z (k * 6)
            have f1 := frozen_of_frz z (k * 6 + 1)
            have f2 := frozen_of_frz z (k * 6 + 2)
            have f3 := frozen_of_frz z (k * 6 + 3)
            have f4 := frozen_of_frz z (k * 6 + 4)
            have f5 := frozen_of_frz z (k * 6 + 5)
            have HR5 := Lib.hid r
            have HRR := Lib.hid r'
            have HZ5 := Lib.hid z
            have HZZ := Lib.hid z'
            clear r r' z z' hmx
            go_wp2_with (fail)
            go_roundw
            case rel =>
              refine ⟨k + 1, by omega, by go_num, by rw [HNX.out]; exact row_six HR5.out hlt, by simp only [frzD_setCell]; exact HZ5.out, ?_, by simp only [frzD_setCell]; exact HZZ.out, by simp only [Lt_setCell]; exact lb, by simp only [Lt_setCell]; exact lb', ?_⟩
              · simp only [rowD_setCell]; rw [if_neg (by omega), if_neg (by omega), if_neg (by omega), if_neg (by omega), if_neg (by omega), if_neg (by omega)]; exact HRR.out
              · exact Ext.st _ (Nat.le_refl _) (Ext.st _ (Nat.le_refl _) (Ext.st _ (Nat.le_refl _) (Ext.st _ (Nat.le_refl _) (Ext.st _ (Nat.le_refl _) (Ext.st _ (Nat.le_refl _) hE5)))))
            case measure => simp [intOf]; omega
          · have hN : updM L k x = L := by
              have hxe : x = L k := by
                simp only [Bool.and_eq_true, beq_iff_eq] at hq
                obtain ⟨⟨⟨⟨⟨a0, a1⟩, a2⟩, a3⟩, a4⟩, a5⟩ := hq
                cases x; cases hLL : L k
                simp_all
              rw [hxe]; exact updM_self L k
            have HN := Lib.hid hN
            clear hN
            refine wp_region_later (by kernel_rfl) (by kernel_rfl) ?_; (repeat (go_big_quiet_step (fail))); refine wpQuiet_nil ?_; intro d
            have h5 := later_ext d
            generalize later d = W5 at *
            clear c0 c1 c2 c3 c4 c5 x0 x1 x2 x3 x4 x5 hmx
            have r := row_ext h5 lb r
            have z : frzD W5 w.heap.size = (0, 0) := by unfold frzD; rw [h5.block _ lb]; exact z
            have r' : (rowD W5 (w.heap.size + 1)).size = 96 := by rw [rowD_same (h5.block _ lb')]; exact r'
            have z' : frzD W5 (w.heap.size + 1) = (0, 0) := by unfold frzD; rw [h5.block _ lb']; exact z'
            have lb : Lt w.heap.size W5 := Nat.lt_of_lt_of_le lb h5.size
            have lb' : Lt (w.heap.size + 1) W5 := Nat.lt_of_lt_of_le lb' h5.size
            have hE5 := hE4.tr h5
            go_wp2_with (fail)
            go_roundw
            case rel => exact ⟨k + 1, by omega, by go_num, by rw [HNX.out, HN.out]; exact r, z, r', z', lb, lb', hE5⟩
            case measure => simp [intOf]; omega

      · have hw : whoP L ms = pick (ownersM L) ms := by unfold whoP; rw [hP]; rfl
        rw [hw] at hnx
        obtain ⟨y, hy⟩ : ∃ y, pick (ownersM L) ms = y := ⟨_, rfl⟩
        rw [hy] at hnx hw
        have HY := Lib.hid hy
        obtain ⟨⟨x, D⟩, hxD⟩ : ∃ r, (deathM (L k) dead y, deathB (L k) dead y) = r := ⟨_, rfl⟩
        have HX := Lib.hid (death_as hxD)
        have HS := Lib.hid (fun h : D = false => deathM_of hxD h)
        rw [show deathM (L k) dead y = x from (Prod.mk.injEq _ _ _ _ ▸ hxD).1] at hnx
        have HNX := Lib.hid hnx
        have HP := Lib.hid hP
        clear hnx hw hxD hP hy
        go_upto_region 9 with (first | (go_at_call 43; (with_reducible refine (owners_any L _).mono ?_); rintro e w1 ⟨rfl, h1⟩) | (go_at_call 20; (with_reducible refine (pick_any (ownersM L) p ms c _ ((hs.ext hE).ext h1) hlen hcap).mono ?_); rw [HP.out, HY.out]; rintro e w2 ⟨rfl, h2⟩))
        have r := row_ext (h1.tr h2) lb r
        have z : frzD w2 w.heap.size = (0, 0) := by unfold frzD; rw [(h1.tr h2).block _ lb]; exact z
        have r' : (rowD w2 (w.heap.size + 1)).size = 96 := by rw [rowD_same ((h1.tr h2).block _ lb')]; exact r'
        have z' : frzD w2 (w.heap.size + 1) = (0, 0) := by unfold frzD; rw [(h1.tr h2).block _ lb']; exact z'
        have lb : Lt w.heap.size w2 := Nat.lt_of_lt_of_le lb (h1.tr h2).size
        have lb' : Lt (w.heap.size + 1) w2 := Nat.lt_of_lt_of_le lb' (h1.tr h2).size
        have hE2 := hE.tr (h1.tr h2)
        clear hE h1 h2
        obtain ⟨c0, c1, c2, c3, c4, c5⟩ := cells_row r k hlt
        go_upto_region 10 with (go_at_call 35; (with_reducible refine (death_any (L k) dead y _ hLk).mono ?_); rw [HX.out]; rintro e w3 ⟨rfl, h3⟩)
        obtain ⟨W4, hW4⟩ : ∃ W4, w3.alloc (.cells #[.int .u8 x.ph, .int .i64 x.cur, .int .i64 x.nxt, .int .i64 x.gen, .int .i64 x.tick, .int .i64 x.ver] 48) = W4 := ⟨_, rfl⟩
        rw [hW4]
        have h4 : Ext w2 W4 := by rw [← hW4]; exact Ext.al h3 _
        have hmx : MoAt W4 w3.heap.size x := by rw [← hW4]; unfold MoAt; simp [go_sem, Lt]
        clear hW4 h3 c0 c1 c2 c3 c4 c5
        generalize w3.heap.size = BX at *
        have r := row_ext h4 lb r
        have z : frzD W4 w.heap.size = (0, 0) := by unfold frzD; rw [h4.block _ lb]; exact z
        have r' : (rowD W4 (w.heap.size + 1)).size = 96 := by rw [rowD_same (h4.block _ lb')]; exact r'
        have z' : frzD W4 (w.heap.size + 1) = (0, 0) := by unfold frzD; rw [h4.block _ lb']; exact z'
        have lb : Lt w.heap.size W4 := Nat.lt_of_lt_of_le lb h4.size
        have lb' : Lt (w.heap.size + 1) W4 := Nat.lt_of_lt_of_le lb' h4.size
        have hE4 := hE2.tr h4
        obtain ⟨c0, c1, c2, c3, c4, c5⟩ := cells_row r k hlt
        obtain ⟨x0, x1, x2, x3, x4, x5⟩ := hmx.cells
        have lx : Lt BX W4 := hmx.2
        clear hE2 h4
        cases hb : D
        · have hN : updM L k x = L := by rw [HS.out hb]; exact updM_self L k
          have HN := Lib.hid hN
          clear hN
          refine wp_region_later (by kernel_rfl) (by kernel_rfl) ?_; (repeat (go_big_quiet_step (fail))); refine wpQuiet_nil ?_; intro d
          have h5 := later_ext d
          generalize later d = W5 at *
          clear c0 c1 c2 c3 c4 c5 x0 x1 x2 x3 x4 x5 hmx
          have r := row_ext h5 lb r
          have z : frzD W5 w.heap.size = (0, 0) := by unfold frzD; rw [h5.block _ lb]; exact z
          have r' : (rowD W5 (w.heap.size + 1)).size = 96 := by rw [rowD_same (h5.block _ lb')]; exact r'
          have z' : frzD W5 (w.heap.size + 1) = (0, 0) := by unfold frzD; rw [h5.block _ lb']; exact z'
          have lb : Lt w.heap.size W5 := Nat.lt_of_lt_of_le lb h5.size
          have lb' : Lt (w.heap.size + 1) W5 := Nat.lt_of_lt_of_le lb' h5.size
          have hE5 := hE4.tr h5
          go_wp2_with (fail)
          go_roundw
          case rel => exact ⟨k + 1, by omega, by go_num, by rw [HNX.out, HN.out]; exact r, z, r', z', lb, lb', hE5⟩
          case measure => simp [intOf]; omega
        · cases hq : (x.ph == (L k).ph && x.cur == (L k).cur && x.nxt == (L k).nxt && x.gen == (L k).gen && x.tick == (L k).tick && x.ver == (L k).ver)
          · refine wp_region_later (by kernel_rfl) (by kernel_rfl) ?_; (repeat (go_big_quiet_step (fail))); refine wpQuiet_nil ?_; intro d
            have h5 := later_ext d
            generalize later d = W5 at *
            have hmx := hmx.ext h5
            clear c0 c1 c2 c3 c4 c5 x0 x1 x2 x3 x4 x5 lx
            have r := row_ext h5 lb r
            have z : frzD W5 w.heap.size = (0, 0) := by unfold frzD; rw [h5.block _ lb]; exact z
            have r' : (rowD W5 (w.heap.size + 1)).size = 96 := by rw [rowD_same (h5.block _ lb')]; exact r'
            have z' : frzD W5 (w.heap.size + 1) = (0, 0) := by unfold frzD; rw [h5.block _ lb']; exact z'
            have lb : Lt w.heap.size W5 := Nat.lt_of_lt_of_le lb h5.size
            have lb' : Lt (w.heap.size + 1) W5 := Nat.lt_of_lt_of_le lb' h5.size
            have hE5 := hE4.tr h5
            obtain ⟨x0, x1, x2, x3, x4, x5⟩ := hmx.cells
            have lx : Lt BX W5 := hmx.2
            obtain ⟨c0, c1, c2, c3, c4, c5⟩ := cells_row r k hlt
            have f0 := frozen_of_frz z (k * 6)
            have f1 := frozen_of_frz z (k * 6 + 1)
            have f2 := frozen_of_frz z (k * 6 + 2)
            have f3 := frozen_of_frz z (k * 6 + 3)
            have f4 := frozen_of_frz z (k * 6 + 4)
            have f5 := frozen_of_frz z (k * 6 + 5)
            have HR5 := Lib.hid r
            have HRR := Lib.hid r'
            have HZ5 := Lib.hid z
            have HZZ := Lib.hid z'
            clear r r' z z' hmx
            go_wp2_with (fail)
            go_roundw
            case rel =>
              refine ⟨k + 1, by omega, by go_num, by rw [HNX.out]; exact row_six HR5.out hlt, by simp only [frzD_setCell]; exact HZ5.out, ?_, by simp only [frzD_setCell]; exact HZZ.out, by simp only [Lt_setCell]; exact lb, by simp only [Lt_setCell]; exact lb', ?_⟩
              · simp only [rowD_setCell]; rw [if_neg (by omega), if_neg (by omega), if_neg (by omega), if_neg (by omega), if_neg (by omega), if_neg (by omega)]; exact HRR.out
              · exact Ext.st _ (Nat.le_refl _) (Ext.st _ (Nat.le_refl _) (Ext.st _ (Nat.le_refl _) (Ext.st _ (Nat.le_refl _) (Ext.st _ (Nat.le_refl _) (Ext.st _ (Nat.le_refl _) hE5)))))
            case measure => simp [intOf]; omega
          · have hN : updM L k x = L := by
              have hxe : x = L k := by
                simp only [Bool.and_eq_true, beq_iff_eq] at hq
                obtain ⟨⟨⟨⟨⟨a0, a1⟩, a2⟩, a3⟩, a4⟩, a5⟩ := hq
                cases x; cases hLL : L k
                simp_all
              rw [hxe]; exact updM_self L k
            have HN := Lib.hid hN
            clear hN
            refine wp_region_later (by kernel_rfl) (by kernel_rfl) ?_; (repeat (go_big_quiet_step (fail))); refine wpQuiet_nil ?_; intro d
            have h5 := later_ext d
            generalize later d = W5 at *
            clear c0 c1 c2 c3 c4 c5 x0 x1 x2 x3 x4 x5 hmx
            have r := row_ext h5 lb r
            have z : frzD W5 w.heap.size = (0, 0) := by unfold frzD; rw [h5.block _ lb]; exact z
            have r' : (rowD W5 (w.heap.size + 1)).size = 96 := by rw [rowD_same (h5.block _ lb')]; exact r'
            have z' : frzD W5 (w.heap.size + 1) = (0, 0) := by unfold frzD; rw [h5.block _ lb']; exact z'
            have lb : Lt w.heap.size W5 := Nat.lt_of_lt_of_le lb h5.size
            have lb' : Lt (w.heap.size + 1) W5 := Nat.lt_of_lt_of_le lb' h5.size
            have hE5 := hE4.tr h5
            go_wp2_with (fail)
            go_roundw
            case rel => exact ⟨k + 1, by omega, by go_num, by rw [HNX.out, HN.out]; exact r, z, r', z', lb, lb', hE5⟩
            case measure => simp [intOf]; omega

    · obtain rfl : k = 16 := by omega
      go_wp2
      refine bodyPost_ret (v := .agg (lm (allN l dead ms 16))) ?_ rfl ⟨rfl, ?_⟩
      · refine results_of rfl _ _ (w.heap.size + 1) rfl ?_
        rw [loadVar_mov (by simp [go_sem, r'])]; simp [go_sem, r']
      · exact Ext.sr _ (by omega) hE

end Go.Proofs.Ytlacidecomflkaa
