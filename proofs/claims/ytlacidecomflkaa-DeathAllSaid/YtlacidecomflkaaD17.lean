/- DeathAll: the loops. -/
import Derived.Test.YtlacidecomflkaaD16
set_option linter.unusedSimpArgs false
set_option linter.unusedVariables false
namespace Go.Proofs.Ytlacidecomflkaa
open Go.ChangeShapes Go.WideShapes Go.ChangeAt Go.RowKit

attribute [local go_sem] beq_self_eq_true
def kI : Nat → Int
  | 0 => -1
  | j + 1 => j

set_option maxRecDepth 100000 in
set_option maxHeartbeats 8000000 in
theorem deathAll_D (l : Nat → Mo) (dead : Int) (p : Option Addr) (ms : List Int) (c : Nat) (w : World) (hph : ∀ i, 0 ≤ (l i).ph) (hs : Sl w p ms) (hcap : ms.length ≤ c) (h40 : decide (40 < (ms.length : Int)) = false) (hlen : ms.length ≤ 1000) (O : Nat → Mo) (HO : Hid (allM l dead ms = O)) (HOA : Hid (∀ i, allN l dead ms 16 i = O i)) (HR : Hid (rightP (fun _ => 0) ms = true)) (HC : Hid (ms.any (dead == ·) = false)) (HST : Hid (∀ i, i < 16 → (ofM (l i) dead && (l i).right) = false → O i = l i)) (HLW : Hid (∀ i, i < 16 → ofM (l i) dead = true → (l i).right = true → someN l dead ms i (ms.length + 1) = true ∧ ofM (O i) dead = false)) :
    Calls Try.prog 10 #[.agg (lm l), .int .i64 dead, .slice p ms.length c] w fun e w' => e = .returned (.bool true) ∧ Ext w w' := by
  go_enter Try.func10, Try.ntmps10
  go_upto_region 2 with (fail)
  obtain ⟨W0, hW0⟩ : ∃ W0, (w.alloc (.cells (lm l) 63)).alloc (.cells #[.int .i64 0, .int .i64 0, .int .i64 0, .int .i64 0, .int .i64 0, .int .i64 0, .int .i64 0, .int .i64 0, .int .i64 0, .int .i64 0, .int .i64 0, .int .i64 0, .int .i64 0, .int .i64 0, .int .i64 0, .int .i64 0] 22) = W0 := ⟨_, rfl⟩
  have e0 : Ext w W0 := by rw [← hW0]; exact Ext.al (Ext.al (Ext.rf _) _) _
  have s0 := hs.ext e0
  have r : rowD W0 w.heap.size = lm l := by rw [← hW0]; simp [go_sem]
  have rz : rowD W0 (w.heap.size + 1) = ov (fun _ => 0) := by rw [← hW0, ← zeros16]; simp [go_sem]
  have lb : Lt w.heap.size W0 := by rw [← hW0]; simp [Lt]; try omega
  have lz : Lt (w.heap.size + 1) W0 := by rw [← hW0]; simp [Lt]; try omega
  rw [hW0]
  clear hW0 hs
  go_upto_region 5 with (go_at_call 41; (with_reducible refine (all_any l dead p ms c _ hph s0 hlen hcap).mono ?_); rw [HO.out]; rintro e X4 ⟨rfl, h4⟩)
  obtain ⟨W4, hV⟩ : ∃ V, setRow (X4.alloc (.cells (lm mz) 63)) X4.heap.size (lm O) = V := ⟨_, rfl⟩
  obtain ⟨gV, rO, lO⟩ : Ext X4 W4 ∧ rowD W4 X4.heap.size = lm O ∧ Lt X4.heap.size W4 := by rw [← hV]; exact boxm_own X4 O
  rw [hV]
  clear hV
  have h4 : Ext W0 W4 := h4.tr gV
  have s0 := s0.ext h4
  have r := row_ext h4 lb r
  have lb : Lt w.heap.size W4 := Nat.lt_of_lt_of_le lb h4.size
  have rz := row_ext h4 lz rz
  have lz : Lt (w.heap.size + 1) W4 := Nat.lt_of_lt_of_le lz h4.size
  have e4 := e0.tr h4
  clear gV e0 h4
  generalize X4.heap.size = BO at *
  go_upto_region 7 with (first | (go_at_call 24; (with_reducible refine (rright_any (fun _ => 0) p ms c _ s0 hlen).mono ?_); rw [HR.out]; rintro e W5 ⟨rfl, h5⟩) | (go_at_call 32; (with_reducible refine (rin_any dead p ms c _ (s0.ext h5) hlen).mono ?_); rw [HC.out]; rintro e w' ⟨rfl, rfl⟩))
  have s0 := s0.ext h5
  have r := row_ext h5 lb r
  have lb : Lt w.heap.size W5 := Nat.lt_of_lt_of_le lb h5.size
  have rO := row_ext h5 lO rO
  have lO : Lt BO W5 := Nat.lt_of_lt_of_le lO h5.size
  have e5 := e4.tr h5
  clear e4 h5 rz lz
  go_wp2
  go_loopw [9, 10, 11, 12, 13, 14] (fun a _ _ _ _ _ wr => ∃ i : Nat, i ≤ 16 ∧ a = .int .i64 i ∧ Ext W5 wr) (fun a _ _ _ _ _ _ => 16 - (intOf a).toNat)
  case atStart => exact ⟨0, Nat.zero_le _, rfl, Ext.rf _⟩
  case round =>
    obtain ⟨i, hi, rfl, hE⟩ := hrel
    by_cases hlt : i < 16
    · have hil : (i : Int) < 16 := by omega
      have rw_ := row_ext hE lb r
      have rOw := row_ext hE lO rO
      have lbw : Lt w.heap.size wr := Nat.lt_of_lt_of_le lb hE.size
      have lOw : Lt BO wr := Nat.lt_of_lt_of_le lO hE.size
      obtain ⟨c0, c1, c2, c3, c4, c5⟩ := cells_row rw_ i hlt
      have hli := hph i
      cases hof : ofM (l i) dead
      · have HOF := Lib.hid hof
        clear hof
        have hN : O i = l i := HST.out i hlt (by rw [HOF.out]; rfl)
        have HN := Lib.hid hN
        go_upto_region 11 with (first | (go_at_call 42; (with_reducible refine (of_any (l i) dead _).mono ?_); rw [HOF.out]; rintro e w1 ⟨rfl, g1⟩; obtain ⟨hc1, hf1, hl1, hz1, -⟩ := kept g1; (try simp at hz1)))
        have hE2 := hE.tr g1
        have g12 := g1
        have r2 := row_ext g12 lbw rw_
        have rO2 := row_ext g12 lOw rOw
        have lb2 : Lt w.heap.size w1 := Nat.lt_of_lt_of_le lbw g12.size
        have lO2 : Lt BO w1 := Nat.lt_of_lt_of_le lOw g12.size
        clear c0 c1 c2 c3 c4 c5 hc1 hf1 hl1 hz1
        obtain ⟨c0, c1, c2, c3, c4, c5⟩ := cells_row r2 i hlt
        obtain ⟨o0, o1, o2, o3, o4, o5⟩ := cells_row rO2 i hlt
        rw [HN.out] at o0 o1 o2 o3 o4 o5
        refine wp_region_later (by kernel_rfl) (by kernel_rfl) ?_; (repeat (go_big_quiet_step (fail))); refine wpQuiet_nil ?_; intro d
        have hd := later_ext d
        generalize later d = w5 at *
        go_wp2
        go_roundw
        case rel => exact ⟨i + 1, by omega, by go_num, hE2.tr hd⟩
        case measure => simp [intOf]; omega
      · cases hrt : (l i).right
        · have HOF := Lib.hid hof
          have HRT := Lib.hid hrt
          clear hof hrt
          have hN : O i = l i := HST.out i hlt (by rw [HOF.out, HRT.out]; rfl)
          have HN := Lib.hid hN
          go_upto_region 11 with (first | (go_at_call 42; (with_reducible refine (of_any (l i) dead _).mono ?_); rw [HOF.out]; rintro e w1 ⟨rfl, g1⟩; obtain ⟨hc1, hf1, hl1, hz1, -⟩ := kept g1; (try simp at hz1)) | (go_at_call 36; (with_reducible refine (rright22_any (l i) _ hli).mono ?_); rw [HRT.out]; rintro e w2 ⟨rfl, g2⟩; obtain ⟨hc2, hf2, hl2, hz2, -⟩ := kept g2; (try simp at hz2)))
          have hE2 := (hE.tr g1).tr g2
          have g12 := g1.tr g2
          have r2 := row_ext g12 lbw rw_
          have rO2 := row_ext g12 lOw rOw
          have lb2 : Lt w.heap.size w2 := Nat.lt_of_lt_of_le lbw g12.size
          have lO2 : Lt BO w2 := Nat.lt_of_lt_of_le lOw g12.size
          clear c0 c1 c2 c3 c4 c5 hc1 hf1 hl1 hz1 hc2 hf2 hl2 hz2
          obtain ⟨c0, c1, c2, c3, c4, c5⟩ := cells_row r2 i hlt
          obtain ⟨o0, o1, o2, o3, o4, o5⟩ := cells_row rO2 i hlt
          rw [HN.out] at o0 o1 o2 o3 o4 o5
          refine wp_region_later (by kernel_rfl) (by kernel_rfl) ?_; (repeat (go_big_quiet_step (fail))); refine wpQuiet_nil ?_; intro d
          have hd := later_ext d
          generalize later d = w5 at *
          go_wp2
          go_roundw
          case rel => exact ⟨i + 1, by omega, by go_num, hE2.tr hd⟩
          case measure => simp [intOf]; omega
        · obtain ⟨hsm, hoo⟩ := HLW.out i hlt hof hrt
          have HSME := Lib.hid hsm
          have HOO := Lib.hid hoo
          have HOF := Lib.hid hof
          have HRT := Lib.hid hrt
          clear hof hrt hsm hoo
          go_upto_region 13 with (first | (go_at_call 42; (with_reducible refine (of_any (l i) dead _).mono ?_); rw [HOF.out]; rintro e w1 ⟨rfl, g1⟩; obtain ⟨hc1, hf1, hl1, hz1, -⟩ := kept g1; (try simp at hz1)) | (go_at_call 36; (with_reducible refine (rright22_any (l i) _ hli).mono ?_); rw [HRT.out]; rintro e w2 ⟨rfl, g2⟩; obtain ⟨hc2, hf2, hl2, hz2, -⟩ := kept g2; (try simp at hz2)))
          have hE2 := (hE.tr g1).tr g2
          have g12 := g1.tr g2
          have s1 := s0.ext hE2
          have r2 := row_ext g12 lbw rw_
          have rO2 := row_ext g12 lOw rOw
          have lb2 : Lt w.heap.size w2 := Nat.lt_of_lt_of_le lbw g12.size
          have lO2 : Lt BO w2 := Nat.lt_of_lt_of_le lOw g12.size
          clear c0 c1 c2 c3 c4 c5 hc1 hf1 hl1 hz1 hc2 hf2 hl2 hz2 hE g1 g2 g12 rw_ rOw lbw lOw
          go_wp2
          go_loopw [10, 11, 12, 13, 14] (fun b a _ _ _ wr => ∃ j : Nat, j ≤ ms.length + 1 ∧ b = .bool (someN l dead ms i j) ∧ a = .int .i64 (kI j) ∧ Ext w2 wr) (fun _ a _ _ _ _ => ((ms.length : Int) - intOf a).toNat)
          case atStart => exact ⟨0, Nat.zero_le _, rfl, rfl, Ext.rf _⟩
          case round =>
            obtain ⟨j, hj, rfl, rfl, hEj⟩ := hrel
            have s2 := s1.ext hEj
            have ri := row_ext hEj lb2 r2
            have rOi := row_ext hEj lO2 rO2
            have lbi : Lt w.heap.size wr := Nat.lt_of_lt_of_le lb2 hEj.size
            have lOi : Lt BO wr := Nat.lt_of_lt_of_le lO2 hEj.size
            have hEi := hEj
            clear hEj
            by_cases hjl : j < ms.length + 1
            · obtain ⟨c0, c1, c2, c3, c4, c5⟩ := cells_row ri i hlt
              rcases j with _ | jj
              · have hkk : kI 0 = -1 := rfl
                rw [hkk]
                have hneg : (-1 : Int) < (ms.length : Int) := by omega
                have hpk : pk ms 0 = -1 := rfl
                obtain ⟨⟨x, D⟩, hxD⟩ : ∃ r, (deathM (l i) dead (-1), deathB (l i) dead (-1)) = r := ⟨_, rfl⟩
                have HX := Lib.hid (death_as hxD)
                have hxe : deathM (l i) dead (-1) = x := (Prod.mk.injEq _ _ _ _ ▸ hxD).1
                have HXE := Lib.hid hxe
                have HPK := Lib.hid hpk
                clear hxD hxe hpk
                go_upto_region 21 with (go_at_call 35; (with_reducible refine (death_any (l i) dead (-1) _ hli).mono ?_); rw [HX.out]; rintro e w3 ⟨rfl, g3⟩)
                obtain ⟨W3, hW3⟩ : ∃ W3, w3.alloc (.cells #[.int .u8 x.ph, .int .i64 x.cur, .int .i64 x.nxt, .int .i64 x.gen, .int .i64 x.tick, .int .i64 x.ver] 48) = W3 := ⟨_, rfl⟩
                rw [hW3]
                have g5 : Ext wr W3 := by rw [← hW3]; exact Ext.al g3 _
                have hmx : MoAt W3 w3.heap.size x := by rw [← hW3]; unfold MoAt; simp [go_sem, Lt]
                clear hW3 g3
                generalize w3.heap.size = BX at *
                have hE3 := hEi.tr g5
                have s3 := s2.ext g5
                have r3 := row_ext g5 lbi ri
                have rO3 := row_ext g5 lOi rOi
                have lb3 : Lt w.heap.size W3 := Nat.lt_of_lt_of_le lbi g5.size
                have lO3 : Lt BO W3 := Nat.lt_of_lt_of_le lOi g5.size
                clear c0 c1 c2 c3 c4 c5 g5 
                obtain ⟨o0, o1, o2, o3, o4, o5⟩ := cells_row rO3 i hlt
                obtain ⟨x0, x1, x2, x3, x4, x5⟩ := hmx.cells
                have lx : Lt BX W3 := hmx.2
                clear hmx
                cases hS : someN l dead ms i 0
                · cases hQ : (x.ph == (O i).ph && x.cur == (O i).cur && x.nxt == (O i).nxt && x.gen == (O i).gen && x.tick == (O i).tick && x.ver == (O i).ver)
                  · have hsome : someN l dead ms i (0 + 1) = false := by unfold someN someP; rw [hS, HPK.out, HXE.out, HOA.out]; unfold eqM; rw [hQ]; rfl
                    have HSM := Lib.hid hsome
                    clear hsome
                    refine wp_region_later (by kernel_rfl) (by kernel_rfl) ?_; (repeat (go_big_quiet_step (first | (go_at_call 43; exact calls_later (owners_any l _)) | (go_at_call 24; exact calls_later (rright_any (ownersM l) _ ms c _ (s3.ext (later_ext _)) hlen))))); refine wpQuiet_nil ?_; intro d
                    have hd := later_ext d
                    generalize later d = w5 at *
                    go_wp2
                    go_roundw
                    case rel => exact ⟨0 + 1, by omega, by rw [HSM.out], rfl, hE3.tr hd⟩
                    case measure => first | (simp [intOf]; done) | (simp [intOf]; omega) | (simp [intOf, kI]; omega)

                  · cases hZ : ((ms.length : Int) == 0)
                    · cases hRv : rightP (ownersM l) ms
                      · have hsome : someN l dead ms i (0 + 1) = true := by unfold someN someP; rw [hS, HPK.out, HXE.out, HOA.out, hRv]; unfold eqM; rw [hQ]; simp
                        have HRV := Lib.hid hRv
                        have HSM := Lib.hid hsome
                        clear hsome
                        refine wp_region_later (by kernel_rfl) (by kernel_rfl) ?_; (repeat (go_big_quiet_step (first | (go_at_call 43; exact calls_later (owners_any l _)) | (go_at_call 24; exact calls_later (rright_any (ownersM l) _ ms c _ (s3.ext (later_ext _)) hlen))))); refine wpQuiet_nil ?_; intro d
                        have hd := later_ext d
                        generalize later d = w5 at *
                        go_wp2
                        go_roundw
                        case rel => exact ⟨0 + 1, by omega, by rw [HSM.out], rfl, hE3.tr hd⟩
                        case measure => first | (simp [intOf]; done) | (simp [intOf]; omega) | (simp [intOf, kI]; omega)
                      · have hsome : someN l dead ms i (0 + 1) = false := by
                          have hz : decide (ms.length = 0) = false := decide_eq_false (by intro e; rw [e] at hZ; simp at hZ)
                          unfold someN someP; rw [hS, HPK.out, HXE.out, HOA.out, hRv, hz]; simp
                        have HSM := Lib.hid hsome
                        clear hsome
                        refine wp_region_later (by kernel_rfl) (by kernel_rfl) ?_; (repeat (go_big_quiet_step (first | (go_at_call 43; exact calls_later (owners_any l _)) | (go_at_call 24; exact calls_later (rright_any (ownersM l) _ ms c _ (s3.ext (later_ext _)) hlen))))); refine wpQuiet_nil ?_; intro d
                        have hd := later_ext d
                        generalize later d = w5 at *
                        go_wp2
                        go_roundw
                        case rel => exact ⟨0 + 1, by omega, by rw [HSM.out], rfl, hE3.tr hd⟩
                        case measure => first | (simp [intOf]; done) | (simp [intOf]; omega) | (simp [intOf, kI]; omega)
                    · have hsome : someN l dead ms i (0 + 1) = true := by
                        have hz : decide (ms.length = 0) = true := decide_eq_true (by simpa using hZ)
                        unfold someN someP; rw [hS, HPK.out, HXE.out, HOA.out, hz]; unfold eqM; rw [hQ]; simp
                      have HSM := Lib.hid hsome
                      clear hsome
                      refine wp_region_later (by kernel_rfl) (by kernel_rfl) ?_; (repeat (go_big_quiet_step (first | (go_at_call 43; exact calls_later (owners_any l _)) | (go_at_call 24; exact calls_later (rright_any (ownersM l) _ ms c _ (s3.ext (later_ext _)) hlen))))); refine wpQuiet_nil ?_; intro d
                      have hd := later_ext d
                      generalize later d = w5 at *
                      go_wp2
                      go_roundw
                      case rel => exact ⟨0 + 1, by omega, by rw [HSM.out], rfl, hE3.tr hd⟩
                      case measure => first | (simp [intOf]; done) | (simp [intOf]; omega) | (simp [intOf, kI]; omega)
                · have hsome : someN l dead ms i (0 + 1) = true := by unfold someN; rw [hS]; rfl
                  have HSM := Lib.hid hsome
                  clear hsome
                  refine wp_region_later (by kernel_rfl) (by kernel_rfl) ?_; (repeat (go_big_quiet_step (first | (go_at_call 43; exact calls_later (owners_any l _)) | (go_at_call 24; exact calls_later (rright_any (ownersM l) _ ms c _ (s3.ext (later_ext _)) hlen))))); refine wpQuiet_nil ?_; intro d
                  have hd := later_ext d
                  generalize later d = w5 at *
                  go_wp2
                  go_roundw
                  case rel => exact ⟨0 + 1, by omega, by rw [HSM.out], rfl, hE3.tr hd⟩
                  case measure => first | (simp [intOf]; done) | (simp [intOf]; omega) | (simp [intOf, kI]; omega)
              · have hkk : kI (jj + 1) = (jj : Int) := rfl
                rw [hkk]
                have hjm : jj < ms.length := by omega
                have hji : (jj : Int) < ms.length := by omega
                obtain ⟨b, off, rfl, hbl, hcl⟩ := s2 jj hjm
                obtain ⟨y, hy⟩ : ∃ y, ms[jj]?.getD 0 = y := ⟨_, rfl⟩
                rw [hy] at hcl
                have hpk : pk ms (jj + 1) = y := hy
                have lbb : Lt b wr := hbl
                clear hy
                have hk0 : decide (0 ≤ (jj : Int)) = true := decide_eq_true (by omega)
                obtain ⟨⟨x, D⟩, hxD⟩ : ∃ r, (deathM (l i) dead y, deathB (l i) dead y) = r := ⟨_, rfl⟩
                have HX := Lib.hid (death_as hxD)
                have hxe : deathM (l i) dead y = x := (Prod.mk.injEq _ _ _ _ ▸ hxD).1
                have HXE := Lib.hid hxe
                have HPK := Lib.hid hpk
                clear hxD hxe hpk
                go_upto_region 21 with (go_at_call 35; (with_reducible refine (death_any (l i) dead y _ hli).mono ?_); rw [HX.out]; rintro e w3 ⟨rfl, g3⟩)
                obtain ⟨W3, hW3⟩ : ∃ W3, w3.alloc (.cells #[.int .u8 x.ph, .int .i64 x.cur, .int .i64 x.nxt, .int .i64 x.gen, .int .i64 x.tick, .int .i64 x.ver] 48) = W3 := ⟨_, rfl⟩
                rw [hW3]
                have g5 : Ext wr W3 := by rw [← hW3]; exact Ext.al g3 _
                have hmx : MoAt W3 w3.heap.size x := by rw [← hW3]; unfold MoAt; simp [go_sem, Lt]
                clear hW3 g3
                generalize w3.heap.size = BX at *
                have hE3 := hEi.tr g5
                have s3 := s2.ext g5
                have r3 := row_ext g5 lbi ri
                have rO3 := row_ext g5 lOi rOi
                have lb3 : Lt w.heap.size W3 := Nat.lt_of_lt_of_le lbi g5.size
                have lO3 : Lt BO W3 := Nat.lt_of_lt_of_le lOi g5.size
                clear c0 c1 c2 c3 c4 c5 g5 hcl lbb
                obtain ⟨o0, o1, o2, o3, o4, o5⟩ := cells_row rO3 i hlt
                obtain ⟨x0, x1, x2, x3, x4, x5⟩ := hmx.cells
                have lx : Lt BX W3 := hmx.2
                clear hmx
                cases hS : someN l dead ms i (jj + 1)
                · cases hQ : (x.ph == (O i).ph && x.cur == (O i).cur && x.nxt == (O i).nxt && x.gen == (O i).gen && x.tick == (O i).tick && x.ver == (O i).ver)
                  · have hsome : someN l dead ms i ((jj + 1) + 1) = false := by unfold someN someP; rw [hS, HPK.out, HXE.out, HOA.out]; unfold eqM; rw [hQ]; rfl
                    have HSM := Lib.hid hsome
                    clear hsome
                    refine wp_region_later (by kernel_rfl) (by kernel_rfl) ?_; (repeat (go_big_quiet_step (first | (go_at_call 43; exact calls_later (owners_any l _)) | (go_at_call 24; exact calls_later (rright_any (ownersM l) _ ms c _ (s3.ext (later_ext _)) hlen))))); refine wpQuiet_nil ?_; intro d
                    have hd := later_ext d
                    generalize later d = w5 at *
                    go_wp2
                    go_roundw
                    case rel => exact ⟨(jj + 1) + 1, by omega, by rw [HSM.out], by unfold kI; go_num, hE3.tr hd⟩
                    case measure => first | (simp [intOf]; done) | (simp [intOf]; omega) | (simp [intOf, kI]; omega)

                  · cases hY : (y == -1)
                    · have hYn : (y != -1) = true := by rw [bne, hY]; rfl
                      have hsome : someN l dead ms i ((jj + 1) + 1) = true := by unfold someN someP; rw [hS, HPK.out, HXE.out, HOA.out, hY]; unfold eqM; rw [hQ]; simp
                      have HSM := Lib.hid hsome
                      clear hsome
                      refine wp_region_later (by kernel_rfl) (by kernel_rfl) ?_; (repeat (go_big_quiet_step (first | (go_at_call 43; exact calls_later (owners_any l _)) | (go_at_call 24; exact calls_later (rright_any (ownersM l) _ ms c _ (s3.ext (later_ext _)) hlen))))); refine wpQuiet_nil ?_; intro d
                      have hd := later_ext d
                      generalize later d = w5 at *
                      go_wp2
                      go_roundw
                      case rel => exact ⟨(jj + 1) + 1, by omega, by rw [HSM.out], by unfold kI; go_num, hE3.tr hd⟩
                      case measure => first | (simp [intOf]; done) | (simp [intOf]; omega) | (simp [intOf, kI]; omega)
                    · have hYn : (y != -1) = false := by rw [bne, hY]; rfl
                      have hz : decide (ms.length = 0) = false := decide_eq_false (by omega)
                      have hZ : ((ms.length : Int) == 0) = false := by rw [beq_eq_false_iff_ne]; omega
                      cases hRv : rightP (ownersM l) ms
                      · have hsome : someN l dead ms i ((jj + 1) + 1) = true := by unfold someN someP; rw [hS, HPK.out, HXE.out, HOA.out, hRv]; unfold eqM; rw [hQ]; simp
                        have HRV := Lib.hid hRv
                        have HSM := Lib.hid hsome
                        clear hsome
                        refine wp_region_later (by kernel_rfl) (by kernel_rfl) ?_; (repeat (go_big_quiet_step (first | (go_at_call 43; exact calls_later (owners_any l _)) | (go_at_call 24; exact calls_later (rright_any (ownersM l) _ ms c _ (s3.ext (later_ext _)) hlen))))); refine wpQuiet_nil ?_; intro d
                        have hd := later_ext d
                        generalize later d = w5 at *
                        go_wp2
                        go_roundw
                        case rel => exact ⟨(jj + 1) + 1, by omega, by rw [HSM.out], by unfold kI; go_num, hE3.tr hd⟩
                        case measure => first | (simp [intOf]; done) | (simp [intOf]; omega) | (simp [intOf, kI]; omega)
                      · have hsome : someN l dead ms i ((jj + 1) + 1) = false := by unfold someN someP; rw [hS, HPK.out, HXE.out, HOA.out, hRv, hz, hY]; simp
                        have HSM := Lib.hid hsome
                        clear hsome
                        refine wp_region_later (by kernel_rfl) (by kernel_rfl) ?_; (repeat (go_big_quiet_step (first | (go_at_call 43; exact calls_later (owners_any l _)) | (go_at_call 24; exact calls_later (rright_any (ownersM l) _ ms c _ (s3.ext (later_ext _)) hlen))))); refine wpQuiet_nil ?_; intro d
                        have hd := later_ext d
                        generalize later d = w5 at *
                        go_wp2
                        go_roundw
                        case rel => exact ⟨(jj + 1) + 1, by omega, by rw [HSM.out], by unfold kI; go_num, hE3.tr hd⟩
                        case measure => first | (simp [intOf]; done) | (simp [intOf]; omega) | (simp [intOf, kI]; omega)
                · have hsome : someN l dead ms i ((jj + 1) + 1) = true := by unfold someN; rw [hS]; rfl
                  have HSM := Lib.hid hsome
                  clear hsome
                  refine wp_region_later (by kernel_rfl) (by kernel_rfl) ?_; (repeat (go_big_quiet_step (first | (go_at_call 43; exact calls_later (owners_any l _)) | (go_at_call 24; exact calls_later (rright_any (ownersM l) _ ms c _ (s3.ext (later_ext _)) hlen))))); refine wpQuiet_nil ?_; intro d
                  have hd := later_ext d
                  generalize later d = w5 at *
                  go_wp2
                  go_roundw
                  case rel => exact ⟨(jj + 1) + 1, by omega, by rw [HSM.out], by unfold kI; go_num, hE3.tr hd⟩
                  case measure => first | (simp [intOf]; done) | (simp [intOf]; omega) | (simp [intOf, kI]; omega)
            · obtain rfl : j = ms.length + 1 := by omega
              have hkk : kI (ms.length + 1) = (ms.length : Int) := rfl
              rw [hkk, HSME.out]
              obtain ⟨o0, o1, o2, o3, o4, o5⟩ := cells_row rOi i hlt
              go_wp2_with (go_at_call 42; (with_reducible refine (of_any (O i) dead _).mono ?_); rw [HOO.out]; rintro e w4 ⟨rfl, g4⟩)
              go_roundw
              case rel => exact ⟨i + 1, by omega, by go_num, (hE2.tr hEi).tr g4⟩
              case measure => simp [intOf]; omega
    · obtain rfl : i = 16 := by omega
      go_wp2_with (go_at_call 37; (with_reducible refine (dwakes_any _).mono ?_); rintro e w' ⟨rfl, hb⟩; obtain ⟨hc, hf, hl, hz, -⟩ := kept hb; (try simp at hz))
      go_ret
      exact ⟨rfl, (e5.tr hE).tr hb⟩

end Go.Proofs.Ytlacidecomflkaa
