/- WatchHolds: the walk. -/
import Derived.Test.YtedamnocolfmlaaMA5
set_option linter.unusedSimpArgs false
set_option linter.unusedVariables false
namespace Go.Proofs.Ytedamnocolfmlaa
open Go.RowKit
def SchH5 (ops : Array Oper) : Prop := Region.noSelect ops = true ∧ stepsM ops 8 [0, 1, 3, 4] 0 = true ∧ Region.ready .any ops (msk 8 27) = [2] ∧ Region.ready .any ops (msk 8 31) = [5] ∧ stepsM ops 8 [6, 7] 63 = true ∧ Region.ready .any ops (msk 8 255) = []
theorem SchH5_0 : Region.noSelect ((Try.f3.body.bind (findR 5)).getD #[]) = true := by kernel_rfl
theorem SchH5_1 : stepsM ((Try.f3.body.bind (findR 5)).getD #[]) 8 [0, 1, 3, 4] 0 = true := by kernel_rfl
theorem SchH5_2 : Region.ready .any ((Try.f3.body.bind (findR 5)).getD #[]) (msk 8 27) = [2] := by kernel_rfl
theorem SchH5_3 : Region.ready .any ((Try.f3.body.bind (findR 5)).getD #[]) (msk 8 31) = [5] := by kernel_rfl
theorem SchH5_4 : stepsM ((Try.f3.body.bind (findR 5)).getD #[]) 8 [6, 7] 63 = true := by kernel_rfl
theorem SchH5_5 : Region.ready .any ((Try.f3.body.bind (findR 5)).getD #[]) (msk 8 255) = [] := by kernel_rfl
theorem SchH5_all : SchH5 ((Try.f3.body.bind (findR 5)).getD #[]) := ⟨SchH5_0, SchH5_1, SchH5_2, SchH5_3, SchH5_4, SchH5_5⟩

theorem thoseL_any (x : Wd) (q n : Nat) (hq : q < 16) (hn : n < 6) (pr : Ag → Bool) : ((thoseL x (q : Int) pr).any fun a => a == (n : Int)) = (thereW x n && pr (x.ag n)) := by
  unfold thoseL agsL pickN
  rw [if_pos (by omega), List.any_map, List.any_filter, List.any_map, List.any_filter]
  refine Bool.eq_iff_iff.2 ⟨fun h => ?_, fun h => ?_⟩
  · obtain ⟨i, -, h⟩ := List.any_eq_true.1 h
    simp only [Function.comp, Bool.and_eq_true, beq_iff_eq] at h
    obtain ⟨h1, h2, h3⟩ := h
    obtain rfl : i = n := by omega
    rw [h1, h2]; rfl
  · rw [Bool.and_eq_true] at h
    exact List.any_eq_true.2 ⟨n, List.mem_range.2 hn, by simp [h.1, h.2]⟩
theorem any_take {l : List Int} (p : Int → Bool) {k : Nat} (h : k < l.length) : (l.take (k + 1)).any p = ((l.take k).any p || p l[k]) := by
  rw [List.take_succ_eq_append_getElem h, List.any_append]
  simp
theorem bit_setN (f : Nat → Bool) (n : Nat) (hn : n < 6) : (bits BinOp.and IntKind.u8 (setN f 6 / 2 ^ n) 1 == 1) = f n := by
  unfold setN setN setN setN setN setN setN
  obtain rfl | rfl | rfl | rfl | rfl | rfl : n = 0 ∨ n = 1 ∨ n = 2 ∨ n = 3 ∨ n = 4 ∨ n = 5 := by omega
  all_goals (cases f 0 <;> cases f 1 <;> cases f 2 <;> cases f 3 <;> cases f 4 <;> cases f 5 <;> rfl)
set_option maxRecDepth 100000 in
set_option maxHeartbeats 8000000 in
theorem holds_any (x : Wd) (b i : Int) (w : World) (hx : ∀ i, i < 6 → AgR w (x.ag i)) :
    Calls Try.prog 3 #[.agg (wdv x), .int .i64 b, .int .i64 i] w fun e w' => e = .returned (.bool true) ∧ Ext w w' := by
  go_enter Try.func3, Try.ntmps3
  go_upto_region 1 with (fail)
  obtain ⟨W0, hW⟩ : ∃ W0, w.alloc (.cells (wdv x) 53) = W0 := ⟨_, rfl⟩
  have g0 : Ext w W0 := by rw [← hW]; exact Ext.al (Ext.rf _) _
  have rx0 : rowD W0 w.heap.size = wdv x := by rw [← hW]; simp [go_sem]
  have lx0 : Lt w.heap.size W0 := by rw [← hW]; simp [go_sem]
  rw [hW]
  clear hW
  have HG := Lib.hid (fun W => great30_any x W)
  cases hg : greatW x
  case true =>
    rw [hg] at HG
    go_wp2_with (first | (go_at_call 5; (with_reducible refine (HG.out _).mono ?_); rintro e w1 ⟨rfl, g1⟩) | (go_at_call 6; (with_reducible refine (wakes30_any _).mono ?_); rintro e w2 ⟨rfl, g2⟩))
    go_ret
    exact ⟨rfl, (g0.tr g1).tr g2⟩
  rw [hg] at HG
  cases h1 : decide (0 ≤ b)
  · have h1' := of_decide_eq_false h1
    go_wp2_with (first | (go_at_call 5; (with_reducible refine (HG.out _).mono ?_); rintro e w1 ⟨rfl, g1⟩) | (go_at_call 6; (with_reducible refine (wakes30_any _).mono ?_); rintro e w2 ⟨rfl, g2⟩))
    go_ret
    exact ⟨rfl, (g0.tr g1).tr g2⟩
  have h1' := of_decide_eq_true h1
  cases h2 : decide (b < 16)
  · have h2' := of_decide_eq_false h2
    go_wp2_with (first | (go_at_call 5; (with_reducible refine (HG.out _).mono ?_); rintro e w1 ⟨rfl, g1⟩) | (go_at_call 6; (with_reducible refine (wakes30_any _).mono ?_); rintro e w2 ⟨rfl, g2⟩))
    go_ret
    exact ⟨rfl, (g0.tr g1).tr g2⟩
  have h2' := of_decide_eq_true h2
  cases h3 : decide (0 ≤ i)
  · have h3' := of_decide_eq_false h3
    go_wp2_with (first | (go_at_call 5; (with_reducible refine (HG.out _).mono ?_); rintro e w1 ⟨rfl, g1⟩) | (go_at_call 6; (with_reducible refine (wakes30_any _).mono ?_); rintro e w2 ⟨rfl, g2⟩))
    go_ret
    exact ⟨rfl, (g0.tr g1).tr g2⟩
  have h3' := of_decide_eq_true h3
  cases h4 : decide (i < 6)
  · have h4' := of_decide_eq_false h4
    go_wp2_with (first | (go_at_call 5; (with_reducible refine (HG.out _).mono ?_); rintro e w1 ⟨rfl, g1⟩) | (go_at_call 6; (with_reducible refine (wakes30_any _).mono ?_); rintro e w2 ⟨rfl, g2⟩))
    go_ret
    exact ⟨rfl, (g0.tr g1).tr g2⟩
  have h4' := of_decide_eq_true h4
  obtain ⟨q, rfl⟩ := Int.eq_ofNat_of_zero_le h1'
  obtain ⟨n, rfl⟩ := Int.eq_ofNat_of_zero_le h3'
  go_upto_region 3 with (go_at_call 5; (with_reducible refine (HG.out _).mono ?_); rintro e w1 ⟨rfl, g1⟩)
  have E1 := g0.tr g1
  have rx1 := row_ext' g1 lx0 rx0
  have lx1 : Lt w.heap.size w1 := Nat.lt_of_lt_of_le lx0 g1.size
  clear g0 rx0 lx0 g1 h1 h2 h3 h4
  go_upto_region 4 with (go_at_call 7; (with_reducible refine (rbacks_any x.st.mb _).mono ?_); rintro e w2 ⟨rfl, g2⟩)
  have E2 := E1.tr g2
  have rx2 := row_ext' g2 lx1 rx1
  have lx2 : Lt w.heap.size w2 := Nat.lt_of_lt_of_le lx1 g2.size
  clear E1 rx1 lx1 g2
  have hq16 : q < 16 := by omega
  have hn6 : n < 6 := by omega
  rw [bit_setN _ n hn6]
  obtain ⟨t, ht⟩ : ∃ t, thereB (x.st.mb.bk n) = t := ⟨_, rfl⟩
  rw [ht]
  have HTH := Lib.hid (show thereW x n = t from ht)
  clear ht
  have hAg : ∀ i, i < 6 → (x.ag i).xs.length ≤ 40 := fun i hi => Nat.le_of_not_lt fun h => by rw [greatW_ag i hi h] at hg; cases hg
  have HXX := Lib.hid (show ∀ W, Ext w W → ∀ i, i < 6 → SlC W (x.ag i).p (x.ag i).xs ∧ (x.ag i).xs.length ≤ 1000 ∧ ∀ c ∈ (x.ag i).xs, TuR c.t from fun W hW i hi => ⟨(hx i hi).1.ext hW, Nat.le_trans (hAg i hi) (by omega), (hx i hi).2⟩)
  obtain ⟨hs, hhs⟩ : ∃ hs, thoseL x q (holdB q) = hs := ⟨_, rfl⟩
  obtain ⟨ts, hts⟩ : ∃ ts, thoseL x q (fun a => takesM (a.md (q : Int).toNat)) = ts := ⟨_, rfl⟩
  have HH := Lib.hid (fun W (hW : Ext w W) => ho_any x q hs hhs W (HXX.out W hW))
  have HT := Lib.hid (fun W => tk_any x q ts hts W)
  have HHA := Lib.hid (show (hs.any fun a => a == (n : Int)) = (t && holdB q (x.ag n)) by rw [← hhs, thoseL_any x q n hq16 hn6, HTH.out])
  have HTA := Lib.hid (show (ts.any fun a => a == (n : Int)) = (t && takesM ((x.ag n).md q)) by rw [← hts, thoseL_any x q n hq16 hn6, HTH.out, Int.toNat_natCast])
  have hll : hs.length ≤ 6 := by rw [← hhs]; exact thoseL_len x q _
  have htl : ts.length ≤ 6 := by rw [← hts]; exact thoseL_len x q _
  clear hx hhs hts
  go_upto_region 5 with (fail)
  refine wp_region_K (fun _ => False) (by kernel_rfl) ?_
  obtain ⟨W5, hW⟩ : ∃ W, World.drew w2 = W := ⟨_, rfl⟩
  have g5 : Ext w2 W5 := by rw [← hW]; exact Ext.dr (Ext.rf _)
  rw [hW]
  clear hW
  have E5 := E2.tr g5
  have rx5 := row_ext' g5 lx2 rx2
  have lx5 : Lt w.heap.size W5 := Nat.lt_of_lt_of_le lx2 g5.size
  clear rx2 lx2 E2 g5
  refine withM (N := 8) (R := SchH5) (E := ((Try.f3.body.bind (findR 5)).getD #[])) (by kernel_rfl) SchH5_all (by kernel_rfl) fun hS => ?_
  have hT := hS.2.1
  refine takeM (N := 8) (k := 0) (m' := 1) (v := .agg (wdv x)) hS.1 hT rfl rfl (by kernel_rfl) (ldwd_K rx5 lx5 (fun h => h) _ _ _ _ _ _ _ (by kernel_rfl)) fun hT => ?_
  refine takeM (N := 8) (k := 1) (m' := 3) (v := .int .i64 q) hS.1 hT rfl rfl (by kernel_rfl) (fun _ _ => by kernel_rfl) fun hT => ?_
  refine takeM (N := 8) (k := 3) (m' := 11) (v := .agg (wdv x)) hS.1 hT rfl rfl (by kernel_rfl) (ldwd_K rx5 lx5 (fun h => h) _ _ _ _ _ _ _ (by kernel_rfl)) fun hT => ?_
  refine takeM (N := 8) (k := 4) (m' := 27) (v := .int .i64 q) hS.1 hT rfl rfl (by kernel_rfl) (fun _ _ => by kernel_rfl) fun hT => ?_
  refine soleM hS.2.2.1 (callM (m' := 31) (R := fun v w' => ∃ p c, v = .slice p hs.length c ∧ SlI w' p hs) rfl rfl (by kernel_rfl) (by kernel_rfl) ((HH.out W5 E5).mono fun e w' ⟨p, c, h1, h2, h3⟩ => ⟨_, h1, ⟨p, c, rfl, h2⟩, h3⟩) ?_)
  rintro _ V1 gV1 ⟨ph, ch, rfl, sh⟩
  have E5 := E5.tr gV1
  refine soleM hS.2.2.2.1 (callM (m' := 63) (R := fun v w' => ∃ p c, v = .slice p ts.length c ∧ SlI w' p ts) rfl rfl (by kernel_rfl) (by kernel_rfl) ((HT.out V1).mono fun e w' ⟨p, c, h1, h2, h3⟩ => ⟨_, h1, ⟨p, c, rfl, h2⟩, h3⟩) ?_)
  rintro _ V2 gV2 ⟨pt, ct, rfl, st⟩
  have E5 := E5.tr gV2
  have sh := sh.ext gV2
  have hT := hS.2.2.2.2.1
  refine takeM (N := 8) (k := 6) (m' := 127) (v := .slice ph hs.length ch) hS.1 hT rfl rfl (by kernel_rfl) (fun _ _ => by kernel_rfl) fun hT => ?_
  refine takeM (N := 8) (k := 7) (m' := 255) (v := .slice pt ts.length ct) hS.1 hT rfl rfl (by kernel_rfl) (fun _ _ => by kernel_rfl) fun hT => ?_
  refine doneK hS.2.2.2.2.2 ?_
  clear hS
  clear hT
  have g25 := gV1.tr gV2
  have rxV := row_ext' g25 lx5 rx5
  have lxV : Lt w.heap.size V2 := Nat.lt_of_lt_of_le lx5 g25.size
  clear rx5 lx5 gV1 gV2 g25
  go_simp
  go_wp2
  go_loop [8, 12] (fun h a => ∃ k : Nat, k ≤ hs.length ∧ a = .int .i64 k ∧ h = .bool ((hs.take k).any fun a => a == (n : Int))) (fun _ a => hs.length - (intOf a).toNat)
  case atStart => exact ⟨0, Nat.zero_le _, rfl, rfl⟩
  case round =>
    obtain ⟨k, hk, rfl, rfl⟩ := hrel
    by_cases hlt : k < hs.length
    · have hlt' : (k : Int) < hs.length := by omega
      obtain ⟨b, off, rfl, lb, h0⟩ := sh k hlt
      obtain ⟨z, hz⟩ : ∃ z, hs[k] = z := ⟨_, rfl⟩
      rw [hz] at h0
      have HNX := Lib.hid (show ((hs.take (k + 1)).any fun a => a == (n : Int)) = (((hs.take k).any fun a => a == (n : Int)) || z == (n : Int)) by rw [any_take _ hlt, hz])
      have hlb : Lt b V2 := lb
      obtain ⟨u, hu⟩ : ∃ u, ((hs.take k).any fun a => a == (n : Int)) = u := ⟨_, rfl⟩
      rw [hu] at HNX ⊢
      clear hz hu lb
      cases u
      · go_wp2
        go_round
        case rel => exact ⟨k + 1, by omega, by go_num, by rw [HNX.out]; simp⟩
        case measure => simp [intOf]; omega
      · go_wp2
        refine ⟨⟨k + 1, by omega, by go_num, by rw [HNX.out]; simp⟩, by simp [intOf]; omega⟩
    · obtain rfl : k = hs.length := by omega
      rw [List.take_length, HHA.out]
      obtain ⟨a8, ha8⟩ : ∃ a8, (t && holdB q (x.ag n)) = a8 := ⟨_, rfl⟩
      rw [ha8]
      have HA8 := Lib.hid ha8
      clear ha8
      rw [show ((hs.length : Nat) : Int) = (hs.length : Int) from rfl]
      go_wp2
      go_loop [9, 13] (fun h a => ∃ k : Nat, k ≤ ts.length ∧ a = .int .i64 k ∧ h = .bool ((ts.take k).any fun a => a == (n : Int))) (fun _ a => ts.length - (intOf a).toNat)
      case atStart => exact ⟨0, Nat.zero_le _, rfl, rfl⟩
      case round =>
        obtain ⟨k, hk, rfl, rfl⟩ := hrel
        by_cases hlt : k < ts.length
        · have hlt' : (k : Int) < ts.length := by omega
          obtain ⟨b, off, rfl, lb, h0⟩ := st k hlt
          obtain ⟨z, hz⟩ : ∃ z, ts[k] = z := ⟨_, rfl⟩
          rw [hz] at h0
          have HNX := Lib.hid (show ((ts.take (k + 1)).any fun a => a == (n : Int)) = (((ts.take k).any fun a => a == (n : Int)) || z == (n : Int)) by rw [any_take _ hlt, hz])
          have hlb : Lt b V2 := lb
          obtain ⟨u, hu⟩ : ∃ u, ((ts.take k).any fun a => a == (n : Int)) = u := ⟨_, rfl⟩
          rw [hu] at HNX ⊢
          clear hz hu lb
          cases u
          · go_wp2
            go_round
            case rel => exact ⟨k + 1, by omega, by go_num, by rw [HNX.out]; simp⟩
            case measure => simp [intOf]; omega
          · go_wp2
            refine ⟨⟨k + 1, by omega, by go_num, by rw [HNX.out]; simp⟩, by simp [intOf]; omega⟩
        · obtain rfl : k = ts.length := by omega
          rw [List.take_length, HTA.out]
          obtain ⟨a9, ha9⟩ : ∃ a9, (t && takesM ((x.ag n).md q)) = a9 := ⟨_, rfl⟩
          rw [ha9]
          have HA9 := Lib.hid ha9
          clear ha9
          have hfit : 391 + n * 67 + 2 + q * 4 + 4 ≤ 814 := by omega
          go_upto_region 15 with (fail)
          obtain ⟨W6, hW⟩ : ∃ W6, setAt (V2.alloc (.cells #[.int .u8 0, .int .i64 0, .int .i64 0, .bool false] 43)) V2.heap.size 0 (mdv ((x.ag n).md q)) = W6 := ⟨_, rfl⟩
          have g6 : Ext V2 W6 := by rw [← hW]; exact Ext.sa _ (Nat.le_refl _) (Ext.al (Ext.rf _) _)
          have r6 : rowD W6 V2.heap.size = mdv ((x.ag n).md q) := by rw [← hW]; exact setAt_all _ _ _ (by rw [rowD_new, size_mdv]; rfl)
          have l6 : Lt V2.heap.size W6 := by rw [← hW]; simp [go_sem]
          have rx6 := row_ext' g6 lxV rxV
          have lx6 : Lt w.heap.size W6 := Nat.lt_of_lt_of_le lxV g6.size
          have E6 := E5.tr g6
          rw [hW]
          clear hW g6 rxV lxV E5 sh st
          generalize V2.heap.size = M at *
          obtain ⟨kd, hkd⟩ : ∃ kd, ((x.ag n).md q).kind = kd := ⟨_, rfl⟩
          have c0 : W6.cell? ⟨M, 0, none⟩ = some (.int .u8 kd) := by rw [cell_rowD, r6, get_md0, hkd]
          have cc : W6.cell? ⟨w.heap.size, 391 + n * 67 + 66, none⟩ = some (.slice (x.ag n).p (x.ag n).xs.length (x.ag n).c) := by rw [cell_rowD, rx6, get_wd_conns x n hn6]
          have HT9 := Lib.hid (show a9 = (t && (kd == 1 || kd == 2)) by rw [← HA9.out, ← hkd]; rfl)
          have HT8 := Lib.hid (show a8 = (t && decide (0 < ((x.ag n).xs.filter (inB q)).length)) by rw [← HA8.out]; rfl)
          have HC := Lib.hid (show ∀ W, Ext w W → Calls Try.prog 10 #[.slice (x.ag n).p (x.ag n).xs.length (x.ag n).c, .int .i64 q] W fun e w' => ∃ p c, e = .returned (.slice p ((x.ag n).xs.filter (inB q)).length c) ∧ Ext W w' from fun W hW => (rcof_any (x.ag n).p (x.ag n).xs (x.ag n).c q W (HXX.out W hW n hn6).1 (HXX.out W hW n hn6).2.1 (HXX.out W hW n hn6).2.2).mono fun e w' ⟨v, h1, h2, h3⟩ => by
            obtain ⟨p, m, c, rfl⟩ := ownsRow_slice h2
            have := ownsRow_num h2
            subst this
            exact ⟨p, c, h1, h3⟩)
          generalize ((x.ag n).xs.filter (inB q)).length = fl at *
          clear r6 rx6 hkd HA8 HA9
          have wArm : True := trivial
          cases t
          · have h8 : a8 = false := HT8.out
            have h9 : a9 = false := HT9.out
            subst h8 h9
            go_wp2_with (go_at_call 6; (with_reducible refine (wakes30_any _).mono ?_); rintro e w2 ⟨rfl, g2⟩)
            go_ret
            exact ⟨rfl, E6.tr g2⟩
          cases f8 : decide (0 < fl)
          all_goals
            have h8 := HT8.out
            rw [f8] at h8
            have f8' : decide ((0 : Int) < (fl : Int)) = decide (0 < fl) := decide_eq_decide.2 (by omega)
            rw [f8] at f8'
            cases k1 : (kd == 1)
            all_goals
              cases k2 : (kd == 2)
              all_goals
                have h9 := HT9.out
                rw [k1, k2] at h9
                simp only [Bool.true_and, Bool.or_true, Bool.or_false, Bool.true_or, Bool.false_or] at h8 h9
                subst h8 h9
                go_wp2_with (first | (go_at_call 10; (with_reducible refine (HC.out _ E6).mono ?_); rintro e w3 ⟨p3, c3, rfl, g3⟩; have c0 : w3.cell? ⟨M, 0, none⟩ = some (.int .u8 kd) := (g3.cell (p := ⟨M, 0, none⟩) l6).trans c0) | (go_at_call 6; (with_reducible refine (wakes30_any _).mono ?_); rintro e w2 ⟨rfl, g2⟩))
                go_ret
                exact ⟨rfl, (E6.tr g3).tr g2⟩

end Go.Proofs.Ytedamnocolfmlaa
