/- WatchRest: the walk. -/
import Derived.Test.YtedamnocolfmlaaGreatRDm
set_option linter.unusedSimpArgs false
set_option linter.unusedVariables false
namespace Go.Proofs.YtedamnocolfmlaaGreat
open Go.RowKit

@[go_sem] theorem fits_lit7 {a b c d e f g : Value} {o m : Nat} : Fits o m #[a, b, c, d, e, f, g] = (o + m ≤ 7) := by unfold Fits; rfl
@[go_sem] theorem fits_lit3 {a b c : Value} {o m : Nat} : Fits o m #[a, b, c] = (o + m ≤ 3) := by unfold Fits; rfl
def sum7 (mv : Nat → Mo) (k : Nat) : Int := phN mv 0 k + phN mv 1 k + phN mv 2 k + phN mv 3 k + phN mv 4 k + phN mv 5 k + phN mv 6 k
theorem sum7_succ (mv : Nat → Mo) (k : Nat) : sum7 mv (k + 1) = sum7 mv k + if 0 ≤ (mv k).ph ∧ (mv k).ph < 7 then 1 else 0 := by
  unfold sum7
  simp only [phN_succ]
  generalize (mv k).ph = p
  obtain h | rfl | rfl | rfl | rfl | rfl | rfl | rfl | h : p < 0 ∨ p = 0 ∨ p = 1 ∨ p = 2 ∨ p = 3 ∨ p = 4 ∨ p = 5 ∨ p = 6 ∨ 7 ≤ p := by omega
  · rw [if_neg (by omega), if_neg (by omega), if_neg (by omega), if_neg (by omega), if_neg (by omega), if_neg (by omega), if_neg (by omega), if_neg (by omega)]; omega
  all_goals first
    | (simp; omega)
    | (rw [if_neg (by omega), if_neg (by omega), if_neg (by omega), if_neg (by omega), if_neg (by omega), if_neg (by omega), if_neg (by omega), if_neg (by omega)]; omega)
theorem sum7_le (mv : Nat → Mo) : ∀ k : Nat, 0 ≤ sum7 mv k ∧ sum7 mv k ≤ k
  | 0 => by simp [sum7, phN]
  | k + 1 => by
    have := sum7_le mv k
    rw [sum7_succ]
    split <;> omega
theorem sum7_eq (mv : Nat → Mo) : ∀ k : Nat, (∀ j, j < k → 0 ≤ (mv j).ph ∧ (mv j).ph < 7) → sum7 mv k = k
  | 0, _ => by simp [sum7, phN]
  | k + 1, h => by
    rw [sum7_succ, sum7_eq mv k (fun j hj => h j (by omega)), if_pos (h k (by omega))]
    omega
theorem sum7_right {s : St} (h0 : ∀ i, i < 16 → 0 ≤ (s.mv i).ph) (h : stR s = true) : sum7 s.mv 16 = 16 := sum7_eq s.mv 16 fun j hj => ⟨h0 j hj, by
  have := (stR_parts h).2.2.2.2.2.1 j hj
  rw [mvOk_eq] at this
  simp only [Bool.and_eq_true] at this
  have hr := this.1.1.1
  unfold Mo.right at hr
  simp only [Bool.and_eq_true] at hr
  exact of_decide_eq_true hr.1.1.1.1⟩
/-- The first of seven phases added up. -/
def sumN (mv : Nat → Mo) : Nat → Int
  | 0 => 0
  | k + 1 => sumN mv k + phN mv k 16
theorem sumN_bd (mv : Nat → Mo) : ∀ k, 0 ≤ sumN mv k ∧ sumN mv k ≤ 16 * k
  | 0 => by simp [sumN]
  | k + 1 => by
    have := sumN_bd mv k
    have := phN_bd mv k 16
    rw [sumN]
    omega
theorem sumN_seven (mv : Nat → Mo) : sumN mv 7 = sum7 mv 16 := by unfold sum7; simp only [sumN]; omega
def ctlA (ps : List Pa) (k : Nat) : Bool := (ps.take k).any fun p => p.ctl
set_option maxRecDepth 100000 in
set_option maxHeartbeats 8000000 in
theorem rest_law (x : Wd) (ps : List Pa) (w : World) (hx : WdR w x ps) :
    Calls Tryz.prog 3 #[.agg (wdv x)] w fun e w' => e = .returned (.bool true) ∧ Ext w w' := by
  go_enter Tryz.func3, Tryz.ntmps3
  go_upto_region 1 with (fail)
  obtain ⟨W0, hW⟩ : ∃ W0, w.alloc (.cells (wdv x) 53) = W0 := ⟨_, rfl⟩
  have g0 : Ext w W0 := by rw [← hW]; exact Ext.al (Ext.rf _) _
  have rx0 : rowD W0 w.heap.size = wdv x := by rw [← hW]; simp [go_sem]
  have lx0 : Lt w.heap.size W0 := by rw [← hW]; simp [go_sem]
  rw [hW]
  clear hW
  have HG := Lib.hid (fun W => great30_any x W)
  cases hg : greatW x
  case true =>
    rw [hg] at HG
    go_wp2_with (first | (go_at_call 4; (with_reducible refine (HG.out _).mono ?_); rintro e w1 ⟨rfl, g1⟩) | (go_at_call 5; (with_reducible refine (wakes30_any _).mono ?_); rintro e w2 ⟨rfl, g2⟩))
    go_ret
    exact ⟨rfl, (g0.tr g1).tr g2⟩
  rw [hg] at HG
  obtain ⟨⟨h0, hsl⟩, hag, hsp, hpn⟩ := hx
  have hle : ps.length ≤ 70 ∧ x.st.pl.length ≤ 40 := by
    unfold greatW at hg
    simp only [Bool.or_eq_false_iff, decide_eq_false_iff_not] at hg
    omega
  have HPH := Lib.hid (fun W => phases_any x h0 W)
  have HR24 := Lib.hid (fun W (hE : Ext w W) => rstright_any x.st W (hsl.ext hE) (by omega) h0)
  have HSL := Lib.hid (fun W (hE : Ext w W) => rstill_any x.st W (hsl.ext hE) (by omega) h0)
  have HVE := Lib.hid (fun W => versions_any x W)
  have HRS := Lib.hid (fun W (hE : Ext w W) => rest_any x ps W (hsp.ext hE) hpn (by omega) (hsl.ext hE) (by omega) h0)
  have HSP := Lib.hid (fun W (hE : Ext w W) => hsp.ext hE)
  have HSUM := Lib.hid (fun h => sum7_right (s := x.st) h0 h)
  have hpl : ps.length ≤ 70 := hle.1
  have HPN := Lib.hid hpn
  have HREST := Lib.hid (show restB x ps = (stillB x.st && !(ps.any fun p => p.ctl)) from rfl)
  clear h0 hsl hag hsp hpn hle hg
  go_upto_region 4 with (first | (go_at_call 4; (with_reducible refine (HG.out _).mono ?_); rintro e w1 ⟨rfl, g1⟩; have rx1 := row_ext' g1 lx0 rx0; have lx1 : Lt w.heap.size w1 := Nat.lt_of_lt_of_le lx0 g1.size) | (go_at_call 6; (with_reducible refine (HPH.out _).mono ?_); rintro e w2 ⟨rfl, g2⟩))
  obtain ⟨f, hf⟩ : ∃ f, (fun p => phN x.st.mv p 16) = f := ⟨_, rfl⟩
  rw [hf]
  have HFF := Lib.hid hf
  clear hf HPH
  obtain ⟨W3, hW⟩ : ∃ W3, setAt (w2.alloc (.cells #[.int .i64 0, .int .i64 0, .int .i64 0, .int .i64 0, .int .i64 0, .int .i64 0, .int .i64 0] 56)) w2.heap.size 0 (iv 7 f) = W3 := ⟨_, rfl⟩
  have g3 : Ext w2 W3 := by rw [← hW]; exact Ext.sa _ (Nat.le_refl _) (Ext.al (Ext.rf _) _)
  have r3 : rowD W3 w2.heap.size = iv 7 f := by rw [← hW]; exact setAt_all _ _ _ (by rw [rowD_new, size_iv]; rfl)
  have l3 : Lt w2.heap.size W3 := by rw [← hW]; simp [go_sem]
  have rx3 := row_ext' (g2.tr g3) lx1 rx1
  have lx3 : Lt w.heap.size W3 := Nat.lt_of_lt_of_le lx1 (g2.tr g3).size
  have HE3 := Lib.hid ((g0.tr g1).tr (g2.tr g3))
  rw [hW]
  clear hW g0 g1 g2 g3 rx0 lx0 rx1 lx1 HG
  generalize w2.heap.size = D at *
  go_wp2
  go_loop [4, 5] (fun q a => ∃ k : Nat, k ≤ 7 ∧ a = .int .i64 k ∧ q = .int .i64 (sumN x.st.mv k)) (fun _ a => 7 - (intOf a).toNat)
  case atStart => exact ⟨0, Nat.zero_le _, rfl, rfl⟩
  case round =>
    obtain ⟨k, hk, rfl, rfl⟩ := hrel
    have hbd := sumN_bd x.st.mv k
    by_cases hlt : k < 7
    · have hlt' : (k : Int) < 7 := by omega
      have hck : W3.cell? ⟨D, k, none⟩ = some (.int .i64 (f k)) := by rw [cell_rowD, r3, get_iv hlt]
      have hfk : f k = phN x.st.mv k 16 := by rw [← HFF.out]
      have hb2 := phN_bd x.st.mv k 16
      rw [← hfk] at hb2
      have HNX := Lib.hid (show sumN x.st.mv (k + 1) = sumN x.st.mv k + f k by rw [hfk]; rfl)
      obtain ⟨sn, hsn⟩ : ∃ sn, sumN x.st.mv k = sn := ⟨_, rfl⟩
      rw [hsn] at hbd HNX ⊢
      obtain ⟨fk, hfkv⟩ : ∃ fk, f k = fk := ⟨_, rfl⟩
      rw [hfkv] at hck hb2 HNX
      have hw : IntKind.i64.wrap (sn + fk) = sn + fk := by rw [IntKind.wrap_i64]; omega
      clear hsn hfk hfkv hbd hb2
      go_wp2
      go_round
      case rel => exact ⟨k + 1, by omega, by go_num, by rw [HNX.out]⟩
      case measure => simp [intOf]; omega
    · obtain rfl : k = 7 := by omega
      have h16 := (sum7_le x.st.mv 16).2
      have HS7 := Lib.hid (sumN_seven x.st.mv)
      rw [HS7.out]
      obtain ⟨nn, hnn⟩ : ∃ nn, sum7 x.st.mv 16 = nn := ⟨_, rfl⟩
      rw [hnn] at h16 HSUM ⊢
      have hgt : decide ((16 : Int) < nn) = false := decide_eq_false (by omega)
      have HR24 := Lib.hid (HR24.out)
      cases hst : stR x.st
      · rw [hst] at HSUM HR24
        clear HSUM
        clear hnn hbd r3 l3 h16 HS7 hst
        go_upto_region 12 with (first | (go_at_call 7; (with_reducible refine (HR24.out _ HE3.out).mono ?_); rintro e w4 ⟨rfl, g4⟩; have HE4 := Lib.hid (HE3.out.tr g4); have rx4 := row_ext' g4 lx3 rx3; have lx4 : Lt w.heap.size w4 := Nat.lt_of_lt_of_le lx3 g4.size) | (go_at_call 8; (with_reducible refine (HSL.out _ HE4.out).mono ?_); rintro e w5 ⟨rfl, g5⟩))
        have HE5 := Lib.hid (HE4.out.tr g5)
        have rx5 := row_ext' g5 lx4 rx4
        have lx5 : Lt w.heap.size w5 := Nat.lt_of_lt_of_le lx4 g5.size
        clear g4 g5 rx3 lx3 rx4 lx4 HR24
        generalize stillB x.st = sb at *
        have hs5 := HSP.out _ HE5.out
        have c793 : w5.cell? ⟨w.heap.size, 793, none⟩ = some (.slice x.fp x.fl x.fc) := by rw [cell_rowD, rx5, get_wd_fl]
        have hfl : x.fl ≤ 70 := by rw [← HPN.out]; exact hpl
        go_wp2
        go_loop [6, 7] (fun q a => ∃ k : Nat, k ≤ x.fl ∧ a = .int .i64 k ∧ q = .bool (sb && !(ctlA ps k))) (fun _ a => x.fl - (intOf a).toNat)
        case atStart => exact ⟨0, Nat.zero_le _, rfl, by simp [ctlA]⟩
        case round =>
          obtain ⟨k, hk, rfl, rfl⟩ := hrel
          by_cases hlt : k < x.fl
          · have hlt' : (k : Int) < x.fl := by omega
            have hkp : k < ps.length := by rw [HPN.out]; exact hlt
            obtain ⟨b, off, hp, hb, d0, d1, d2, d3, d4, d5⟩ := hs5 k hkp
            obtain ⟨z, hz⟩ : ∃ z, ps[k].ctl = z := ⟨_, rfl⟩
            rw [hz] at d4
            have HNX := Lib.hid (show (sb && !(ctlA ps (k + 1))) = ((sb && !(ctlA ps k)) && !z) by
              unfold ctlA
              rw [List.take_succ_eq_append_getElem hkp, List.any_append]
              simp only [List.any_cons, List.any_nil, Bool.or_false, hz]
              cases sb <;> cases (ps.take k).any (fun p => p.ctl) <;> cases z <;> rfl)
            have lb : Lt b w5 := hb
            rw [hp] at c793
            have HPP := Lib.hid hp
            obtain ⟨u, hu⟩ : ∃ u, (sb && !(ctlA ps k)) = u := ⟨_, rfl⟩
            rw [hu] at HNX ⊢
            clear hz hu hp hb d0 d1 d2 d3 d5 hs5
            cases u
            · go_wp2
              go_round
              case rel => exact ⟨k + 1, by omega, by go_num, by rw [HNX.out]; rfl⟩
              case measure => simp [intOf]; omega
            · go_wp2
              refine ⟨⟨k + 1, by omega, by go_num, by rw [HNX.out]; simp⟩, by simp [intOf]; omega⟩
          · obtain rfl : k = x.fl := by omega
            rw [show ctlA ps x.fl = ps.any fun p => p.ctl by unfold ctlA; rw [← HPN.out, List.take_length]]
            have HRST := Lib.hid (fun W (hW : Ext w W) => HREST.out ▸ HRS.out W hW)
            generalize (sb && !(ps.any fun p => p.ctl)) = rr at *
            clear hs5 HSL HSP HRS HREST
            go_upto_region 17 with (go_at_call 9; (with_reducible refine (HVE.out _).mono ?_); rintro e w6 ⟨rfl, g6⟩)
            have HE6 := Lib.hid (HE5.out.tr g6)
            have rx6 := row_ext' g6 lx5 rx5
            have lx6 : Lt w.heap.size w6 := Nat.lt_of_lt_of_le lx5 g6.size
            obtain ⟨W7, hW⟩ : ∃ W7, setAt (w6.alloc (.cells #[.int .i64 0, .int .i64 0, .int .i64 0] 35)) w6.heap.size 0 (iv 3 fun i => hasC (x.cl i)) = W7 := ⟨_, rfl⟩
            have g7 : Ext w6 W7 := by rw [← hW]; exact Ext.sa _ (Nat.le_refl _) (Ext.al (Ext.rf _) _)
            have r7 : rowD W7 w6.heap.size = iv 3 fun i => hasC (x.cl i) := by rw [← hW]; exact setAt_all _ _ _ (by rw [rowD_new, size_iv]; rfl)
            have l7 : Lt w6.heap.size W7 := by rw [← hW]; simp [go_sem]
            have rx7 := row_ext' g7 lx6 rx6
            have lx7 : Lt w.heap.size W7 := Nat.lt_of_lt_of_le lx6 g7.size
            have HE7 := Lib.hid (HE6.out.tr g7)
            rw [hW]
            clear hW g6 g7 rx5 lx5 rx6 lx6 HVE c793
            generalize w6.heap.size = V at *
            go_wp2
            go_loopw [9] (fun a wr => ∃ k : Nat, k ≤ 3 ∧ a = .int .i64 k ∧ Ext W7 wr) (fun a _ => 3 - (intOf a).toNat)
            case atStart => exact ⟨0, Nat.zero_le _, rfl, Ext.rf _⟩
            case round =>
              obtain ⟨k, hk, rfl, hE⟩ := hrel
              have hR := row_ext' hE lx7 rx7
              have hL : Lt w.heap.size wr := Nat.lt_of_lt_of_le lx7 hE.size
              by_cases hlt : k < 3
              · have hlt' : (k : Int) < 3 := by omega
                have hfit : 193 + k * 66 + 66 ≤ 814 := by omega
                have hrv := row_ext' hE l7 r7
                have hlv : Lt V wr := Nat.lt_of_lt_of_le l7 hE.size
                have hcv : wr.cell? ⟨V, k, none⟩ = some (.int .i64 (hasC (x.cl k))) := by rw [cell_rowD, hrv, get_iv hlt]
                have HEE := Lib.hid hE
                have hself : (hasC (x.cl k) != hasC (x.cl k)) = false := by simp
                clear hE hrv
                go_wp2_with (fail)
                refine wp_region_later (by kernel_rfl) (by kernel_rfl) ?_; (repeat (go_big_quiet_step ((go_at_call 10; exact calls_later (rhas_any _ _))))); refine wpQuiet_nil ?_; intro d
                have HD := Lib.hid (HEE.out.tr (later_ext d))
                generalize later d = W8 at *
                go_wp2
                go_roundw
                case rel => exact ⟨k + 1, by omega, by go_num, HD.out⟩
                case measure => simp [intOf]; omega
              · obtain rfl : k = 3 := by omega
                have HEE := Lib.hid (HE7.out.tr hE)
                clear hE
                rw [show ((3 : Nat) : Int) = 3 from rfl]
                cases rr
                all_goals
                  go_wp2_with (first | (go_at_call 11; (with_reducible refine (HRST.out _ HEE.out).mono ?_); rintro e w8 ⟨rfl, g8⟩) | (go_at_call 5; (with_reducible refine (wakes30_any _).mono ?_); rintro e w9 ⟨rfl, g9⟩))
                  go_ret
                  exact ⟨rfl, (HEE.out.tr g8).tr g9⟩
      · rw [hst] at HSUM HR24
        have hne : (nn != 16) = false := by rw [bne_eq_false_iff_eq]; exact HSUM.out rfl
        clear HSUM
        clear hnn hbd r3 l3 h16 HS7 hst
        go_upto_region 12 with (first | (go_at_call 7; (with_reducible refine (HR24.out _ HE3.out).mono ?_); rintro e w4 ⟨rfl, g4⟩; have HE4 := Lib.hid (HE3.out.tr g4); have rx4 := row_ext' g4 lx3 rx3; have lx4 : Lt w.heap.size w4 := Nat.lt_of_lt_of_le lx3 g4.size) | (go_at_call 8; (with_reducible refine (HSL.out _ HE4.out).mono ?_); rintro e w5 ⟨rfl, g5⟩))
        have HE5 := Lib.hid (HE4.out.tr g5)
        have rx5 := row_ext' g5 lx4 rx4
        have lx5 : Lt w.heap.size w5 := Nat.lt_of_lt_of_le lx4 g5.size
        clear g4 g5 rx3 lx3 rx4 lx4 HR24
        generalize stillB x.st = sb at *
        have hs5 := HSP.out _ HE5.out
        have c793 : w5.cell? ⟨w.heap.size, 793, none⟩ = some (.slice x.fp x.fl x.fc) := by rw [cell_rowD, rx5, get_wd_fl]
        have hfl : x.fl ≤ 70 := by rw [← HPN.out]; exact hpl
        go_wp2
        go_loop [6, 7] (fun q a => ∃ k : Nat, k ≤ x.fl ∧ a = .int .i64 k ∧ q = .bool (sb && !(ctlA ps k))) (fun _ a => x.fl - (intOf a).toNat)
        case atStart => exact ⟨0, Nat.zero_le _, rfl, by simp [ctlA]⟩
        case round =>
          obtain ⟨k, hk, rfl, rfl⟩ := hrel
          by_cases hlt : k < x.fl
          · have hlt' : (k : Int) < x.fl := by omega
            have hkp : k < ps.length := by rw [HPN.out]; exact hlt
            obtain ⟨b, off, hp, hb, d0, d1, d2, d3, d4, d5⟩ := hs5 k hkp
            obtain ⟨z, hz⟩ : ∃ z, ps[k].ctl = z := ⟨_, rfl⟩
            rw [hz] at d4
            have HNX := Lib.hid (show (sb && !(ctlA ps (k + 1))) = ((sb && !(ctlA ps k)) && !z) by
              unfold ctlA
              rw [List.take_succ_eq_append_getElem hkp, List.any_append]
              simp only [List.any_cons, List.any_nil, Bool.or_false, hz]
              cases sb <;> cases (ps.take k).any (fun p => p.ctl) <;> cases z <;> rfl)
            have lb : Lt b w5 := hb
            rw [hp] at c793
            have HPP := Lib.hid hp
            obtain ⟨u, hu⟩ : ∃ u, (sb && !(ctlA ps k)) = u := ⟨_, rfl⟩
            rw [hu] at HNX ⊢
            clear hz hu hp hb d0 d1 d2 d3 d5 hs5
            cases u
            · go_wp2
              go_round
              case rel => exact ⟨k + 1, by omega, by go_num, by rw [HNX.out]; rfl⟩
              case measure => simp [intOf]; omega
            · go_wp2
              refine ⟨⟨k + 1, by omega, by go_num, by rw [HNX.out]; simp⟩, by simp [intOf]; omega⟩
          · obtain rfl : k = x.fl := by omega
            rw [show ctlA ps x.fl = ps.any fun p => p.ctl by unfold ctlA; rw [← HPN.out, List.take_length]]
            have HRST := Lib.hid (fun W (hW : Ext w W) => HREST.out ▸ HRS.out W hW)
            generalize (sb && !(ps.any fun p => p.ctl)) = rr at *
            clear hs5 HSL HSP HRS HREST
            go_upto_region 17 with (go_at_call 9; (with_reducible refine (HVE.out _).mono ?_); rintro e w6 ⟨rfl, g6⟩)
            have HE6 := Lib.hid (HE5.out.tr g6)
            have rx6 := row_ext' g6 lx5 rx5
            have lx6 : Lt w.heap.size w6 := Nat.lt_of_lt_of_le lx5 g6.size
            obtain ⟨W7, hW⟩ : ∃ W7, setAt (w6.alloc (.cells #[.int .i64 0, .int .i64 0, .int .i64 0] 35)) w6.heap.size 0 (iv 3 fun i => hasC (x.cl i)) = W7 := ⟨_, rfl⟩
            have g7 : Ext w6 W7 := by rw [← hW]; exact Ext.sa _ (Nat.le_refl _) (Ext.al (Ext.rf _) _)
            have r7 : rowD W7 w6.heap.size = iv 3 fun i => hasC (x.cl i) := by rw [← hW]; exact setAt_all _ _ _ (by rw [rowD_new, size_iv]; rfl)
            have l7 : Lt w6.heap.size W7 := by rw [← hW]; simp [go_sem]
            have rx7 := row_ext' g7 lx6 rx6
            have lx7 : Lt w.heap.size W7 := Nat.lt_of_lt_of_le lx6 g7.size
            have HE7 := Lib.hid (HE6.out.tr g7)
            rw [hW]
            clear hW g6 g7 rx5 lx5 rx6 lx6 HVE c793
            generalize w6.heap.size = V at *
            go_wp2
            go_loopw [9] (fun a wr => ∃ k : Nat, k ≤ 3 ∧ a = .int .i64 k ∧ Ext W7 wr) (fun a _ => 3 - (intOf a).toNat)
            case atStart => exact ⟨0, Nat.zero_le _, rfl, Ext.rf _⟩
            case round =>
              obtain ⟨k, hk, rfl, hE⟩ := hrel
              have hR := row_ext' hE lx7 rx7
              have hL : Lt w.heap.size wr := Nat.lt_of_lt_of_le lx7 hE.size
              by_cases hlt : k < 3
              · have hlt' : (k : Int) < 3 := by omega
                have hfit : 193 + k * 66 + 66 ≤ 814 := by omega
                have hrv := row_ext' hE l7 r7
                have hlv : Lt V wr := Nat.lt_of_lt_of_le l7 hE.size
                have hcv : wr.cell? ⟨V, k, none⟩ = some (.int .i64 (hasC (x.cl k))) := by rw [cell_rowD, hrv, get_iv hlt]
                have HEE := Lib.hid hE
                have hself : (hasC (x.cl k) != hasC (x.cl k)) = false := by simp
                clear hE hrv
                go_wp2_with (fail)
                refine wp_region_later (by kernel_rfl) (by kernel_rfl) ?_; (repeat (go_big_quiet_step ((go_at_call 10; exact calls_later (rhas_any _ _))))); refine wpQuiet_nil ?_; intro d
                have HD := Lib.hid (HEE.out.tr (later_ext d))
                generalize later d = W8 at *
                go_wp2
                go_roundw
                case rel => exact ⟨k + 1, by omega, by go_num, HD.out⟩
                case measure => simp [intOf]; omega
              · obtain rfl : k = 3 := by omega
                have HEE := Lib.hid (HE7.out.tr hE)
                clear hE
                rw [show ((3 : Nat) : Int) = 3 from rfl]
                cases rr
                all_goals
                  go_wp2_with (first | (go_at_call 11; (with_reducible refine (HRST.out _ HEE.out).mono ?_); rintro e w8 ⟨rfl, g8⟩) | (go_at_call 5; (with_reducible refine (wakes30_any _).mono ?_); rintro e w9 ⟨rfl, g9⟩))
                  go_ret
                  exact ⟨rfl, (HEE.out.tr g8).tr g9⟩

end Go.Proofs.YtedamnocolfmlaaGreat
