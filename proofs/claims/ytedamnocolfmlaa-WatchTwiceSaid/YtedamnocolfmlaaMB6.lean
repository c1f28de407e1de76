/- Lemmas of this claim, put together out of: SR6, SR7, SR8, SR9, ET, EU, EW, EZT. -/
import Derived.Test.YtedamnocolfmlaaMB5
set_option linter.unusedSimpArgs false
set_option linter.unusedVariables false
/- symMerge where the first part has one element. -/
namespace Go.Proofs.Ytedamnocolfmlaa
open Go.RowKit

theorem half_int (a b : Int) (h0 : 0 ≤ a) (h1 : 0 ≤ b) : (a + b) / 2 ^ 1 = (a + b) / 2 := by rw [Int.pow_one]
theorem get_mid {α : Type} {P A S : List α} {k : Nat} {x : α} (h : A[k]? = some x) : (P ++ A ++ S)[P.length + k]? = some x := by
  have hk : k < A.length := (List.getElem?_eq_some_iff.1 h).1
  rw [List.append_assoc, List.getElem?_append_right (by omega), show P.length + k - P.length = k by omega, List.getElem?_append_left hk]
  exact h
set_option maxRecDepth 100000 in
set_option maxHeartbeats 8000000 in
theorem symA_any (R : Ho → Prop) (lt : Ho → Ho → Prop) (cm : Ho → Ho → Int) (hcm : ∀ x y, R x → R y → (lt x y ↔ cm x y < 0)) (g0 : Nat) (lb : Array Value) (eg : ∀ args w, (callFunc g0 args).run Try.prog w = .ok (.enter g0 args) w)
    (hf : ∀ x y W, R x → R y → Calls Try.prog g0 (#[.agg #[.int .u32 x.t.a, .int .u32 x.t.b, .int .u16 x.t.c, .int .u16 x.t.d, .int .i64 x.n], .agg #[.int .u32 y.t.a, .int .u32 y.t.b, .int .u16 y.t.c, .int .u16 y.t.d, .int .i64 y.n]] ++ lb) W fun e w' => e = .returned (.int .i64 (cm x y)) ∧ Ext W w')
    (T : Tot lt) (g cap : Nat) (P B S : List Ho) (x : Ho) (hR : ∀ y ∈ x :: B, R y) (hS : Srt lt B) (hl : (P ++ ([x] ++ B) ++ S).length ≤ 1000) (w : World) (hr : RowH w g cap (P ++ ([x] ++ B) ++ S)) (n pa pm pb : Nat) (hn : n = (P ++ ([x] ++ B) ++ S).length) (ea : pa = P.length) (em : pm = pa + 1) (eb : pb = pm + B.length) :
    Calls Try.prog 70 #[.slice (some ⟨g, 0, none⟩) n cap, .int .i64 pa, .int .i64 pm, .int .i64 pb, .func (.func g0) #[] lb] w fun e w' => (∃ v, e = .returned v) ∧ (∃ C, RowH w' g cap (P ++ C ++ S) ∧ Srt lt C ∧ C.Perm ([x] ++ B)) ∧ Mv (fun q => q = g) w w' := by
  have hnl : n ≤ 1000 := by rw [hn]; exact hl
  have hnn : n = P.length + 1 + B.length + S.length := by rw [hn]; simp; omega
  have HN := Lib.hid hnn
  have HF := Lib.hid hf
  have HC := Lib.hid hcm
  have HRR := Lib.hid hR
  have HROW := Lib.hid hr
  have HS := Lib.hid hS
  have HA := Lib.hid ea
  have hpb : (pb : Int) ≤ 1000 := by omega
  have hd1 : (pm : Int) - pa = 1 := by omega
  have hpam : (pa : Int) ≤ pm := by omega
  have hpmb : (pm : Int) ≤ pb := by omega
  have HM := Lib.hid em
  have HB := Lib.hid eb
  clear hf hcm hR hr hS hl hn hnn ea em eb
  go_enter Try.func70, Try.ntmps70
  go_wp2
  go_loopw [10, 11] (fun qi qj wr => ∃ (i j : Nat), qi = .int .i64 ((pm + i : Nat) : Int) ∧ qj = .int .i64 ((pm + j : Nat) : Int) ∧ PutAt lt x B i j ∧ Ext w wr) (fun qi qj _ => (intOf qj).toNat - (intOf qi).toNat)
  case atStart => exact ⟨0, B.length, rfl, by rw [HB.out], PutAt.start lt x B, Ext.rf _⟩
  case round =>
    obtain ⟨i, j, rfl, rfl, hP, hE⟩ := hrel
    have hle := hP.le
    have htop := hP.top
    have HP := Lib.hid hP
    clear hP
    by_cases hij : i < j
    · have hlt' : ((pm + i : Nat) : Int) < ((pm + j : Nat) : Int) := by omega
      obtain ⟨h, hh⟩ : ∃ h, (i + j) / 2 = h := ⟨_, rfl⟩
      have hhv : (((pm + i : Nat) : Int) + ((pm + j : Nat) : Int)) / 2 = ((pm + h : Nat) : Int) := by omega
      have hb1 : ((pm + i : Nat) : Int) ≤ 1000 := by have := HB.out; omega
      have hb2 : ((pm + j : Nat) : Int) ≤ 1000 := by have := HB.out; omega
      go_upto_region 5 with (fail)
      rw [show ((pm : Int) + i + (pm + j)) / 2 = ((pm + h : Nat) : Int) by omega]
      obtain ⟨y, hy⟩ : ∃ y, B[h]? = some y := ⟨B[h]'(by omega), List.getElem?_eq_getElem (by omega)⟩
      have hrow := HROW.out.ext hE
      have hx1 : (P ++ ([x] ++ B) ++ S)[pa]? = some x := by
        have := get_mid (P := P) (S := S) (A := [x] ++ B) (k := 0) (x := x) rfl
        rw [HA.out]; exact this
      have hy1 : (P ++ ([x] ++ B) ++ S)[pm + h]? = some y := by
        have := get_mid (P := P) (S := S) (A := [x] ++ B) (k := h + 1) (x := y) (by simpa using hy)
        rw [show pm + h = P.length + (h + 1) by have := HA.out; have := HM.out; omega]; exact this
      obtain ⟨c0, c1, c2, c3, c4⟩ := hrow.cells hx1
      obtain ⟨d0, d1, d2, d3, d4⟩ := hrow.cells hy1
      have lg : Lt g wr := hrow.lt
      have hRx : R x := HRR.out x (by simp)
      have hRy : R y := HRR.out y (by simp [List.mem_of_getElem? hy])
      have HCL := Lib.hid (fun W => HF.out y x W hRy hRx)
      have HCMP := Lib.hid (HC.out y x hRy hRx)
      have hpn : (pa : Int) < n := by have := HN.out; have := HA.out; omega
      have hhn : ((pm + h : Nat) : Int) < n := by have := HN.out; have := HA.out; have := HM.out; omega
      have HY := Lib.hid hy
      have HE := Lib.hid hE
      have hih : i ≤ h := by omega
      have hhj : h < j := by omega
      have hjm : j ≤ B.length := htop
      clear hy hx1 hy1 hrow hE hRx hRy hh hhv
      cases hlc : decide (cm y x < 0)
      · have hno : ¬ lt y x := fun h => by have := HCMP.out.1 h; exact absurd this (of_decide_eq_false hlc)
        have HNX := Lib.hid (HP.out.no (h := h) (by omega) (by omega) fun z e => by rw [HY.out] at e; cases e; exact hno)
        clear hno
        refine wp_region_later (by kernel_rfl) (by kernel_rfl) ?_; (repeat (go_big_quiet_step (exact calls_later (HCL.out _)))); refine wpQuiet_nil ?_; intro d
        have HD := Lib.hid (HE.out.tr (later_ext d))
        generalize later d = W3 at *
        go_wp2
        go_roundw
        case rel => exact ⟨i, h, rfl, rfl, HNX.out, HD.out⟩
        case measure => simp [intOf]; omega
      · have hyes : lt y x := HCMP.out.2 (of_decide_eq_true hlc)
        have HNX := Lib.hid (HP.out.yes (h := h) (by omega) fun z e => by rw [HY.out] at e; cases e; exact T.tot _ _ hyes)
        clear hyes
        refine wp_region_later (by kernel_rfl) (by kernel_rfl) ?_; (repeat (go_big_quiet_step (exact calls_later (HCL.out _)))); refine wpQuiet_nil ?_; intro d
        have HD := Lib.hid (HE.out.tr (later_ext d))
        generalize later d = W3 at *
        go_wp2
        go_roundw
        case rel => exact ⟨h + 1, j, by go_num, rfl, HNX.out, HD.out⟩
        case measure => simp [intOf]; omega
    · obtain rfl : i = j := by omega
      have hge : ¬ ((pm + i : Nat) : Int) < ((pm + i : Nat) : Int) := by omega
      have HE := Lib.hid hE
      clear hE
      have hwr : IntKind.i64.wrap ((pm : Int) + i - 1) = ((pa + i : Nat) : Int) := by
        have := HB.out
        have := HM.out
        rw [IntKind.wrap_i64]
        omega
      have HSRT := Lib.hid (HP.out.done T HS.out)
      have hr0 := HROW.out.ext HE.out
      have hBi : i ≤ B.length := htop
      go_wp2
      go_loopw [13] (fun q wr => ∃ t : Nat, t ≤ i ∧ q = .int .i64 ((pa + t : Nat) : Int) ∧ RowH wr g cap (P ++ (B.take t ++ x :: B.drop t) ++ S) ∧ Mv (fun q => q = g) w wr) (fun q _ => (pa + i) - (intOf q).toNat)
      case atStart => exact ⟨0, Nat.zero_le _, rfl, by simpa using hr0, Mv.of_ext HE.out⟩
      case round =>
        clear hr0
        obtain ⟨t, ht, rfl, hrow, hMv⟩ := hrel
        have HMV := Lib.hid hMv
        by_cases hti : t < i
        · have hlt' : ((pa + t : Nat) : Int) < ((pa + i : Nat) : Int) := by omega
          obtain ⟨z, hz⟩ : ∃ z, B[t]'(by omega) = z := ⟨_, rfl⟩
          have htk : B.take (t + 1) = B.take t ++ [z] := by rw [List.take_succ_eq_append_getElem (by omega), hz]
          have hdr : B.drop t = z :: B.drop (t + 1) := by rw [List.drop_eq_getElem_cons (by omega), hz]
          have hQl : (P ++ B.take t).length = pa + t := by rw [List.length_append, List.length_take, HA.out]; omega
          have e1 : P ++ (B.take t ++ x :: B.drop t) ++ S = (P ++ B.take t) ++ x :: z :: (B.drop (t + 1) ++ S) := by rw [hdr]; simp
          have HE2 := Lib.hid (show P ++ (B.take (t + 1) ++ x :: B.drop (t + 1)) ++ S = (P ++ B.take t) ++ z :: x :: (B.drop (t + 1) ++ S) by rw [htk]; simp)
          rw [e1] at hrow
          have hx1 : ((P ++ B.take t) ++ x :: z :: (B.drop (t + 1) ++ S))[pa + t]? = some x := by rw [List.getElem?_append_right (by omega), show pa + t - (P ++ B.take t).length = 0 by omega]; rfl
          have hz1 : ((P ++ B.take t) ++ x :: z :: (B.drop (t + 1) ++ S))[pa + t + 1]? = some z := by rw [List.getElem?_append_right (by omega), show pa + t + 1 - (P ++ B.take t).length = 1 by omega]; rfl
          have HSW := Lib.hid (show swp ((P ++ B.take t) ++ x :: z :: (B.drop (t + 1) ++ S)) (pa + t) (pa + t + 1) x z = (P ++ B.take t) ++ z :: x :: (B.drop (t + 1) ++ S) by rw [← hQl]; exact swp_next _ _ _ _)
          have hlen : ((P ++ B.take t) ++ x :: z :: (B.drop (t + 1) ++ S)).length = n := by
            rw [← e1]
            have := HN.out
            simp
            omega
          have HLEN := Lib.hid hlen
          have HROW2 := Lib.hid hrow
          obtain ⟨c0, c1, c2, c3, c4⟩ := hrow.cells hx1
          obtain ⟨d0, d1, d2, d3, d4⟩ := hrow.cells hz1
          obtain ⟨hfz, hgl⟩ := own_frz hrow.own
          have f0 := fun i => frozen_of_frz hfz i
          have lg : Lt g wr := hgl
          have hkn : ((pa + t : Nat) : Int) < n := by have := HN.out; have := HA.out; omega
          have hkn1 : (((pa + t : Nat) : Int) + 1) < n := by have := HN.out; have := HA.out; omega
          have hkn2 : ((pa + t + 1 : Nat) : Int) < n := by have := HN.out; have := HA.out; omega
          clear hz htk hdr e1 hrow hx1 hz1 hMv hlen
          go_wp2_with (fail)
          go_region
          rw [set5, set5, swW_eq]
          have HR4 := Lib.hid ((HROW2.out.swap x z (i := pa + t) (j := pa + t + 1) (by rw [HLEN.out]; omega) (by rw [HLEN.out]; omega)).ext (Ext.dr (Ext.rf _)))
          have HM4 := Lib.hid (Mv.dr (swW_mv (C := fun q => q = g) rfl (pa + t) (pa + t + 1) x z HMV.out))
          generalize (swW wr g (pa + t) (pa + t + 1) x z).drew = W4 at *
          clear c0 c1 c2 c3 c4 d0 d1 d2 d3 d4 f0 hfz HROW2 HMV
          go_wp2
          go_roundw
          case rel => exact ⟨t + 1, by omega, by go_num, by rw [HE2.out, ← HSW.out]; exact HR4.out, HM4.out⟩
          case measure => simp [intOf]; omega
        · obtain rfl : t = i := by omega
          have hge2 : ¬ ((pa + t : Nat) : Int) < ((pa + t : Nat) : Int) := by omega
          have HROW2 := Lib.hid hrow
          clear hrow hMv
          go_wp2
          refine bodyPost_ret (results_none rfl _ _ _) rfl ?_
          exact ⟨⟨_, rfl⟩, ⟨B.take t ++ x :: B.drop t, by simpa using HROW2.out, HSRT.out, by
            refine List.perm_middle.trans ?_
            rw [List.take_append_drop]⟩, HMV.out⟩

end Go.Proofs.Ytedamnocolfmlaa

/- symMerge where the second part has one element. -/
namespace Go.Proofs.Ytedamnocolfmlaa
open Go.RowKit

set_option maxRecDepth 100000 in
set_option maxHeartbeats 8000000 in
theorem symB_any (R : Ho → Prop) (lt : Ho → Ho → Prop) (cm : Ho → Ho → Int) (hcm : ∀ x y, R x → R y → (lt x y ↔ cm x y < 0)) (g0 : Nat) (lb : Array Value) (eg : ∀ args w, (callFunc g0 args).run Try.prog w = .ok (.enter g0 args) w)
    (hf : ∀ x y W, R x → R y → Calls Try.prog g0 (#[.agg #[.int .u32 x.t.a, .int .u32 x.t.b, .int .u16 x.t.c, .int .u16 x.t.d, .int .i64 x.n], .agg #[.int .u32 y.t.a, .int .u32 y.t.b, .int .u16 y.t.c, .int .u16 y.t.d, .int .i64 y.n]] ++ lb) W fun e w' => e = .returned (.int .i64 (cm x y)) ∧ Ext W w')
    (T : Tot lt) (g cap : Nat) (P A S : List Ho) (x : Ho) (hA2 : 2 ≤ A.length) (hR : ∀ y ∈ x :: A, R y) (hS : Srt lt A) (hl : (P ++ (A ++ [x]) ++ S).length ≤ 1000) (w : World) (hr : RowH w g cap (P ++ (A ++ [x]) ++ S)) (n pa pm pb : Nat) (hn : n = (P ++ (A ++ [x]) ++ S).length) (ea : pa = P.length) (em : pm = pa + A.length) (eb : pb = pm + 1) :
    Calls Try.prog 70 #[.slice (some ⟨g, 0, none⟩) n cap, .int .i64 pa, .int .i64 pm, .int .i64 pb, .func (.func g0) #[] lb] w fun e w' => (∃ v, e = .returned v) ∧ (∃ C, RowH w' g cap (P ++ C ++ S) ∧ Srt lt C ∧ C.Perm (A ++ [x])) ∧ Mv (fun q => q = g) w w' := by
  have hnl : n ≤ 1000 := by rw [hn]; exact hl
  have hnn : n = P.length + A.length + 1 + S.length := by rw [hn]; simp; omega
  have HN := Lib.hid hnn
  have HF := Lib.hid hf
  have HC := Lib.hid hcm
  have HRR := Lib.hid hR
  have HROW := Lib.hid hr
  have HS := Lib.hid hS
  have HA := Lib.hid ea
  have hpb : (pb : Int) ≤ 1000 := by omega
  have hpm1 : (pm : Int) ≤ 1000 := by omega
  have hd1 : (((pm : Int) - pa) == 1) = false := by rw [beq_eq_false_iff_ne]; omega
  have hd2 : (pb : Int) - pm = 1 := by omega
  have hpam : (pa : Int) ≤ pm := by omega
  have hpmb : (pm : Int) ≤ pb := by omega
  have HM := Lib.hid em
  have HB := Lib.hid eb
  clear hf hcm hR hr hS hl hn hnn ea em eb
  go_enter Try.func70, Try.ntmps70
  go_wp2
  go_loopw [14, 15] (fun qi qj wr => ∃ (i j : Nat), qi = .int .i64 ((pa + i : Nat) : Int) ∧ qj = .int .i64 ((pa + j : Nat) : Int) ∧ PutAt lt x A i j ∧ Ext w wr) (fun qi qj _ => (intOf qj).toNat - (intOf qi).toNat)
  case atStart => exact ⟨0, A.length, rfl, by rw [HM.out], PutAt.start lt x A, Ext.rf _⟩
  case round =>
    obtain ⟨i, j, rfl, rfl, hP, hE⟩ := hrel
    have hle := hP.le
    have htop := hP.top
    have HP := Lib.hid hP
    clear hP
    by_cases hij : i < j
    · have hlt' : ((pa + i : Nat) : Int) < ((pa + j : Nat) : Int) := by omega
      obtain ⟨h, hh⟩ : ∃ h, (i + j) / 2 = h := ⟨_, rfl⟩
      have hb1 : ((pa + i : Nat) : Int) ≤ 1000 := by have := HM.out; omega
      have hb2 : ((pa + j : Nat) : Int) ≤ 1000 := by have := HM.out; omega
      go_upto_region 17 with (fail)
      rw [show ((pa : Int) + i + (pa + j)) / 2 = ((pa + h : Nat) : Int) by omega]
      obtain ⟨y, hy⟩ : ∃ y, A[h]? = some y := ⟨A[h]'(by omega), List.getElem?_eq_getElem (by omega)⟩
      have hrow := HROW.out.ext hE
      have hx1 : (P ++ (A ++ [x]) ++ S)[pm]? = some x := by
        have := get_mid (P := P) (S := S) (A := A ++ [x]) (k := A.length) (x := x) (by simp)
        rw [show pm = P.length + A.length by have := HA.out; have := HM.out; omega]; exact this
      have hy1 : (P ++ (A ++ [x]) ++ S)[pa + h]? = some y := by
        have := get_mid (P := P) (S := S) (A := A ++ [x]) (k := h) (x := y) (by rw [List.getElem?_append_left (by omega)]; exact hy)
        rw [HA.out]; exact this
      obtain ⟨c0, c1, c2, c3, c4⟩ := hrow.cells hx1
      obtain ⟨d0, d1, d2, d3, d4⟩ := hrow.cells hy1
      have lg : Lt g wr := hrow.lt
      have hRx : R x := HRR.out x (by simp)
      have hRy : R y := HRR.out y (by simp [List.mem_of_getElem? hy])
      have HCL := Lib.hid (fun W => HF.out x y W hRx hRy)
      have HCMP := Lib.hid (HC.out x y hRx hRy)
      have hpn : (pm : Int) < n := by have := HN.out; have := HA.out; have := HM.out; omega
      have hhn : ((pa + h : Nat) : Int) < n := by have := HN.out; have := HA.out; omega
      have HY := Lib.hid hy
      have HE := Lib.hid hE
      have hih : i ≤ h := by omega
      have hhj : h < j := by omega
      clear hy hx1 hy1 hrow hE hRx hRy hh
      cases hlc : decide (cm x y < 0)
      · have hno : ¬ lt x y := fun h => by have := HCMP.out.1 h; exact absurd this (of_decide_eq_false hlc)
        have HNX := Lib.hid (HP.out.yes (h := h) (by omega) fun z e => by rw [HY.out] at e; cases e; exact hno)
        clear hno
        refine wp_region_later (by kernel_rfl) (by kernel_rfl) ?_; (repeat (go_big_quiet_step (exact calls_later (HCL.out _)))); refine wpQuiet_nil ?_; intro d
        have HD := Lib.hid (HE.out.tr (later_ext d))
        generalize later d = W3 at *
        go_wp2
        go_roundw
        case rel => exact ⟨h + 1, j, by go_num, rfl, HNX.out, HD.out⟩
        case measure => simp [intOf]; omega
      · have hyes : lt x y := HCMP.out.2 (of_decide_eq_true hlc)
        have HNX := Lib.hid (HP.out.no (h := h) (by omega) (by omega) fun z e => by rw [HY.out] at e; cases e; exact T.tot _ _ hyes)
        clear hyes
        refine wp_region_later (by kernel_rfl) (by kernel_rfl) ?_; (repeat (go_big_quiet_step (exact calls_later (HCL.out _)))); refine wpQuiet_nil ?_; intro d
        have HD := Lib.hid (HE.out.tr (later_ext d))
        generalize later d = W3 at *
        go_wp2
        go_roundw
        case rel => exact ⟨i, h, rfl, rfl, HNX.out, HD.out⟩
        case measure => simp [intOf]; omega
    · obtain rfl : i = j := by omega
      have hge : ¬ ((pa + i : Nat) : Int) < ((pa + i : Nat) : Int) := by omega
      have HE := Lib.hid hE
      clear hE
      have HSRT := Lib.hid (HP.out.done T HS.out)
      have hr0 := HROW.out.ext HE.out
      have hBi : i ≤ A.length := htop
      go_wp2
      go_loopw [17] (fun q wr => ∃ t : Nat, i ≤ t ∧ t ≤ A.length ∧ q = .int .i64 ((pa + t : Nat) : Int) ∧ RowH wr g cap (P ++ (A.take t ++ x :: A.drop t) ++ S) ∧ Mv (fun q => q = g) w wr) (fun q _ => (intOf q).toNat)
      case atStart => exact ⟨A.length, hBi, Nat.le_refl _, by rw [HM.out], by simpa using hr0, Mv.of_ext HE.out⟩
      case round =>
        clear hr0
        obtain ⟨t, hit, htA, rfl, hrow, hMv⟩ := hrel
        have HMV := Lib.hid hMv
        by_cases hti : i < t
        · obtain ⟨t, rfl⟩ : ∃ t', t = t' + 1 := ⟨t - 1, by omega⟩
          have hlt' : ((pa + i : Nat) : Int) < ((pa + (t + 1) : Nat) : Int) := by omega
          have hlt2 : (pa : Int) + i < ((pa + (t + 1) : Nat) : Int) := by omega
          have hlt3 : (pa : Int) + i < (pa : Int) + ((t : Int) + 1) := by omega
          obtain ⟨z, hz⟩ : ∃ z, A[t]'(by omega) = z := ⟨_, rfl⟩
          have htk : A.take (t + 1) = A.take t ++ [z] := by rw [List.take_succ_eq_append_getElem (by omega), hz]
          have hdr : A.drop t = z :: A.drop (t + 1) := by rw [List.drop_eq_getElem_cons (by omega), hz]
          have hQl : (P ++ A.take t).length = pa + t := by rw [List.length_append, List.length_take, HA.out]; omega
          have e1 : P ++ (A.take (t + 1) ++ x :: A.drop (t + 1)) ++ S = (P ++ A.take t) ++ z :: x :: (A.drop (t + 1) ++ S) := by rw [htk]; simp
          have HE2 := Lib.hid (show P ++ (A.take t ++ x :: A.drop t) ++ S = (P ++ A.take t) ++ x :: z :: (A.drop (t + 1) ++ S) by rw [hdr]; simp)
          rw [e1] at hrow
          have hx1 : ((P ++ A.take t) ++ z :: x :: (A.drop (t + 1) ++ S))[pa + t]? = some z := by rw [List.getElem?_append_right (by omega), show pa + t - (P ++ A.take t).length = 0 by omega]; rfl
          have hz1 : ((P ++ A.take t) ++ z :: x :: (A.drop (t + 1) ++ S))[pa + (t + 1)]? = some x := by rw [List.getElem?_append_right (by omega), show pa + (t + 1) - (P ++ A.take t).length = 1 by omega]; rfl
          have HSW := Lib.hid (show swp ((P ++ A.take t) ++ z :: x :: (A.drop (t + 1) ++ S)) (pa + (t + 1)) (pa + t) x z = (P ++ A.take t) ++ x :: z :: (A.drop (t + 1) ++ S) by rw [← hQl, show pa + (t + 1) = (P ++ A.take t).length + 1 by omega]; exact swp_prev _ _ _ _)
          have hlen : ((P ++ A.take t) ++ z :: x :: (A.drop (t + 1) ++ S)).length = n := by
            rw [← e1]
            have := HN.out
            simp
            omega
          have HLEN := Lib.hid hlen
          have HROW2 := Lib.hid hrow
          obtain ⟨c0, c1, c2, c3, c4⟩ := hrow.cells hx1
          obtain ⟨d0, d1, d2, d3, d4⟩ := hrow.cells hz1
          obtain ⟨hfz, hgl⟩ := own_frz hrow.own
          have f0 := fun i => frozen_of_frz hfz i
          have lg : Lt g wr := hgl
          have hkn : ((pa + t : Nat) : Int) < n := by have := HN.out; have := HA.out; omega
          have hkn2 : ((pa + (t + 1) : Nat) : Int) < n := by have := HN.out; have := HA.out; omega
          have hkw : IntKind.i64.wrap (((pa + (t + 1) : Nat) : Int) - 1) = ((pa + t : Nat) : Int) := by rw [IntKind.wrap_i64]; omega
          clear hz htk hdr e1 hrow hx1 hz1 hMv hlen
          go_wp2_with (fail)
          go_region
          rw [set5, set5, swW_eq]
          have HR4 := Lib.hid ((HROW2.out.swap x z (i := pa + (t + 1)) (j := pa + t) (by rw [HLEN.out]; omega) (by rw [HLEN.out]; omega)).ext (Ext.dr (Ext.rf _)))
          have HM4 := Lib.hid (Mv.dr (swW_mv (C := fun q => q = g) rfl (pa + (t + 1)) (pa + t) x z HMV.out))
          generalize (swW wr g (pa + (t + 1)) (pa + t) x z).drew = W4 at *
          clear c0 c1 c2 c3 c4 d0 d1 d2 d3 d4 f0 hfz HROW2 HMV
          go_wp2
          go_roundw
          case rel => exact ⟨t, by omega, by omega, by first | rfl | go_num, by rw [HE2.out, ← HSW.out]; exact HR4.out, HM4.out⟩
          case measure => first | (simp [intOf]; done) | (simp [intOf]; omega)
        · obtain rfl : t = i := by omega
          have hge2 : ¬ ((pa + t : Nat) : Int) < ((pa + t : Nat) : Int) := by omega
          have HROW2 := Lib.hid hrow
          clear hrow hMv
          go_wp2
          refine bodyPost_ret (results_none rfl _ _ _) rfl ?_
          exact ⟨⟨_, rfl⟩, ⟨A.take t ++ x :: A.drop t, by simpa using HROW2.out, HSRT.out, by
            refine List.perm_middle.trans ?_
            rw [List.take_append_drop]
            exact (List.perm_append_singleton x A).symm⟩, HMV.out⟩

end Go.Proofs.Ytedamnocolfmlaa

/- symMerge: the search, what is turned, what is merged. -/
namespace Go.Proofs.Ytedamnocolfmlaa
open Go.RowKit

/-- symMerge merges whatever two parts of at most N together. -/
def SymP (R : Ho → Prop) (lt : Ho → Ho → Prop) (g0 : Nat) (lb : Array Value) (N : Nat) : Prop := ∀ (g cap : Nat) (P A B S : List Ho), A.length + B.length ≤ N → 0 < A.length → 0 < B.length → (∀ y ∈ A ++ B, R y) → Srt lt A → Srt lt B → (P ++ (A ++ B) ++ S).length ≤ 1000 →
  ∀ w, RowH w g cap (P ++ (A ++ B) ++ S) → ∀ (n : Nat) (qa qm qb : Int), n = (P ++ (A ++ B) ++ S).length → qa = P.length → qm = (P.length + A.length : Nat) → qb = (P.length + A.length + B.length : Nat) →
    Calls Try.prog 70 #[.slice (some ⟨g, 0, none⟩) n cap, .int .i64 qa, .int .i64 qm, .int .i64 qb, .func (.func g0) #[] lb] w fun e w' => (∃ v, e = .returned v) ∧ (∃ C, RowH w' g cap (P ++ C ++ S) ∧ Srt lt C ∧ C.Perm (A ++ B)) ∧ Mv (fun q => q = g) w w'
theorem sym_rows {α : Type} (P A B S : List α) (s t : Nat) : P ++ (A ++ B) ++ S = (P ++ A.take s) ++ A.drop s ++ B.take t ++ (B.drop t ++ S) ∧ P ++ (A.take s ++ B.take t) ++ (A.drop s ++ (B.drop t ++ S)) = (P ++ A.take s) ++ B.take t ++ A.drop s ++ (B.drop t ++ S) ∧ (P ++ (A ++ B) ++ S).length = (P ++ (A.take s ++ B.take t) ++ (A.drop s ++ (B.drop t ++ S))).length := by
  have e1 : P ++ (A ++ B) ++ S = (P ++ A.take s) ++ A.drop s ++ B.take t ++ (B.drop t ++ S) := by
    conv => lhs; rw [← List.take_append_drop s A, ← List.take_append_drop t B]
    simp only [List.append_assoc]
  refine ⟨e1, by simp, ?_⟩
  rw [e1]
  simp only [List.length_append]
  omega
theorem sym_done {lt : Ho → Ho → Prop} {A B C1 C2 : List Ho} {s t : Nat} (hA : Srt lt A) (hB : Srt lt B) (h1 : ∀ x ∈ A.take s, ∀ y ∈ B.drop t, ¬ lt y x) (h2 : ∀ x ∈ B.take t, ∀ y ∈ A.drop s, ¬ lt y x)
    (p1 : C1.Perm (A.take s ++ B.take t)) (s1 : Srt lt C1) (p2 : C2.Perm (A.drop s ++ B.drop t)) (s2 : Srt lt C2) : (C1 ++ C2).Perm (A ++ B) ∧ Srt lt (C1 ++ C2) := by
  have := merge_cut (A1 := A.take s) (A2 := A.drop s) (B1 := B.take t) (B2 := B.drop t) (by rw [List.take_append_drop]; exact hA) (by rw [List.take_append_drop]; exact hB) h1 h2 p1 s1 p2 s2
  rwa [List.take_append_drop, List.take_append_drop] at this
set_option maxRecDepth 100000 in
set_option maxHeartbeats 16000000 in
theorem symC_any (R : Ho → Prop) (lt : Ho → Ho → Prop) (cm : Ho → Ho → Int) (hcm : ∀ x y, R x → R y → (lt x y ↔ cm x y < 0)) (g0 : Nat) (lb : Array Value) (eg : ∀ args w, (callFunc g0 args).run Try.prog w = .ok (.enter g0 args) w)
    (hf : ∀ x y W, R x → R y → Calls Try.prog g0 (#[.agg #[.int .u32 x.t.a, .int .u32 x.t.b, .int .u16 x.t.c, .int .u16 x.t.d, .int .i64 x.n], .agg #[.int .u32 y.t.a, .int .u32 y.t.b, .int .u16 y.t.c, .int .u16 y.t.d, .int .i64 y.n]] ++ lb) W fun e w' => e = .returned (.int .i64 (cm x y)) ∧ Ext W w')
    (T : Tot lt) (N : Nat) (IH : SymP R lt g0 lb N) (g cap : Nat) (P A B S : List Ho) (hAB : A.length + B.length ≤ N + 1) (hA2 : 2 ≤ A.length) (hB2 : 2 ≤ B.length) (hR : ∀ y ∈ A ++ B, R y) (hSA : Srt lt A) (hSB : Srt lt B) (hl : (P ++ (A ++ B) ++ S).length ≤ 1000) (w : World) (hr : RowH w g cap (P ++ (A ++ B) ++ S)) (n pa pm pb : Nat) (hn : n = (P ++ (A ++ B) ++ S).length) (ea : pa = P.length) (em : pm = pa + A.length) (eb : pb = pm + B.length) :
    Calls Try.prog 70 #[.slice (some ⟨g, 0, none⟩) n cap, .int .i64 pa, .int .i64 pm, .int .i64 pb, .func (.func g0) #[] lb] w fun e w' => (∃ v, e = .returned v) ∧ (∃ C, RowH w' g cap (P ++ C ++ S) ∧ Srt lt C ∧ C.Perm (A ++ B)) ∧ Mv (fun q => q = g) w w' := by
  have hnl : n ≤ 1000 := by rw [hn]; exact hl
  have hnn : n = P.length + A.length + B.length + S.length := by rw [hn]; simp; omega
  have HN := Lib.hid hnn
  have HNE := Lib.hid hn
  have HF := Lib.hid hf
  have HC := Lib.hid hcm
  have HRR := Lib.hid hR
  have HROW := Lib.hid hr
  have HSA := Lib.hid hSA
  have HSB := Lib.hid hSB
  have HA := Lib.hid ea
  have HIH := Lib.hid IH
  obtain ⟨h, hh⟩ : ∃ h, h = (A.length + B.length) / 2 := ⟨_, rfl⟩
  have HH := Lib.hid hh
  have hpb : (pb : Int) ≤ 1000 := by omega
  have hpm1 : (pm : Int) ≤ 1000 := by omega
  have hpa1 : (pa : Int) ≤ 1000 := by omega
  have hd1 : (((pm : Int) - pa) == 1) = false := by rw [beq_eq_false_iff_ne]; omega
  have hd2 : (((pb : Int) - pm) == 1) = false := by rw [beq_eq_false_iff_ne]; omega
  have hpam : (pa : Int) ≤ pm := by omega
  have hpmb : (pm : Int) ≤ pb := by omega
  have hmid : ((pa : Int) + pb) / 2 = ((pa + h : Nat) : Int) := by omega
  have HM := Lib.hid em
  have HB := Lib.hid eb
  have HMID := Lib.hid hmid
  clear hf hcm hR hr hSA hSB hl hn hnn ea em eb hh IH hmid
  go_enter Try.func70, Try.ntmps70
  go_upto_region 25 with (fail)
  rw [HMID.out]
  have hm2 : ((pa + h : Nat) : Int) ≤ 1000 := by have := HA.out; have := HM.out; have := HB.out; have := HH.out; omega
  by_cases hhA : h < A.length
  · have hgt : ((pa + h : Nat) : Int) < pm := by have := HA.out; have := HM.out; have := HB.out; have := HH.out; omega
    obtain ⟨lo, hlo⟩ : ∃ lo, lo = h - B.length := ⟨_, rfl⟩
    have hBh : B.length ≤ h := by have := HA.out; have := HM.out; have := HB.out; have := HH.out; omega
    have hlohi : lo ≤ h := by omega
    have HLO := Lib.hid hlo
    have hhi : h ≤ h := Nat.le_refl _
    go_upto_region 33 with (fail)
    have HQ0 := Lib.hid (show Value.int .i64 ((pa : Int) + h + pm - pb) = .int .i64 ((pa + lo : Nat) : Int) from congrArg (Value.int .i64) (by have := HA.out; have := HM.out; have := HB.out; have := HH.out; omega))
    have HQ1 := Lib.hid (show Value.int .i64 ((pa + h : Nat) : Int) = .int .i64 ((pa + h : Nat) : Int) from rfl)
    have HCS := Lib.hid (show (h < A.length ∧ lo = h - B.length ∧ h = h ∧ B.length ≤ h) ∨ (A.length ≤ h ∧ lo = 0 ∧ h = A.length) from .inl ⟨hhA, hlo, rfl, hBh⟩)
    have HHI := Lib.hid (show h ≤ h ∧ h ≤ A.length ∧ h - B.length ≤ lo from ⟨Nat.le_refl _, Nat.le_of_lt hhA, by omega⟩)
    clear hlo

    go_loopw [20, 21] (fun qi qj wr => ∃ (s r : Nat), qi = .int .i64 ((pa + s : Nat) : Int) ∧ qj = .int .i64 ((pa + r : Nat) : Int) ∧ SymAt lt A B h lo h s r ∧ Ext w wr) (fun qi qj _ => (intOf qj).toNat - (intOf qi).toNat)
    case atStart => exact ⟨lo, h, HQ0.out, HQ1.out, ⟨Nat.le_refl _, hlohi, Nat.le_refl _, .inl rfl, .inl rfl⟩, Ext.rf _⟩
    case round =>
      obtain ⟨s, r, rfl, rfl, hP, hE⟩ := hrel
      have hle := hP.mid_
      have htop := hP.hi_
      have hlow := hP.lo_
      have HP := Lib.hid hP
      clear hP
      by_cases hij : s < r
      · have hlt' : ((pa + s : Nat) : Int) < ((pa + r : Nat) : Int) := by omega
        obtain ⟨c, hh⟩ : ∃ c, (s + r) / 2 = c := ⟨_, rfl⟩
        have hb1 : ((pa + s : Nat) : Int) ≤ 1000 := by have := HA.out; have := HM.out; have := HB.out; have := HH.out; omega
        have hb2 : ((pa + r : Nat) : Int) ≤ 1000 := by have := HA.out; have := HM.out; have := HB.out; have := HH.out; omega
        have hih : s ≤ c := by omega
        have hhj : c < r := by omega
        have hch : c < h := by have := HHI.out; omega
        have hcA : c < A.length := by have := HHI.out; omega
        have hcB : h - 1 - c < B.length := by have := HHI.out; omega
        go_upto_region 35 with (fail)
        rw [show ((pa : Int) + s + (pa + r)) / 2 = ((pa + c : Nat) : Int) by omega]
        obtain ⟨x, hx⟩ : ∃ x, A[c]? = some x := ⟨A[c]'hcA, List.getElem?_eq_getElem _⟩
        obtain ⟨y, hy⟩ : ∃ y, B[h - 1 - c]? = some y := ⟨B[h - 1 - c]'hcB, List.getElem?_eq_getElem _⟩
        have hrow := HROW.out.ext hE
        have hx1 : (P ++ (A ++ B) ++ S)[pa + c]? = some x := by
          have := get_mid (P := P) (S := S) (A := A ++ B) (k := c) (x := x) (by rw [List.getElem?_append_left hcA]; exact hx)
          rw [HA.out]; exact this
        have hy1 : (P ++ (A ++ B) ++ S)[pm + (h - 1 - c)]? = some y := by
          have := get_mid (P := P) (S := S) (A := A ++ B) (k := A.length + (h - 1 - c)) (x := y) (by rw [List.getElem?_append_right (by omega), show A.length + (h - 1 - c) - A.length = h - 1 - c by omega]; exact hy)
          rw [show pm + (h - 1 - c) = P.length + (A.length + (h - 1 - c)) by have := HA.out; have := HM.out; have := HB.out; have := HH.out; omega]; exact this
        obtain ⟨c0, c1, c2, c3, c4⟩ := hrow.cells hx1
        obtain ⟨d0, d1, d2, d3, d4⟩ := hrow.cells hy1
        have lg : Lt g wr := hrow.lt
        have hRx : R x := HRR.out x (List.mem_append_left _ (List.mem_of_getElem? hx))
        have hRy : R y := HRR.out y (List.mem_append_right _ (List.mem_of_getElem? hy))
        have HCL := Lib.hid (fun W => HF.out y x W hRy hRx)
        have HCMP := Lib.hid (HC.out y x hRy hRx)
        have hpn : ((pa + c : Nat) : Int) < n := by have := HA.out; have := HM.out; have := HB.out; have := HH.out; have := HN.out; omega
        have hhn : ((pm + (h - 1 - c) : Nat) : Int) < n := by have := HA.out; have := HM.out; have := HB.out; have := HH.out; have := HN.out; omega
        have hidx : (pa : Int) + h + pm - 1 - ((pa + c : Nat) : Int) = ((pm + (h - 1 - c) : Nat) : Int) := by have := HA.out; have := HM.out; have := HB.out; have := HH.out; omega
        have hidx2 : (pa : Int) + h + pm - 1 - ((pa : Int) + c) = ((pm + (h - 1 - c) : Nat) : Int) := by have := HA.out; have := HM.out; have := HB.out; have := HH.out; omega
        have hidx3 : IntKind.i64.wrap ((pa : Int) + h + pm - 1 - ((pa + c : Nat) : Int)) = ((pm + (h - 1 - c) : Nat) : Int) := by rw [hidx, IntKind.wrap_i64]; have := HA.out; have := HM.out; have := HB.out; have := HH.out; omega
        have HX := Lib.hid hx
        have HY := Lib.hid hy
        have HE := Lib.hid hE
        clear hy hx hx1 hy1 hrow hE hRx hRy hh
        cases hlc : decide (cm y x < 0)
        · have hno : ¬ lt y x := fun h => by have := HCMP.out.1 h; exact absurd this (of_decide_eq_false hlc)
          have HNX := Lib.hid (HP.out.yes (c := c) hih hhj fun z1 z2 e1 e2 => by rw [HX.out] at e1; rw [HY.out] at e2; cases e1; cases e2; exact hno)
          clear hno
          refine wp_region_later (by kernel_rfl) (by kernel_rfl) ?_; (repeat (go_big_quiet_step (exact calls_later (HCL.out _)))); refine wpQuiet_nil ?_; intro d
          have HD := Lib.hid (HE.out.tr (later_ext d))
          generalize later d = W3 at *
          go_wp2
          go_roundw
          case rel => exact ⟨c + 1, r, by go_num, rfl, HNX.out, HD.out⟩
          case measure => simp [intOf]; omega
        · have hyes : lt y x := HCMP.out.2 (of_decide_eq_true hlc)
          have HNX := Lib.hid (HP.out.no (c := c) hih hhj fun z1 z2 e1 e2 => by rw [HX.out] at e1; rw [HY.out] at e2; cases e1; cases e2; exact hyes)
          clear hyes
          refine wp_region_later (by kernel_rfl) (by kernel_rfl) ?_; (repeat (go_big_quiet_step (exact calls_later (HCL.out _)))); refine wpQuiet_nil ?_; intro d
          have HD := Lib.hid (HE.out.tr (later_ext d))
          generalize later d = W3 at *
          go_wp2
          go_roundw
          case rel => exact ⟨s, c, rfl, rfl, HNX.out, HD.out⟩
          case measure => simp [intOf]; omega
      · obtain rfl : s = r := by omega
        have hge : ¬ ((pa + s : Nat) : Int) < ((pa + s : Nat) : Int) := by omega
        have HE := Lib.hid hE
        clear hE
        obtain ⟨k1, k2, k3, x1, x2⟩ := sym_cut T HSA.out HSB.out HH.out HCS.out HP.out
        have HX1 := Lib.hid x1
        have HX2 := Lib.hid x2
        have hlA : (A.take s).length = s := by rw [List.length_take]; omega
        have hlA2 : (A.drop s).length = A.length - s := List.length_drop
        have hlB : (B.take (h - s)).length = h - s := by rw [List.length_take]; omega
        have hlB2 : (B.drop (h - s)).length = B.length - (h - s) := List.length_drop
        have hrow := HROW.out.ext HE.out
        have HL0 := Lib.hid (sym_rows P A B S s (h - s))
        have HM0 := Lib.hid (Mv.of_ext (C := fun q => q = g) HE.out)
        have hnl2 : n = P.length + A.length + B.length + S.length := HN.out
        have hh2 : h = (A.length + B.length) / 2 := HH.out
        have HROT := Lib.hid (show 0 < A.length - s → 0 < h - s → ∀ qa qm qb : Int, qa = ((pa + s : Nat) : Int) → qm = (pm : Int) → qb = ((pm + (h - s) : Nat) : Int) → Calls Try.prog 86 #[.slice (some ⟨g, 0, none⟩) n cap, .int .i64 qa, .int .i64 qm, .int .i64 qb, .func (.func g0) #[] lb] wr fun e w' => (∃ v, e = .returned v) ∧ RowH w' g cap (P ++ (A.take s ++ B.take (h - s)) ++ (A.drop s ++ (B.drop (h - s) ++ S))) ∧ Mv (fun q => q = g) wr w' from fun q1 q2 qa qm qb ea em eb => by
          subst ea em eb
          have hr1 : RowH wr g cap ((P ++ A.take s) ++ A.drop s ++ B.take (h - s) ++ (B.drop (h - s) ++ S)) := by rw [← (HL0.out).1]; exact hrow
          have hln : n = ((P ++ A.take s) ++ A.drop s ++ B.take (h - s) ++ (B.drop (h - s) ++ S)).length := by rw [← (HL0.out).1]; exact HNE.out
          have := rotate_any g cap (P ++ A.take s) (A.drop s) (B.take (h - s)) (B.drop (h - s) ++ S) (by omega) (by omega) (by rw [← hln]; exact hnl) (.func (.func g0) #[] lb) wr hr1 n (pa + s) pm (pm + (h - s)) hln (by rw [List.length_append, hlA, HA.out]) (by rw [List.length_append, hlA, hlA2]; have := HM.out; have := HA.out; omega) (by rw [List.length_append, hlA, hlA2, hlB]; have := HM.out; have := HA.out; omega)
          refine this.mono ?_
          rintro e w' ⟨h1, h2, h3⟩
          exact ⟨h1, by rw [(HL0.out).2.1]; exact h2, h3⟩)
        have HS1 := Lib.hid (show 0 < s → 0 < h - s → ∀ W, RowH W g cap (P ++ (A.take s ++ B.take (h - s)) ++ (A.drop s ++ (B.drop (h - s) ++ S))) → ∀ qa qm qb : Int, qa = (pa : Int) → qm = ((pa + s : Nat) : Int) → qb = ((pa + h : Nat) : Int) → Calls Try.prog 70 #[.slice (some ⟨g, 0, none⟩) n cap, .int .i64 qa, .int .i64 qm, .int .i64 qb, .func (.func g0) #[] lb] W fun e w' => (∃ v, e = .returned v) ∧ (∃ C, RowH w' g cap (P ++ C ++ (A.drop s ++ (B.drop (h - s) ++ S))) ∧ Srt lt C ∧ C.Perm (A.take s ++ B.take (h - s))) ∧ Mv (fun q => q = g) W w' from fun q1 q2 W hW qa qm qb ea em eb =>
          HIH.out g cap P (A.take s) (B.take (h - s)) (A.drop s ++ (B.drop (h - s) ++ S)) (by omega) (by omega) (by omega) (fun y hy => HRR.out y (by
            rcases List.mem_append.1 hy with hy | hy
            · exact List.mem_append_left _ (List.mem_of_mem_take hy)
            · exact List.mem_append_right _ (List.mem_of_mem_take hy))) (HSA.out.sublist (List.take_sublist _ _)) (HSB.out.sublist (List.take_sublist _ _)) (by rw [← (HL0.out).2.2, ← HNE.out]; exact hnl) W hW n qa qm qb (by rw [← (HL0.out).2.2]; exact HNE.out) (by rw [ea, HA.out]) (by rw [em, hlA, HA.out]) (by rw [eb, hlA, hlB, HA.out]; congr 1; omega))
        have HS2 := Lib.hid (show 0 < A.length - s → 0 < B.length - (h - s) → ∀ C1 : List Ho, C1.Perm (A.take s ++ B.take (h - s)) → ∀ W, RowH W g cap (P ++ C1 ++ (A.drop s ++ (B.drop (h - s) ++ S))) → ∀ qa qm qb : Int, qa = ((pa + h : Nat) : Int) → qm = ((pm + (h - s) : Nat) : Int) → qb = (pb : Int) → Calls Try.prog 70 #[.slice (some ⟨g, 0, none⟩) n cap, .int .i64 qa, .int .i64 qm, .int .i64 qb, .func (.func g0) #[] lb] W fun e w' => (∃ v, e = .returned v) ∧ (∃ C, RowH w' g cap ((P ++ C1) ++ C ++ S) ∧ Srt lt C ∧ C.Perm (A.drop s ++ B.drop (h - s))) ∧ Mv (fun q => q = g) W w' from fun q1 q2 C1 hC W hW qa qm qb ea em eb => by
          have hc1 : C1.length = h := by rw [hC.length_eq, List.length_append, hlA, hlB]; omega
          have e1 : P ++ C1 ++ (A.drop s ++ (B.drop (h - s) ++ S)) = (P ++ C1) ++ (A.drop s ++ B.drop (h - s)) ++ S := by simp
          have hln : n = ((P ++ C1) ++ (A.drop s ++ B.drop (h - s)) ++ S).length := by simp only [List.length_append, hlA2, hlB2, hc1]; omega
          rw [e1] at hW
          exact HIH.out g cap (P ++ C1) (A.drop s) (B.drop (h - s)) S (by omega) (by omega) (by omega) (fun y hy => HRR.out y (by
            rcases List.mem_append.1 hy with hy | hy
            · exact List.mem_append_left _ (List.mem_of_mem_drop hy)
            · exact List.mem_append_right _ (List.mem_of_mem_drop hy))) (HSA.out.sublist (List.drop_sublist _ _)) (HSB.out.sublist (List.drop_sublist _ _)) (by rw [← hln]; exact hnl) W hW n qa qm qb hln (by rw [ea, List.length_append, hc1, HA.out]) (by rw [em, List.length_append, hc1, hlA2]; congr 1; have := HM.out; have := HA.out; omega) (by rw [eb, List.length_append, hc1, hlA2, hlB2]; congr 1; have := HB.out; have := HM.out; have := HA.out; omega))
        have HDN := Lib.hid (fun C1 C2 p1 s1 p2 s2 => sym_done (C1 := C1) (C2 := C2) HSA.out HSB.out HX1.out HX2.out p1 s1 p2 s2)
        have HRW := Lib.hid (show (A.length - s = 0 ∨ h - s = 0) → RowH wr g cap (P ++ (A.take s ++ B.take (h - s)) ++ (A.drop s ++ (B.drop (h - s) ++ S))) from fun hz => by
          rw [(HL0.out).2.1]
          have hr1 := hrow
          rw [(HL0.out).1] at hr1
          rcases hz with hz | hz
          · rw [List.length_eq_zero_iff.1 (hlA2.trans hz)] at hr1 ⊢
            simpa using hr1
          · rw [List.length_eq_zero_iff.1 (hlB.trans hz)] at hr1 ⊢
            simpa using hr1)
        have HC1 := Lib.hid (show (s = 0 ∨ h - s = 0) → Srt lt (A.take s ++ B.take (h - s)) from fun hz => by
          rcases hz with hz | hz
          · rw [List.length_eq_zero_iff.1 (hlA.trans hz)]
            exact HSB.out.sublist (List.take_sublist _ _)
          · rw [List.length_eq_zero_iff.1 (hlB.trans hz), List.append_nil]
            exact HSA.out.sublist (List.take_sublist _ _))
        have HC2 := Lib.hid (show (A.length - s = 0 ∨ B.length - (h - s) = 0) → Srt lt (A.drop s ++ B.drop (h - s)) from fun hz => by
          rcases hz with hz | hz
          · rw [List.length_eq_zero_iff.1 (hlA2.trans hz)]
            exact HSB.out.sublist (List.drop_sublist _ _)
          · rw [List.length_eq_zero_iff.1 (hlB2.trans hz), List.append_nil]
            exact HSA.out.sublist (List.drop_sublist _ _))
        clear x1 x2 hrow hlA hlA2 hlB hlB2 hnl2 hh2
        have HPE := Lib.hid (show (pa : Int) + h + pm - (pa + s) = ((pm + (h - s) : Nat) : Int) by omega)
        go_upto_region 39 with (fail)
        rw [HPE.out]
        obtain ⟨ps, hps⟩ : ∃ q, pa + s = q := ⟨_, rfl⟩
        obtain ⟨ph, hph⟩ : ∃ q, pa + h = q := ⟨_, rfl⟩
        obtain ⟨pe, hpe⟩ : ∃ q, pm + (h - s) = q := ⟨_, rfl⟩
        first | rw [hps, hph, hpe] | rw [show (pa : Int) + h = ((pa + h : Nat) : Int) from (Int.natCast_add _ _).symm, hps, hph, hpe]
        have HPS := Lib.hid hps
        have HPH := Lib.hid hph
        have HPEE := Lib.hid hpe
        have hpsb : (ps : Int) ≤ 1000 := by omega
        have hpeb : (pe : Int) ≤ 1000 := by have := HA.out; have := HM.out; have := HB.out; have := HH.out; omega
        have hphb : (ph : Int) ≤ 1000 := by have := HA.out; have := HM.out; have := HB.out; have := HH.out; omega
        clear hps hph hpe HPE
        by_cases hp : s < A.length
        · by_cases hq : s < h
          · by_cases hr : 0 < s
            · by_cases ht : h - s < B.length
              · have e1 : ((ps : Int) < pm) := by (have := HPS.out; have := HPH.out; have := HPEE.out; have := HA.out; have := HM.out; have := HB.out; have := HH.out; omega)
                have e2 : ((pm : Int) < pe) := by (have := HPS.out; have := HPH.out; have := HPEE.out; have := HA.out; have := HM.out; have := HB.out; have := HH.out; omega)
                have e3 : ((pa : Int) < ps) := by (have := HPS.out; have := HPH.out; have := HPEE.out; have := HA.out; have := HM.out; have := HB.out; have := HH.out; omega)
                have e4 : ((ps : Int) < ph) := by (have := HPS.out; have := HPH.out; have := HPEE.out; have := HA.out; have := HM.out; have := HB.out; have := HH.out; omega)
                have e5 : ((ph : Int) < pe) := by (have := HPS.out; have := HPH.out; have := HPEE.out; have := HA.out; have := HM.out; have := HB.out; have := HH.out; omega)
                have e6 : ((pe : Int) < pb) := by (have := HPS.out; have := HPH.out; have := HPEE.out; have := HA.out; have := HM.out; have := HB.out; have := HH.out; omega)
                have UP : Hid (0 < A.length - s) := Lib.hid (by omega)
                have UQ : Hid (0 < h - s) := Lib.hid (by omega)
                have UR : Hid (0 < s) := Lib.hid (by omega)
                have UT : Hid (0 < B.length - (h - s)) := Lib.hid (by omega)
                clear hp hq hr ht
                go_upto_region 41 with (go_at_call 86; go_must (with_reducible refine (HROT.out UP.out UQ.out _ _ _ (by rw [HPS.out]) rfl (by rw [HPEE.out])).mono ?_); rintro e1' W2 ⟨⟨v1, rfl⟩, hr2, hm2⟩)
                have HR1 := Lib.hid hr2
                have HM1 := Lib.hid (HM0.out.trans hm2)
                clear hr2 hm2
                go_upto_region 43 with (go_at_call 70; go_must (with_reducible refine (HS1.out UR.out UQ.out _ HR1.out _ _ _ rfl (by rw [HPS.out]) (by rw [HPH.out])).mono ?_); rintro e2' W3 ⟨⟨v2, rfl⟩, ⟨C1, hr3, hs3, hp3⟩, hm3⟩)
                have HR2 := Lib.hid hr3
                have HM2 := Lib.hid (HM1.out.trans hm3)
                have HSC := Lib.hid hs3
                have HPC := Lib.hid hp3
                clear hr3 hm3 hs3 hp3
                go_wp2_with (go_at_call 70; go_must (with_reducible refine (HS2.out UP.out UT.out _ HPC.out _ HR2.out _ _ _ (by rw [HPH.out]) (by rw [HPEE.out]) rfl).mono ?_); rintro e3' W4 ⟨⟨v3, rfl⟩, ⟨C2, hr4, hs4, hp4⟩, hm4⟩)
                go_end0
                obtain ⟨f1, f2⟩ := HDN.out _ _ HPC.out HSC.out hp4 hs4
                exact ⟨⟨_, rfl⟩, ⟨_, by simpa using hr4, f2, f1⟩, HM2.out.trans hm4⟩
              · have e1 : ((ps : Int) < pm) := by (have := HPS.out; have := HPH.out; have := HPEE.out; have := HA.out; have := HM.out; have := HB.out; have := HH.out; omega)
                have e2 : ((pm : Int) < pe) := by (have := HPS.out; have := HPH.out; have := HPEE.out; have := HA.out; have := HM.out; have := HB.out; have := HH.out; omega)
                have e3 : ((pa : Int) < ps) := by (have := HPS.out; have := HPH.out; have := HPEE.out; have := HA.out; have := HM.out; have := HB.out; have := HH.out; omega)
                have e4 : ((ps : Int) < ph) := by (have := HPS.out; have := HPH.out; have := HPEE.out; have := HA.out; have := HM.out; have := HB.out; have := HH.out; omega)
                have e5 : ((ph : Int) < pe) := by (have := HPS.out; have := HPH.out; have := HPEE.out; have := HA.out; have := HM.out; have := HB.out; have := HH.out; omega)
                have e6 : ¬ ((pe : Int) < pb) := by (have := HPS.out; have := HPH.out; have := HPEE.out; have := HA.out; have := HM.out; have := HB.out; have := HH.out; omega)
                have UP : Hid (0 < A.length - s) := Lib.hid (by omega)
                have UQ : Hid (0 < h - s) := Lib.hid (by omega)
                have UR : Hid (0 < s) := Lib.hid (by omega)
                have UT : Hid (B.length - (h - s) = 0) := Lib.hid (by omega)
                clear hp hq hr ht
                go_upto_region 41 with (go_at_call 86; go_must (with_reducible refine (HROT.out UP.out UQ.out _ _ _ (by rw [HPS.out]) rfl (by rw [HPEE.out])).mono ?_); rintro e1' W2 ⟨⟨v1, rfl⟩, hr2, hm2⟩)
                have HR1 := Lib.hid hr2
                have HM1 := Lib.hid (HM0.out.trans hm2)
                clear hr2 hm2
                go_upto_region 43 with (go_at_call 70; go_must (with_reducible refine (HS1.out UR.out UQ.out _ HR1.out _ _ _ rfl (by rw [HPS.out]) (by rw [HPH.out])).mono ?_); rintro e2' W3 ⟨⟨v2, rfl⟩, ⟨C1, hr3, hs3, hp3⟩, hm3⟩)
                have HR2 := Lib.hid hr3
                have HM2 := Lib.hid (HM1.out.trans hm3)
                have HSC := Lib.hid hs3
                have HPC := Lib.hid hp3
                clear hr3 hm3 hs3 hp3
                go_wp2_with (fail)
                go_end0
                obtain ⟨f1, f2⟩ := HDN.out _ _ HPC.out HSC.out (List.Perm.refl _) (HC2.out (.inr UT.out))
                exact ⟨⟨_, rfl⟩, ⟨_, by simpa using HR2.out, f2, f1⟩, HM2.out⟩
            · by_cases ht : h - s < B.length
              · have e1 : ((ps : Int) < pm) := by (have := HPS.out; have := HPH.out; have := HPEE.out; have := HA.out; have := HM.out; have := HB.out; have := HH.out; omega)
                have e2 : ((pm : Int) < pe) := by (have := HPS.out; have := HPH.out; have := HPEE.out; have := HA.out; have := HM.out; have := HB.out; have := HH.out; omega)
                have e3 : ¬ ((pa : Int) < ps) := by (have := HPS.out; have := HPH.out; have := HPEE.out; have := HA.out; have := HM.out; have := HB.out; have := HH.out; omega)
                have e4 : ((ps : Int) < ph) := by (have := HPS.out; have := HPH.out; have := HPEE.out; have := HA.out; have := HM.out; have := HB.out; have := HH.out; omega)
                have e5 : ((ph : Int) < pe) := by (have := HPS.out; have := HPH.out; have := HPEE.out; have := HA.out; have := HM.out; have := HB.out; have := HH.out; omega)
                have e6 : ((pe : Int) < pb) := by (have := HPS.out; have := HPH.out; have := HPEE.out; have := HA.out; have := HM.out; have := HB.out; have := HH.out; omega)
                have UP : Hid (0 < A.length - s) := Lib.hid (by omega)
                have UQ : Hid (0 < h - s) := Lib.hid (by omega)
                have UR : Hid (s = 0) := Lib.hid (by omega)
                have UT : Hid (0 < B.length - (h - s)) := Lib.hid (by omega)
                clear hp hq hr ht
                go_upto_region 41 with (go_at_call 86; go_must (with_reducible refine (HROT.out UP.out UQ.out _ _ _ (by rw [HPS.out]) rfl (by rw [HPEE.out])).mono ?_); rintro e1' W2 ⟨⟨v1, rfl⟩, hr2, hm2⟩)
                have HR1 := Lib.hid hr2
                have HM1 := Lib.hid (HM0.out.trans hm2)
                clear hr2 hm2
                go_upto_region 43 with (fail)
                have HR2 := HR1
                have HM2 := HM1
                have HSC := Lib.hid (HC1.out (.inl UR.out))
                have HPC := Lib.hid (List.Perm.refl (A.take s ++ B.take (h - s)))
                go_wp2_with (go_at_call 70; go_must (with_reducible refine (HS2.out UP.out UT.out _ HPC.out _ HR2.out _ _ _ (by rw [HPH.out]) (by rw [HPEE.out]) rfl).mono ?_); rintro e3' W4 ⟨⟨v3, rfl⟩, ⟨C2, hr4, hs4, hp4⟩, hm4⟩)
                go_end0
                obtain ⟨f1, f2⟩ := HDN.out _ _ HPC.out HSC.out hp4 hs4
                exact ⟨⟨_, rfl⟩, ⟨_, by simpa using hr4, f2, f1⟩, HM2.out.trans hm4⟩
              · have e1 : ((ps : Int) < pm) := by (have := HPS.out; have := HPH.out; have := HPEE.out; have := HA.out; have := HM.out; have := HB.out; have := HH.out; omega)
                have e2 : ((pm : Int) < pe) := by (have := HPS.out; have := HPH.out; have := HPEE.out; have := HA.out; have := HM.out; have := HB.out; have := HH.out; omega)
                have e3 : ¬ ((pa : Int) < ps) := by (have := HPS.out; have := HPH.out; have := HPEE.out; have := HA.out; have := HM.out; have := HB.out; have := HH.out; omega)
                have e4 : ((ps : Int) < ph) := by (have := HPS.out; have := HPH.out; have := HPEE.out; have := HA.out; have := HM.out; have := HB.out; have := HH.out; omega)
                have e5 : ((ph : Int) < pe) := by (have := HPS.out; have := HPH.out; have := HPEE.out; have := HA.out; have := HM.out; have := HB.out; have := HH.out; omega)
                have e6 : ¬ ((pe : Int) < pb) := by (have := HPS.out; have := HPH.out; have := HPEE.out; have := HA.out; have := HM.out; have := HB.out; have := HH.out; omega)
                have UP : Hid (0 < A.length - s) := Lib.hid (by omega)
                have UQ : Hid (0 < h - s) := Lib.hid (by omega)
                have UR : Hid (s = 0) := Lib.hid (by omega)
                have UT : Hid (B.length - (h - s) = 0) := Lib.hid (by omega)
                clear hp hq hr ht
                go_upto_region 41 with (go_at_call 86; go_must (with_reducible refine (HROT.out UP.out UQ.out _ _ _ (by rw [HPS.out]) rfl (by rw [HPEE.out])).mono ?_); rintro e1' W2 ⟨⟨v1, rfl⟩, hr2, hm2⟩)
                have HR1 := Lib.hid hr2
                have HM1 := Lib.hid (HM0.out.trans hm2)
                clear hr2 hm2
                go_upto_region 43 with (fail)
                have HR2 := HR1
                have HM2 := HM1
                have HSC := Lib.hid (HC1.out (.inl UR.out))
                have HPC := Lib.hid (List.Perm.refl (A.take s ++ B.take (h - s)))
                go_wp2_with (fail)
                go_end0
                obtain ⟨f1, f2⟩ := HDN.out _ _ HPC.out HSC.out (List.Perm.refl _) (HC2.out (.inr UT.out))
                exact ⟨⟨_, rfl⟩, ⟨_, by simpa using HR2.out, f2, f1⟩, HM2.out⟩
          · by_cases hr : 0 < s
            · by_cases ht : h - s < B.length
              · have e1 : ((ps : Int) < pm) := by (have := HPS.out; have := HPH.out; have := HPEE.out; have := HA.out; have := HM.out; have := HB.out; have := HH.out; omega)
                have e2 : ¬ ((pm : Int) < pe) := by (have := HPS.out; have := HPH.out; have := HPEE.out; have := HA.out; have := HM.out; have := HB.out; have := HH.out; omega)
                have e3 : ((pa : Int) < ps) := by (have := HPS.out; have := HPH.out; have := HPEE.out; have := HA.out; have := HM.out; have := HB.out; have := HH.out; omega)
                have e4 : ¬ ((ps : Int) < ph) := by (have := HPS.out; have := HPH.out; have := HPEE.out; have := HA.out; have := HM.out; have := HB.out; have := HH.out; omega)
                have e5 : ((ph : Int) < pe) := by (have := HPS.out; have := HPH.out; have := HPEE.out; have := HA.out; have := HM.out; have := HB.out; have := HH.out; omega)
                have e6 : ((pe : Int) < pb) := by (have := HPS.out; have := HPH.out; have := HPEE.out; have := HA.out; have := HM.out; have := HB.out; have := HH.out; omega)
                have UP : Hid (0 < A.length - s) := Lib.hid (by omega)
                have UQ : Hid (h - s = 0) := Lib.hid (by omega)
                have UR : Hid (0 < s) := Lib.hid (by omega)
                have UT : Hid (0 < B.length - (h - s)) := Lib.hid (by omega)
                clear hp hq hr ht
                go_upto_region 41 with (fail)
                have HR1 := Lib.hid (HRW.out (.inr UQ.out))
                have HM1 := HM0
                go_upto_region 43 with (fail)
                have HR2 := HR1
                have HM2 := HM1
                have HSC := Lib.hid (HC1.out (.inr UQ.out))
                have HPC := Lib.hid (List.Perm.refl (A.take s ++ B.take (h - s)))
                go_wp2_with (go_at_call 70; go_must (with_reducible refine (HS2.out UP.out UT.out _ HPC.out _ HR2.out _ _ _ (by rw [HPH.out]) (by rw [HPEE.out]) rfl).mono ?_); rintro e3' W4 ⟨⟨v3, rfl⟩, ⟨C2, hr4, hs4, hp4⟩, hm4⟩)
                go_end0
                obtain ⟨f1, f2⟩ := HDN.out _ _ HPC.out HSC.out hp4 hs4
                exact ⟨⟨_, rfl⟩, ⟨_, by simpa using hr4, f2, f1⟩, HM2.out.trans hm4⟩
              · have e1 : ((ps : Int) < pm) := by (have := HPS.out; have := HPH.out; have := HPEE.out; have := HA.out; have := HM.out; have := HB.out; have := HH.out; omega)
                have e2 : ¬ ((pm : Int) < pe) := by (have := HPS.out; have := HPH.out; have := HPEE.out; have := HA.out; have := HM.out; have := HB.out; have := HH.out; omega)
                have e3 : ((pa : Int) < ps) := by (have := HPS.out; have := HPH.out; have := HPEE.out; have := HA.out; have := HM.out; have := HB.out; have := HH.out; omega)
                have e4 : ¬ ((ps : Int) < ph) := by (have := HPS.out; have := HPH.out; have := HPEE.out; have := HA.out; have := HM.out; have := HB.out; have := HH.out; omega)
                have e5 : ((ph : Int) < pe) := by (have := HPS.out; have := HPH.out; have := HPEE.out; have := HA.out; have := HM.out; have := HB.out; have := HH.out; omega)
                have e6 : ¬ ((pe : Int) < pb) := by (have := HPS.out; have := HPH.out; have := HPEE.out; have := HA.out; have := HM.out; have := HB.out; have := HH.out; omega)
                have UP : Hid (0 < A.length - s) := Lib.hid (by omega)
                have UQ : Hid (h - s = 0) := Lib.hid (by omega)
                have UR : Hid (0 < s) := Lib.hid (by omega)
                have UT : Hid (B.length - (h - s) = 0) := Lib.hid (by omega)
                clear hp hq hr ht
                go_upto_region 41 with (fail)
                have HR1 := Lib.hid (HRW.out (.inr UQ.out))
                have HM1 := HM0
                go_upto_region 43 with (fail)
                have HR2 := HR1
                have HM2 := HM1
                have HSC := Lib.hid (HC1.out (.inr UQ.out))
                have HPC := Lib.hid (List.Perm.refl (A.take s ++ B.take (h - s)))
                go_wp2_with (fail)
                go_end0
                obtain ⟨f1, f2⟩ := HDN.out _ _ HPC.out HSC.out (List.Perm.refl _) (HC2.out (.inr UT.out))
                exact ⟨⟨_, rfl⟩, ⟨_, by simpa using HR2.out, f2, f1⟩, HM2.out⟩
            · by_cases ht : h - s < B.length
              · exfalso; omega
              · exfalso; omega
        · by_cases hq : s < h
          · by_cases hr : 0 < s
            · by_cases ht : h - s < B.length
              · have e1 : ¬ ((ps : Int) < pm) := by (have := HPS.out; have := HPH.out; have := HPEE.out; have := HA.out; have := HM.out; have := HB.out; have := HH.out; omega)
                have e2 : ((pm : Int) < pe) := by (have := HPS.out; have := HPH.out; have := HPEE.out; have := HA.out; have := HM.out; have := HB.out; have := HH.out; omega)
                have e3 : ((pa : Int) < ps) := by (have := HPS.out; have := HPH.out; have := HPEE.out; have := HA.out; have := HM.out; have := HB.out; have := HH.out; omega)
                have e4 : ((ps : Int) < ph) := by (have := HPS.out; have := HPH.out; have := HPEE.out; have := HA.out; have := HM.out; have := HB.out; have := HH.out; omega)
                have e5 : ¬ ((ph : Int) < pe) := by (have := HPS.out; have := HPH.out; have := HPEE.out; have := HA.out; have := HM.out; have := HB.out; have := HH.out; omega)
                have e6 : ((pe : Int) < pb) := by (have := HPS.out; have := HPH.out; have := HPEE.out; have := HA.out; have := HM.out; have := HB.out; have := HH.out; omega)
                have UP : Hid (A.length - s = 0) := Lib.hid (by omega)
                have UQ : Hid (0 < h - s) := Lib.hid (by omega)
                have UR : Hid (0 < s) := Lib.hid (by omega)
                have UT : Hid (0 < B.length - (h - s)) := Lib.hid (by omega)
                clear hp hq hr ht
                go_upto_region 41 with (fail)
                have HR1 := Lib.hid (HRW.out (.inl UP.out))
                have HM1 := HM0
                go_upto_region 43 with (go_at_call 70; go_must (with_reducible refine (HS1.out UR.out UQ.out _ HR1.out _ _ _ rfl (by rw [HPS.out]) (by rw [HPH.out])).mono ?_); rintro e2' W3 ⟨⟨v2, rfl⟩, ⟨C1, hr3, hs3, hp3⟩, hm3⟩)
                have HR2 := Lib.hid hr3
                have HM2 := Lib.hid (HM1.out.trans hm3)
                have HSC := Lib.hid hs3
                have HPC := Lib.hid hp3
                clear hr3 hm3 hs3 hp3
                go_wp2_with (fail)
                go_end0
                obtain ⟨f1, f2⟩ := HDN.out _ _ HPC.out HSC.out (List.Perm.refl _) (HC2.out (.inl UP.out))
                exact ⟨⟨_, rfl⟩, ⟨_, by simpa using HR2.out, f2, f1⟩, HM2.out⟩
              · have e1 : ¬ ((ps : Int) < pm) := by (have := HPS.out; have := HPH.out; have := HPEE.out; have := HA.out; have := HM.out; have := HB.out; have := HH.out; omega)
                have e2 : ((pm : Int) < pe) := by (have := HPS.out; have := HPH.out; have := HPEE.out; have := HA.out; have := HM.out; have := HB.out; have := HH.out; omega)
                have e3 : ((pa : Int) < ps) := by (have := HPS.out; have := HPH.out; have := HPEE.out; have := HA.out; have := HM.out; have := HB.out; have := HH.out; omega)
                have e4 : ((ps : Int) < ph) := by (have := HPS.out; have := HPH.out; have := HPEE.out; have := HA.out; have := HM.out; have := HB.out; have := HH.out; omega)
                have e5 : ¬ ((ph : Int) < pe) := by (have := HPS.out; have := HPH.out; have := HPEE.out; have := HA.out; have := HM.out; have := HB.out; have := HH.out; omega)
                have e6 : ¬ ((pe : Int) < pb) := by (have := HPS.out; have := HPH.out; have := HPEE.out; have := HA.out; have := HM.out; have := HB.out; have := HH.out; omega)
                have UP : Hid (A.length - s = 0) := Lib.hid (by omega)
                have UQ : Hid (0 < h - s) := Lib.hid (by omega)
                have UR : Hid (0 < s) := Lib.hid (by omega)
                have UT : Hid (B.length - (h - s) = 0) := Lib.hid (by omega)
                clear hp hq hr ht
                go_upto_region 41 with (fail)
                have HR1 := Lib.hid (HRW.out (.inl UP.out))
                have HM1 := HM0
                go_upto_region 43 with (go_at_call 70; go_must (with_reducible refine (HS1.out UR.out UQ.out _ HR1.out _ _ _ rfl (by rw [HPS.out]) (by rw [HPH.out])).mono ?_); rintro e2' W3 ⟨⟨v2, rfl⟩, ⟨C1, hr3, hs3, hp3⟩, hm3⟩)
                have HR2 := Lib.hid hr3
                have HM2 := Lib.hid (HM1.out.trans hm3)
                have HSC := Lib.hid hs3
                have HPC := Lib.hid hp3
                clear hr3 hm3 hs3 hp3
                go_wp2_with (fail)
                go_end0
                obtain ⟨f1, f2⟩ := HDN.out _ _ HPC.out HSC.out (List.Perm.refl _) (HC2.out (.inl UP.out))
                exact ⟨⟨_, rfl⟩, ⟨_, by simpa using HR2.out, f2, f1⟩, HM2.out⟩
            · by_cases ht : h - s < B.length
              · have e1 : ¬ ((ps : Int) < pm) := by (have := HPS.out; have := HPH.out; have := HPEE.out; have := HA.out; have := HM.out; have := HB.out; have := HH.out; omega)
                have e2 : ((pm : Int) < pe) := by (have := HPS.out; have := HPH.out; have := HPEE.out; have := HA.out; have := HM.out; have := HB.out; have := HH.out; omega)
                have e3 : ¬ ((pa : Int) < ps) := by (have := HPS.out; have := HPH.out; have := HPEE.out; have := HA.out; have := HM.out; have := HB.out; have := HH.out; omega)
                have e4 : ((ps : Int) < ph) := by (have := HPS.out; have := HPH.out; have := HPEE.out; have := HA.out; have := HM.out; have := HB.out; have := HH.out; omega)
                have e5 : ¬ ((ph : Int) < pe) := by (have := HPS.out; have := HPH.out; have := HPEE.out; have := HA.out; have := HM.out; have := HB.out; have := HH.out; omega)
                have e6 : ((pe : Int) < pb) := by (have := HPS.out; have := HPH.out; have := HPEE.out; have := HA.out; have := HM.out; have := HB.out; have := HH.out; omega)
                have UP : Hid (A.length - s = 0) := Lib.hid (by omega)
                have UQ : Hid (0 < h - s) := Lib.hid (by omega)
                have UR : Hid (s = 0) := Lib.hid (by omega)
                have UT : Hid (0 < B.length - (h - s)) := Lib.hid (by omega)
                clear hp hq hr ht
                go_upto_region 41 with (fail)
                have HR1 := Lib.hid (HRW.out (.inl UP.out))
                have HM1 := HM0
                go_upto_region 43 with (fail)
                have HR2 := HR1
                have HM2 := HM1
                have HSC := Lib.hid (HC1.out (.inl UR.out))
                have HPC := Lib.hid (List.Perm.refl (A.take s ++ B.take (h - s)))
                go_wp2_with (fail)
                go_end0
                obtain ⟨f1, f2⟩ := HDN.out _ _ HPC.out HSC.out (List.Perm.refl _) (HC2.out (.inl UP.out))
                exact ⟨⟨_, rfl⟩, ⟨_, by simpa using HR2.out, f2, f1⟩, HM2.out⟩
              · have e1 : ¬ ((ps : Int) < pm) := by (have := HPS.out; have := HPH.out; have := HPEE.out; have := HA.out; have := HM.out; have := HB.out; have := HH.out; omega)
                have e2 : ((pm : Int) < pe) := by (have := HPS.out; have := HPH.out; have := HPEE.out; have := HA.out; have := HM.out; have := HB.out; have := HH.out; omega)
                have e3 : ¬ ((pa : Int) < ps) := by (have := HPS.out; have := HPH.out; have := HPEE.out; have := HA.out; have := HM.out; have := HB.out; have := HH.out; omega)
                have e4 : ((ps : Int) < ph) := by (have := HPS.out; have := HPH.out; have := HPEE.out; have := HA.out; have := HM.out; have := HB.out; have := HH.out; omega)
                have e5 : ¬ ((ph : Int) < pe) := by (have := HPS.out; have := HPH.out; have := HPEE.out; have := HA.out; have := HM.out; have := HB.out; have := HH.out; omega)
                have e6 : ¬ ((pe : Int) < pb) := by (have := HPS.out; have := HPH.out; have := HPEE.out; have := HA.out; have := HM.out; have := HB.out; have := HH.out; omega)
                have UP : Hid (A.length - s = 0) := Lib.hid (by omega)
                have UQ : Hid (0 < h - s) := Lib.hid (by omega)
                have UR : Hid (s = 0) := Lib.hid (by omega)
                have UT : Hid (B.length - (h - s) = 0) := Lib.hid (by omega)
                clear hp hq hr ht
                go_upto_region 41 with (fail)
                have HR1 := Lib.hid (HRW.out (.inl UP.out))
                have HM1 := HM0
                go_upto_region 43 with (fail)
                have HR2 := HR1
                have HM2 := HM1
                have HSC := Lib.hid (HC1.out (.inl UR.out))
                have HPC := Lib.hid (List.Perm.refl (A.take s ++ B.take (h - s)))
                go_wp2_with (fail)
                go_end0
                obtain ⟨f1, f2⟩ := HDN.out _ _ HPC.out HSC.out (List.Perm.refl _) (HC2.out (.inl UP.out))
                exact ⟨⟨_, rfl⟩, ⟨_, by simpa using HR2.out, f2, f1⟩, HM2.out⟩
          · by_cases hr : 0 < s
            · by_cases ht : h - s < B.length
              · first
                  | (exfalso; omega)
                  | (have e1 : ¬ ((ps : Int) < pm) := by (have := HPS.out; have := HPH.out; have := HPEE.out; have := HA.out; have := HM.out; have := HB.out; have := HH.out; omega)
                     have e2 : ¬ ((pm : Int) < pe) := by (have := HPS.out; have := HPH.out; have := HPEE.out; have := HA.out; have := HM.out; have := HB.out; have := HH.out; omega)
                     have e3 : ((pa : Int) < ps) := by (have := HPS.out; have := HPH.out; have := HPEE.out; have := HA.out; have := HM.out; have := HB.out; have := HH.out; omega)
                     have e4 : ¬ ((ps : Int) < ph) := by (have := HPS.out; have := HPH.out; have := HPEE.out; have := HA.out; have := HM.out; have := HB.out; have := HH.out; omega)
                     have e5 : ¬ ((ph : Int) < pe) := by (have := HPS.out; have := HPH.out; have := HPEE.out; have := HA.out; have := HM.out; have := HB.out; have := HH.out; omega)
                     have e6 : ((pe : Int) < pb) := by (have := HPS.out; have := HPH.out; have := HPEE.out; have := HA.out; have := HM.out; have := HB.out; have := HH.out; omega)
                     have UP : Hid (A.length - s = 0) := Lib.hid (by omega)
                     have UQ : Hid (h - s = 0) := Lib.hid (by omega)
                     have UR : Hid (0 < s) := Lib.hid (by omega)
                     have UT : Hid (0 < B.length - (h - s)) := Lib.hid (by omega)
                     clear hp hq hr ht
                     go_upto_region 41 with (fail)
                     have HR1 := Lib.hid (HRW.out (.inl UP.out))
                     have HM1 := HM0
                     go_upto_region 43 with (fail)
                     have HR2 := HR1
                     have HM2 := HM1
                     have HSC := Lib.hid (HC1.out (.inr UQ.out))
                     have HPC := Lib.hid (List.Perm.refl (A.take s ++ B.take (h - s)))
                     go_wp2_with (fail)
                     go_end0
                     obtain ⟨f1, f2⟩ := HDN.out _ _ HPC.out HSC.out (List.Perm.refl _) (HC2.out (.inl UP.out))
                     exact ⟨⟨_, rfl⟩, ⟨_, by simpa using HR2.out, f2, f1⟩, HM2.out⟩)
              · exfalso; omega
            · by_cases ht : h - s < B.length
              · exfalso; omega
              · exfalso; omega
  · have hgt : ¬ ((pa + h : Nat) : Int) < pm := by have := HA.out; have := HM.out; have := HB.out; have := HH.out; omega
    have hAh : A.length ≤ h := by omega
    go_upto_region 33 with (fail)
    have hlohi : 0 ≤ A.length := Nat.zero_le _
    have HQ0 := Lib.hid (show Value.int .i64 (pa : Int) = .int .i64 ((pa + 0 : Nat) : Int) from rfl)
    have HQ1 := Lib.hid (show Value.int .i64 (pm : Int) = .int .i64 ((pa + A.length : Nat) : Int) by rw [HM.out])
    have HCS := Lib.hid (show (h < A.length ∧ 0 = h - B.length ∧ A.length = h ∧ B.length ≤ h) ∨ (A.length ≤ h ∧ 0 = 0 ∧ A.length = A.length) from .inr ⟨hAh, rfl, rfl⟩)
    have HHI := Lib.hid (show A.length ≤ h ∧ A.length ≤ A.length ∧ h - B.length ≤ 0 from ⟨hAh, Nat.le_refl _, by have := HA.out; have := HM.out; have := HB.out; have := HH.out; omega⟩)

    go_loopw [20, 21] (fun qi qj wr => ∃ (s r : Nat), qi = .int .i64 ((pa + s : Nat) : Int) ∧ qj = .int .i64 ((pa + r : Nat) : Int) ∧ SymAt lt A B h 0 A.length s r ∧ Ext w wr) (fun qi qj _ => (intOf qj).toNat - (intOf qi).toNat)
    case atStart => exact ⟨0, A.length, HQ0.out, HQ1.out, ⟨Nat.le_refl _, hlohi, Nat.le_refl _, .inl rfl, .inl rfl⟩, Ext.rf _⟩
    case round =>
      obtain ⟨s, r, rfl, rfl, hP, hE⟩ := hrel
      have hle := hP.mid_
      have htop := hP.hi_
      have hlow := hP.lo_
      have HP := Lib.hid hP
      clear hP
      by_cases hij : s < r
      · have hlt' : ((pa + s : Nat) : Int) < ((pa + r : Nat) : Int) := by omega
        obtain ⟨c, hh⟩ : ∃ c, (s + r) / 2 = c := ⟨_, rfl⟩
        have hb1 : ((pa + s : Nat) : Int) ≤ 1000 := by have := HA.out; have := HM.out; have := HB.out; have := HH.out; omega
        have hb2 : ((pa + r : Nat) : Int) ≤ 1000 := by have := HA.out; have := HM.out; have := HB.out; have := HH.out; omega
        have hih : s ≤ c := by omega
        have hhj : c < r := by omega
        have hch : c < h := by have := HHI.out; omega
        have hcA : c < A.length := by have := HHI.out; omega
        have hcB : h - 1 - c < B.length := by have := HHI.out; omega
        go_upto_region 35 with (fail)
        rw [show ((pa : Int) + s + (pa + r)) / 2 = ((pa + c : Nat) : Int) by omega]
        obtain ⟨x, hx⟩ : ∃ x, A[c]? = some x := ⟨A[c]'hcA, List.getElem?_eq_getElem _⟩
        obtain ⟨y, hy⟩ : ∃ y, B[h - 1 - c]? = some y := ⟨B[h - 1 - c]'hcB, List.getElem?_eq_getElem _⟩
        have hrow := HROW.out.ext hE
        have hx1 : (P ++ (A ++ B) ++ S)[pa + c]? = some x := by
          have := get_mid (P := P) (S := S) (A := A ++ B) (k := c) (x := x) (by rw [List.getElem?_append_left hcA]; exact hx)
          rw [HA.out]; exact this
        have hy1 : (P ++ (A ++ B) ++ S)[pm + (h - 1 - c)]? = some y := by
          have := get_mid (P := P) (S := S) (A := A ++ B) (k := A.length + (h - 1 - c)) (x := y) (by rw [List.getElem?_append_right (by omega), show A.length + (h - 1 - c) - A.length = h - 1 - c by omega]; exact hy)
          rw [show pm + (h - 1 - c) = P.length + (A.length + (h - 1 - c)) by have := HA.out; have := HM.out; have := HB.out; have := HH.out; omega]; exact this
        obtain ⟨c0, c1, c2, c3, c4⟩ := hrow.cells hx1
        obtain ⟨d0, d1, d2, d3, d4⟩ := hrow.cells hy1
        have lg : Lt g wr := hrow.lt
        have hRx : R x := HRR.out x (List.mem_append_left _ (List.mem_of_getElem? hx))
        have hRy : R y := HRR.out y (List.mem_append_right _ (List.mem_of_getElem? hy))
        have HCL := Lib.hid (fun W => HF.out y x W hRy hRx)
        have HCMP := Lib.hid (HC.out y x hRy hRx)
        have hpn : ((pa + c : Nat) : Int) < n := by have := HA.out; have := HM.out; have := HB.out; have := HH.out; have := HN.out; omega
        have hhn : ((pm + (h - 1 - c) : Nat) : Int) < n := by have := HA.out; have := HM.out; have := HB.out; have := HH.out; have := HN.out; omega
        have hidx : (pa : Int) + h + pm - 1 - ((pa + c : Nat) : Int) = ((pm + (h - 1 - c) : Nat) : Int) := by have := HA.out; have := HM.out; have := HB.out; have := HH.out; omega
        have hidx2 : (pa : Int) + h + pm - 1 - ((pa : Int) + c) = ((pm + (h - 1 - c) : Nat) : Int) := by have := HA.out; have := HM.out; have := HB.out; have := HH.out; omega
        have hidx3 : IntKind.i64.wrap ((pa : Int) + h + pm - 1 - ((pa + c : Nat) : Int)) = ((pm + (h - 1 - c) : Nat) : Int) := by rw [hidx, IntKind.wrap_i64]; have := HA.out; have := HM.out; have := HB.out; have := HH.out; omega
        have HX := Lib.hid hx
        have HY := Lib.hid hy
        have HE := Lib.hid hE
        clear hy hx hx1 hy1 hrow hE hRx hRy hh
        cases hlc : decide (cm y x < 0)
        · have hno : ¬ lt y x := fun h => by have := HCMP.out.1 h; exact absurd this (of_decide_eq_false hlc)
          have HNX := Lib.hid (HP.out.yes (c := c) hih hhj fun z1 z2 e1 e2 => by rw [HX.out] at e1; rw [HY.out] at e2; cases e1; cases e2; exact hno)
          clear hno
          refine wp_region_later (by kernel_rfl) (by kernel_rfl) ?_; (repeat (go_big_quiet_step (exact calls_later (HCL.out _)))); refine wpQuiet_nil ?_; intro d
          have HD := Lib.hid (HE.out.tr (later_ext d))
          generalize later d = W3 at *
          go_wp2
          go_roundw
          case rel => exact ⟨c + 1, r, by go_num, rfl, HNX.out, HD.out⟩
          case measure => simp [intOf]; omega
        · have hyes : lt y x := HCMP.out.2 (of_decide_eq_true hlc)
          have HNX := Lib.hid (HP.out.no (c := c) hih hhj fun z1 z2 e1 e2 => by rw [HX.out] at e1; rw [HY.out] at e2; cases e1; cases e2; exact hyes)
          clear hyes
          refine wp_region_later (by kernel_rfl) (by kernel_rfl) ?_; (repeat (go_big_quiet_step (exact calls_later (HCL.out _)))); refine wpQuiet_nil ?_; intro d
          have HD := Lib.hid (HE.out.tr (later_ext d))
          generalize later d = W3 at *
          go_wp2
          go_roundw
          case rel => exact ⟨s, c, rfl, rfl, HNX.out, HD.out⟩
          case measure => simp [intOf]; omega
      · obtain rfl : s = r := by omega
        have hge : ¬ ((pa + s : Nat) : Int) < ((pa + s : Nat) : Int) := by omega
        have HE := Lib.hid hE
        clear hE
        obtain ⟨k1, k2, k3, x1, x2⟩ := sym_cut T HSA.out HSB.out HH.out HCS.out HP.out
        have HX1 := Lib.hid x1
        have HX2 := Lib.hid x2
        have hlA : (A.take s).length = s := by rw [List.length_take]; omega
        have hlA2 : (A.drop s).length = A.length - s := List.length_drop
        have hlB : (B.take (h - s)).length = h - s := by rw [List.length_take]; omega
        have hlB2 : (B.drop (h - s)).length = B.length - (h - s) := List.length_drop
        have hrow := HROW.out.ext HE.out
        have HL0 := Lib.hid (sym_rows P A B S s (h - s))
        have HM0 := Lib.hid (Mv.of_ext (C := fun q => q = g) HE.out)
        have hnl2 : n = P.length + A.length + B.length + S.length := HN.out
        have hh2 : h = (A.length + B.length) / 2 := HH.out
        have HROT := Lib.hid (show 0 < A.length - s → 0 < h - s → ∀ qa qm qb : Int, qa = ((pa + s : Nat) : Int) → qm = (pm : Int) → qb = ((pm + (h - s) : Nat) : Int) → Calls Try.prog 86 #[.slice (some ⟨g, 0, none⟩) n cap, .int .i64 qa, .int .i64 qm, .int .i64 qb, .func (.func g0) #[] lb] wr fun e w' => (∃ v, e = .returned v) ∧ RowH w' g cap (P ++ (A.take s ++ B.take (h - s)) ++ (A.drop s ++ (B.drop (h - s) ++ S))) ∧ Mv (fun q => q = g) wr w' from fun q1 q2 qa qm qb ea em eb => by
          subst ea em eb
          have hr1 : RowH wr g cap ((P ++ A.take s) ++ A.drop s ++ B.take (h - s) ++ (B.drop (h - s) ++ S)) := by rw [← (HL0.out).1]; exact hrow
          have hln : n = ((P ++ A.take s) ++ A.drop s ++ B.take (h - s) ++ (B.drop (h - s) ++ S)).length := by rw [← (HL0.out).1]; exact HNE.out
          have := rotate_any g cap (P ++ A.take s) (A.drop s) (B.take (h - s)) (B.drop (h - s) ++ S) (by omega) (by omega) (by rw [← hln]; exact hnl) (.func (.func g0) #[] lb) wr hr1 n (pa + s) pm (pm + (h - s)) hln (by rw [List.length_append, hlA, HA.out]) (by rw [List.length_append, hlA, hlA2]; have := HM.out; have := HA.out; omega) (by rw [List.length_append, hlA, hlA2, hlB]; have := HM.out; have := HA.out; omega)
          refine this.mono ?_
          rintro e w' ⟨h1, h2, h3⟩
          exact ⟨h1, by rw [(HL0.out).2.1]; exact h2, h3⟩)
        have HS1 := Lib.hid (show 0 < s → 0 < h - s → ∀ W, RowH W g cap (P ++ (A.take s ++ B.take (h - s)) ++ (A.drop s ++ (B.drop (h - s) ++ S))) → ∀ qa qm qb : Int, qa = (pa : Int) → qm = ((pa + s : Nat) : Int) → qb = ((pa + h : Nat) : Int) → Calls Try.prog 70 #[.slice (some ⟨g, 0, none⟩) n cap, .int .i64 qa, .int .i64 qm, .int .i64 qb, .func (.func g0) #[] lb] W fun e w' => (∃ v, e = .returned v) ∧ (∃ C, RowH w' g cap (P ++ C ++ (A.drop s ++ (B.drop (h - s) ++ S))) ∧ Srt lt C ∧ C.Perm (A.take s ++ B.take (h - s))) ∧ Mv (fun q => q = g) W w' from fun q1 q2 W hW qa qm qb ea em eb =>
          HIH.out g cap P (A.take s) (B.take (h - s)) (A.drop s ++ (B.drop (h - s) ++ S)) (by omega) (by omega) (by omega) (fun y hy => HRR.out y (by
            rcases List.mem_append.1 hy with hy | hy
            · exact List.mem_append_left _ (List.mem_of_mem_take hy)
            · exact List.mem_append_right _ (List.mem_of_mem_take hy))) (HSA.out.sublist (List.take_sublist _ _)) (HSB.out.sublist (List.take_sublist _ _)) (by rw [← (HL0.out).2.2, ← HNE.out]; exact hnl) W hW n qa qm qb (by rw [← (HL0.out).2.2]; exact HNE.out) (by rw [ea, HA.out]) (by rw [em, hlA, HA.out]) (by rw [eb, hlA, hlB, HA.out]; congr 1; omega))
        have HS2 := Lib.hid (show 0 < A.length - s → 0 < B.length - (h - s) → ∀ C1 : List Ho, C1.Perm (A.take s ++ B.take (h - s)) → ∀ W, RowH W g cap (P ++ C1 ++ (A.drop s ++ (B.drop (h - s) ++ S))) → ∀ qa qm qb : Int, qa = ((pa + h : Nat) : Int) → qm = ((pm + (h - s) : Nat) : Int) → qb = (pb : Int) → Calls Try.prog 70 #[.slice (some ⟨g, 0, none⟩) n cap, .int .i64 qa, .int .i64 qm, .int .i64 qb, .func (.func g0) #[] lb] W fun e w' => (∃ v, e = .returned v) ∧ (∃ C, RowH w' g cap ((P ++ C1) ++ C ++ S) ∧ Srt lt C ∧ C.Perm (A.drop s ++ B.drop (h - s))) ∧ Mv (fun q => q = g) W w' from fun q1 q2 C1 hC W hW qa qm qb ea em eb => by
          have hc1 : C1.length = h := by rw [hC.length_eq, List.length_append, hlA, hlB]; omega
          have e1 : P ++ C1 ++ (A.drop s ++ (B.drop (h - s) ++ S)) = (P ++ C1) ++ (A.drop s ++ B.drop (h - s)) ++ S := by simp
          have hln : n = ((P ++ C1) ++ (A.drop s ++ B.drop (h - s)) ++ S).length := by simp only [List.length_append, hlA2, hlB2, hc1]; omega
          rw [e1] at hW
          exact HIH.out g cap (P ++ C1) (A.drop s) (B.drop (h - s)) S (by omega) (by omega) (by omega) (fun y hy => HRR.out y (by
            rcases List.mem_append.1 hy with hy | hy
            · exact List.mem_append_left _ (List.mem_of_mem_drop hy)
            · exact List.mem_append_right _ (List.mem_of_mem_drop hy))) (HSA.out.sublist (List.drop_sublist _ _)) (HSB.out.sublist (List.drop_sublist _ _)) (by rw [← hln]; exact hnl) W hW n qa qm qb hln (by rw [ea, List.length_append, hc1, HA.out]) (by rw [em, List.length_append, hc1, hlA2]; congr 1; have := HM.out; have := HA.out; omega) (by rw [eb, List.length_append, hc1, hlA2, hlB2]; congr 1; have := HB.out; have := HM.out; have := HA.out; omega))
        have HDN := Lib.hid (fun C1 C2 p1 s1 p2 s2 => sym_done (C1 := C1) (C2 := C2) HSA.out HSB.out HX1.out HX2.out p1 s1 p2 s2)
        have HRW := Lib.hid (show (A.length - s = 0 ∨ h - s = 0) → RowH wr g cap (P ++ (A.take s ++ B.take (h - s)) ++ (A.drop s ++ (B.drop (h - s) ++ S))) from fun hz => by
          rw [(HL0.out).2.1]
          have hr1 := hrow
          rw [(HL0.out).1] at hr1
          rcases hz with hz | hz
          · rw [List.length_eq_zero_iff.1 (hlA2.trans hz)] at hr1 ⊢
            simpa using hr1
          · rw [List.length_eq_zero_iff.1 (hlB.trans hz)] at hr1 ⊢
            simpa using hr1)
        have HC1 := Lib.hid (show (s = 0 ∨ h - s = 0) → Srt lt (A.take s ++ B.take (h - s)) from fun hz => by
          rcases hz with hz | hz
          · rw [List.length_eq_zero_iff.1 (hlA.trans hz)]
            exact HSB.out.sublist (List.take_sublist _ _)
          · rw [List.length_eq_zero_iff.1 (hlB.trans hz), List.append_nil]
            exact HSA.out.sublist (List.take_sublist _ _))
        have HC2 := Lib.hid (show (A.length - s = 0 ∨ B.length - (h - s) = 0) → Srt lt (A.drop s ++ B.drop (h - s)) from fun hz => by
          rcases hz with hz | hz
          · rw [List.length_eq_zero_iff.1 (hlA2.trans hz)]
            exact HSB.out.sublist (List.drop_sublist _ _)
          · rw [List.length_eq_zero_iff.1 (hlB2.trans hz), List.append_nil]
            exact HSA.out.sublist (List.drop_sublist _ _))
        clear x1 x2 hrow hlA hlA2 hlB hlB2 hnl2 hh2
        have HPE := Lib.hid (show (pa : Int) + h + pm - (pa + s) = ((pm + (h - s) : Nat) : Int) by omega)
        go_upto_region 39 with (fail)
        rw [HPE.out]
        obtain ⟨ps, hps⟩ : ∃ q, pa + s = q := ⟨_, rfl⟩
        obtain ⟨ph, hph⟩ : ∃ q, pa + h = q := ⟨_, rfl⟩
        obtain ⟨pe, hpe⟩ : ∃ q, pm + (h - s) = q := ⟨_, rfl⟩
        first | rw [hps, hph, hpe] | rw [show (pa : Int) + h = ((pa + h : Nat) : Int) from (Int.natCast_add _ _).symm, hps, hph, hpe]
        have HPS := Lib.hid hps
        have HPH := Lib.hid hph
        have HPEE := Lib.hid hpe
        have hpsb : (ps : Int) ≤ 1000 := by omega
        have hpeb : (pe : Int) ≤ 1000 := by have := HA.out; have := HM.out; have := HB.out; have := HH.out; omega
        have hphb : (ph : Int) ≤ 1000 := by have := HA.out; have := HM.out; have := HB.out; have := HH.out; omega
        clear hps hph hpe HPE
        by_cases hp : s < A.length
        · by_cases hq : s < h
          · by_cases hr : 0 < s
            · by_cases ht : h - s < B.length
              · have e1 : ((ps : Int) < pm) := by (have := HPS.out; have := HPH.out; have := HPEE.out; have := HA.out; have := HM.out; have := HB.out; have := HH.out; omega)
                have e2 : ((pm : Int) < pe) := by (have := HPS.out; have := HPH.out; have := HPEE.out; have := HA.out; have := HM.out; have := HB.out; have := HH.out; omega)
                have e3 : ((pa : Int) < ps) := by (have := HPS.out; have := HPH.out; have := HPEE.out; have := HA.out; have := HM.out; have := HB.out; have := HH.out; omega)
                have e4 : ((ps : Int) < ph) := by (have := HPS.out; have := HPH.out; have := HPEE.out; have := HA.out; have := HM.out; have := HB.out; have := HH.out; omega)
                have e5 : ((ph : Int) < pe) := by (have := HPS.out; have := HPH.out; have := HPEE.out; have := HA.out; have := HM.out; have := HB.out; have := HH.out; omega)
                have e6 : ((pe : Int) < pb) := by (have := HPS.out; have := HPH.out; have := HPEE.out; have := HA.out; have := HM.out; have := HB.out; have := HH.out; omega)
                have UP : Hid (0 < A.length - s) := Lib.hid (by omega)
                have UQ : Hid (0 < h - s) := Lib.hid (by omega)
                have UR : Hid (0 < s) := Lib.hid (by omega)
                have UT : Hid (0 < B.length - (h - s)) := Lib.hid (by omega)
                clear hp hq hr ht
                go_upto_region 41 with (go_at_call 86; go_must (with_reducible refine (HROT.out UP.out UQ.out _ _ _ (by rw [HPS.out]) rfl (by rw [HPEE.out])).mono ?_); rintro e1' W2 ⟨⟨v1, rfl⟩, hr2, hm2⟩)
                have HR1 := Lib.hid hr2
                have HM1 := Lib.hid (HM0.out.trans hm2)
                clear hr2 hm2
                go_upto_region 43 with (go_at_call 70; go_must (with_reducible refine (HS1.out UR.out UQ.out _ HR1.out _ _ _ rfl (by rw [HPS.out]) (by rw [HPH.out])).mono ?_); rintro e2' W3 ⟨⟨v2, rfl⟩, ⟨C1, hr3, hs3, hp3⟩, hm3⟩)
                have HR2 := Lib.hid hr3
                have HM2 := Lib.hid (HM1.out.trans hm3)
                have HSC := Lib.hid hs3
                have HPC := Lib.hid hp3
                clear hr3 hm3 hs3 hp3
                go_wp2_with (go_at_call 70; go_must (with_reducible refine (HS2.out UP.out UT.out _ HPC.out _ HR2.out _ _ _ (by rw [HPH.out]) (by rw [HPEE.out]) rfl).mono ?_); rintro e3' W4 ⟨⟨v3, rfl⟩, ⟨C2, hr4, hs4, hp4⟩, hm4⟩)
                go_end0
                obtain ⟨f1, f2⟩ := HDN.out _ _ HPC.out HSC.out hp4 hs4
                exact ⟨⟨_, rfl⟩, ⟨_, by simpa using hr4, f2, f1⟩, HM2.out.trans hm4⟩
              · have e1 : ((ps : Int) < pm) := by (have := HPS.out; have := HPH.out; have := HPEE.out; have := HA.out; have := HM.out; have := HB.out; have := HH.out; omega)
                have e2 : ((pm : Int) < pe) := by (have := HPS.out; have := HPH.out; have := HPEE.out; have := HA.out; have := HM.out; have := HB.out; have := HH.out; omega)
                have e3 : ((pa : Int) < ps) := by (have := HPS.out; have := HPH.out; have := HPEE.out; have := HA.out; have := HM.out; have := HB.out; have := HH.out; omega)
                have e4 : ((ps : Int) < ph) := by (have := HPS.out; have := HPH.out; have := HPEE.out; have := HA.out; have := HM.out; have := HB.out; have := HH.out; omega)
                have e5 : ((ph : Int) < pe) := by (have := HPS.out; have := HPH.out; have := HPEE.out; have := HA.out; have := HM.out; have := HB.out; have := HH.out; omega)
                have e6 : ¬ ((pe : Int) < pb) := by (have := HPS.out; have := HPH.out; have := HPEE.out; have := HA.out; have := HM.out; have := HB.out; have := HH.out; omega)
                have UP : Hid (0 < A.length - s) := Lib.hid (by omega)
                have UQ : Hid (0 < h - s) := Lib.hid (by omega)
                have UR : Hid (0 < s) := Lib.hid (by omega)
                have UT : Hid (B.length - (h - s) = 0) := Lib.hid (by omega)
                clear hp hq hr ht
                go_upto_region 41 with (go_at_call 86; go_must (with_reducible refine (HROT.out UP.out UQ.out _ _ _ (by rw [HPS.out]) rfl (by rw [HPEE.out])).mono ?_); rintro e1' W2 ⟨⟨v1, rfl⟩, hr2, hm2⟩)
                have HR1 := Lib.hid hr2
                have HM1 := Lib.hid (HM0.out.trans hm2)
                clear hr2 hm2
                go_upto_region 43 with (go_at_call 70; go_must (with_reducible refine (HS1.out UR.out UQ.out _ HR1.out _ _ _ rfl (by rw [HPS.out]) (by rw [HPH.out])).mono ?_); rintro e2' W3 ⟨⟨v2, rfl⟩, ⟨C1, hr3, hs3, hp3⟩, hm3⟩)
                have HR2 := Lib.hid hr3
                have HM2 := Lib.hid (HM1.out.trans hm3)
                have HSC := Lib.hid hs3
                have HPC := Lib.hid hp3
                clear hr3 hm3 hs3 hp3
                go_wp2_with (fail)
                go_end0
                obtain ⟨f1, f2⟩ := HDN.out _ _ HPC.out HSC.out (List.Perm.refl _) (HC2.out (.inr UT.out))
                exact ⟨⟨_, rfl⟩, ⟨_, by simpa using HR2.out, f2, f1⟩, HM2.out⟩
            · by_cases ht : h - s < B.length
              · have e1 : ((ps : Int) < pm) := by (have := HPS.out; have := HPH.out; have := HPEE.out; have := HA.out; have := HM.out; have := HB.out; have := HH.out; omega)
                have e2 : ((pm : Int) < pe) := by (have := HPS.out; have := HPH.out; have := HPEE.out; have := HA.out; have := HM.out; have := HB.out; have := HH.out; omega)
                have e3 : ¬ ((pa : Int) < ps) := by (have := HPS.out; have := HPH.out; have := HPEE.out; have := HA.out; have := HM.out; have := HB.out; have := HH.out; omega)
                have e4 : ((ps : Int) < ph) := by (have := HPS.out; have := HPH.out; have := HPEE.out; have := HA.out; have := HM.out; have := HB.out; have := HH.out; omega)
                have e5 : ((ph : Int) < pe) := by (have := HPS.out; have := HPH.out; have := HPEE.out; have := HA.out; have := HM.out; have := HB.out; have := HH.out; omega)
                have e6 : ((pe : Int) < pb) := by (have := HPS.out; have := HPH.out; have := HPEE.out; have := HA.out; have := HM.out; have := HB.out; have := HH.out; omega)
                have UP : Hid (0 < A.length - s) := Lib.hid (by omega)
                have UQ : Hid (0 < h - s) := Lib.hid (by omega)
                have UR : Hid (s = 0) := Lib.hid (by omega)
                have UT : Hid (0 < B.length - (h - s)) := Lib.hid (by omega)
                clear hp hq hr ht
                go_upto_region 41 with (go_at_call 86; go_must (with_reducible refine (HROT.out UP.out UQ.out _ _ _ (by rw [HPS.out]) rfl (by rw [HPEE.out])).mono ?_); rintro e1' W2 ⟨⟨v1, rfl⟩, hr2, hm2⟩)
                have HR1 := Lib.hid hr2
                have HM1 := Lib.hid (HM0.out.trans hm2)
                clear hr2 hm2
                go_upto_region 43 with (fail)
                have HR2 := HR1
                have HM2 := HM1
                have HSC := Lib.hid (HC1.out (.inl UR.out))
                have HPC := Lib.hid (List.Perm.refl (A.take s ++ B.take (h - s)))
                go_wp2_with (go_at_call 70; go_must (with_reducible refine (HS2.out UP.out UT.out _ HPC.out _ HR2.out _ _ _ (by rw [HPH.out]) (by rw [HPEE.out]) rfl).mono ?_); rintro e3' W4 ⟨⟨v3, rfl⟩, ⟨C2, hr4, hs4, hp4⟩, hm4⟩)
                go_end0
                obtain ⟨f1, f2⟩ := HDN.out _ _ HPC.out HSC.out hp4 hs4
                exact ⟨⟨_, rfl⟩, ⟨_, by simpa using hr4, f2, f1⟩, HM2.out.trans hm4⟩
              · have e1 : ((ps : Int) < pm) := by (have := HPS.out; have := HPH.out; have := HPEE.out; have := HA.out; have := HM.out; have := HB.out; have := HH.out; omega)
                have e2 : ((pm : Int) < pe) := by (have := HPS.out; have := HPH.out; have := HPEE.out; have := HA.out; have := HM.out; have := HB.out; have := HH.out; omega)
                have e3 : ¬ ((pa : Int) < ps) := by (have := HPS.out; have := HPH.out; have := HPEE.out; have := HA.out; have := HM.out; have := HB.out; have := HH.out; omega)
                have e4 : ((ps : Int) < ph) := by (have := HPS.out; have := HPH.out; have := HPEE.out; have := HA.out; have := HM.out; have := HB.out; have := HH.out; omega)
                have e5 : ((ph : Int) < pe) := by (have := HPS.out; have := HPH.out; have := HPEE.out; have := HA.out; have := HM.out; have := HB.out; have := HH.out; omega)
                have e6 : ¬ ((pe : Int) < pb) := by (have := HPS.out; have := HPH.out; have := HPEE.out; have := HA.out; have := HM.out; have := HB.out; have := HH.out; omega)
                have UP : Hid (0 < A.length - s) := Lib.hid (by omega)
                have UQ : Hid (0 < h - s) := Lib.hid (by omega)
                have UR : Hid (s = 0) := Lib.hid (by omega)
                have UT : Hid (B.length - (h - s) = 0) := Lib.hid (by omega)
                clear hp hq hr ht
                go_upto_region 41 with (go_at_call 86; go_must (with_reducible refine (HROT.out UP.out UQ.out _ _ _ (by rw [HPS.out]) rfl (by rw [HPEE.out])).mono ?_); rintro e1' W2 ⟨⟨v1, rfl⟩, hr2, hm2⟩)
                have HR1 := Lib.hid hr2
                have HM1 := Lib.hid (HM0.out.trans hm2)
                clear hr2 hm2
                go_upto_region 43 with (fail)
                have HR2 := HR1
                have HM2 := HM1
                have HSC := Lib.hid (HC1.out (.inl UR.out))
                have HPC := Lib.hid (List.Perm.refl (A.take s ++ B.take (h - s)))
                go_wp2_with (fail)
                go_end0
                obtain ⟨f1, f2⟩ := HDN.out _ _ HPC.out HSC.out (List.Perm.refl _) (HC2.out (.inr UT.out))
                exact ⟨⟨_, rfl⟩, ⟨_, by simpa using HR2.out, f2, f1⟩, HM2.out⟩
          · by_cases hr : 0 < s
            · by_cases ht : h - s < B.length
              · have e1 : ((ps : Int) < pm) := by (have := HPS.out; have := HPH.out; have := HPEE.out; have := HA.out; have := HM.out; have := HB.out; have := HH.out; omega)
                have e2 : ¬ ((pm : Int) < pe) := by (have := HPS.out; have := HPH.out; have := HPEE.out; have := HA.out; have := HM.out; have := HB.out; have := HH.out; omega)
                have e3 : ((pa : Int) < ps) := by (have := HPS.out; have := HPH.out; have := HPEE.out; have := HA.out; have := HM.out; have := HB.out; have := HH.out; omega)
                have e4 : ¬ ((ps : Int) < ph) := by (have := HPS.out; have := HPH.out; have := HPEE.out; have := HA.out; have := HM.out; have := HB.out; have := HH.out; omega)
                have e5 : ((ph : Int) < pe) := by (have := HPS.out; have := HPH.out; have := HPEE.out; have := HA.out; have := HM.out; have := HB.out; have := HH.out; omega)
                have e6 : ((pe : Int) < pb) := by (have := HPS.out; have := HPH.out; have := HPEE.out; have := HA.out; have := HM.out; have := HB.out; have := HH.out; omega)
                have UP : Hid (0 < A.length - s) := Lib.hid (by omega)
                have UQ : Hid (h - s = 0) := Lib.hid (by omega)
                have UR : Hid (0 < s) := Lib.hid (by omega)
                have UT : Hid (0 < B.length - (h - s)) := Lib.hid (by omega)
                clear hp hq hr ht
                go_upto_region 41 with (fail)
                have HR1 := Lib.hid (HRW.out (.inr UQ.out))
                have HM1 := HM0
                go_upto_region 43 with (fail)
                have HR2 := HR1
                have HM2 := HM1
                have HSC := Lib.hid (HC1.out (.inr UQ.out))
                have HPC := Lib.hid (List.Perm.refl (A.take s ++ B.take (h - s)))
                go_wp2_with (go_at_call 70; go_must (with_reducible refine (HS2.out UP.out UT.out _ HPC.out _ HR2.out _ _ _ (by rw [HPH.out]) (by rw [HPEE.out]) rfl).mono ?_); rintro e3' W4 ⟨⟨v3, rfl⟩, ⟨C2, hr4, hs4, hp4⟩, hm4⟩)
                go_end0
                obtain ⟨f1, f2⟩ := HDN.out _ _ HPC.out HSC.out hp4 hs4
                exact ⟨⟨_, rfl⟩, ⟨_, by simpa using hr4, f2, f1⟩, HM2.out.trans hm4⟩
              · have e1 : ((ps : Int) < pm) := by (have := HPS.out; have := HPH.out; have := HPEE.out; have := HA.out; have := HM.out; have := HB.out; have := HH.out; omega)
                have e2 : ¬ ((pm : Int) < pe) := by (have := HPS.out; have := HPH.out; have := HPEE.out; have := HA.out; have := HM.out; have := HB.out; have := HH.out; omega)
                have e3 : ((pa : Int) < ps) := by (have := HPS.out; have := HPH.out; have := HPEE.out; have := HA.out; have := HM.out; have := HB.out; have := HH.out; omega)
                have e4 : ¬ ((ps : Int) < ph) := by (have := HPS.out; have := HPH.out; have := HPEE.out; have := HA.out; have := HM.out; have := HB.out; have := HH.out; omega)
                have e5 : ((ph : Int) < pe) := by (have := HPS.out; have := HPH.out; have := HPEE.out; have := HA.out; have := HM.out; have := HB.out; have := HH.out; omega)
                have e6 : ¬ ((pe : Int) < pb) := by (have := HPS.out; have := HPH.out; have := HPEE.out; have := HA.out; have := HM.out; have := HB.out; have := HH.out; omega)
                have UP : Hid (0 < A.length - s) := Lib.hid (by omega)
                have UQ : Hid (h - s = 0) := Lib.hid (by omega)
                have UR : Hid (0 < s) := Lib.hid (by omega)
                have UT : Hid (B.length - (h - s) = 0) := Lib.hid (by omega)
                clear hp hq hr ht
                go_upto_region 41 with (fail)
                have HR1 := Lib.hid (HRW.out (.inr UQ.out))
                have HM1 := HM0
                go_upto_region 43 with (fail)
                have HR2 := HR1
                have HM2 := HM1
                have HSC := Lib.hid (HC1.out (.inr UQ.out))
                have HPC := Lib.hid (List.Perm.refl (A.take s ++ B.take (h - s)))
                go_wp2_with (fail)
                go_end0
                obtain ⟨f1, f2⟩ := HDN.out _ _ HPC.out HSC.out (List.Perm.refl _) (HC2.out (.inr UT.out))
                exact ⟨⟨_, rfl⟩, ⟨_, by simpa using HR2.out, f2, f1⟩, HM2.out⟩
            · by_cases ht : h - s < B.length
              · exfalso; omega
              · exfalso; omega
        · by_cases hq : s < h
          · by_cases hr : 0 < s
            · by_cases ht : h - s < B.length
              · have e1 : ¬ ((ps : Int) < pm) := by (have := HPS.out; have := HPH.out; have := HPEE.out; have := HA.out; have := HM.out; have := HB.out; have := HH.out; omega)
                have e2 : ((pm : Int) < pe) := by (have := HPS.out; have := HPH.out; have := HPEE.out; have := HA.out; have := HM.out; have := HB.out; have := HH.out; omega)
                have e3 : ((pa : Int) < ps) := by (have := HPS.out; have := HPH.out; have := HPEE.out; have := HA.out; have := HM.out; have := HB.out; have := HH.out; omega)
                have e4 : ((ps : Int) < ph) := by (have := HPS.out; have := HPH.out; have := HPEE.out; have := HA.out; have := HM.out; have := HB.out; have := HH.out; omega)
                have e5 : ¬ ((ph : Int) < pe) := by (have := HPS.out; have := HPH.out; have := HPEE.out; have := HA.out; have := HM.out; have := HB.out; have := HH.out; omega)
                have e6 : ((pe : Int) < pb) := by (have := HPS.out; have := HPH.out; have := HPEE.out; have := HA.out; have := HM.out; have := HB.out; have := HH.out; omega)
                have UP : Hid (A.length - s = 0) := Lib.hid (by omega)
                have UQ : Hid (0 < h - s) := Lib.hid (by omega)
                have UR : Hid (0 < s) := Lib.hid (by omega)
                have UT : Hid (0 < B.length - (h - s)) := Lib.hid (by omega)
                clear hp hq hr ht
                go_upto_region 41 with (fail)
                have HR1 := Lib.hid (HRW.out (.inl UP.out))
                have HM1 := HM0
                go_upto_region 43 with (go_at_call 70; go_must (with_reducible refine (HS1.out UR.out UQ.out _ HR1.out _ _ _ rfl (by rw [HPS.out]) (by rw [HPH.out])).mono ?_); rintro e2' W3 ⟨⟨v2, rfl⟩, ⟨C1, hr3, hs3, hp3⟩, hm3⟩)
                have HR2 := Lib.hid hr3
                have HM2 := Lib.hid (HM1.out.trans hm3)
                have HSC := Lib.hid hs3
                have HPC := Lib.hid hp3
                clear hr3 hm3 hs3 hp3
                go_wp2_with (fail)
                go_end0
                obtain ⟨f1, f2⟩ := HDN.out _ _ HPC.out HSC.out (List.Perm.refl _) (HC2.out (.inl UP.out))
                exact ⟨⟨_, rfl⟩, ⟨_, by simpa using HR2.out, f2, f1⟩, HM2.out⟩
              · have e1 : ¬ ((ps : Int) < pm) := by (have := HPS.out; have := HPH.out; have := HPEE.out; have := HA.out; have := HM.out; have := HB.out; have := HH.out; omega)
                have e2 : ((pm : Int) < pe) := by (have := HPS.out; have := HPH.out; have := HPEE.out; have := HA.out; have := HM.out; have := HB.out; have := HH.out; omega)
                have e3 : ((pa : Int) < ps) := by (have := HPS.out; have := HPH.out; have := HPEE.out; have := HA.out; have := HM.out; have := HB.out; have := HH.out; omega)
                have e4 : ((ps : Int) < ph) := by (have := HPS.out; have := HPH.out; have := HPEE.out; have := HA.out; have := HM.out; have := HB.out; have := HH.out; omega)
                have e5 : ¬ ((ph : Int) < pe) := by (have := HPS.out; have := HPH.out; have := HPEE.out; have := HA.out; have := HM.out; have := HB.out; have := HH.out; omega)
                have e6 : ¬ ((pe : Int) < pb) := by (have := HPS.out; have := HPH.out; have := HPEE.out; have := HA.out; have := HM.out; have := HB.out; have := HH.out; omega)
                have UP : Hid (A.length - s = 0) := Lib.hid (by omega)
                have UQ : Hid (0 < h - s) := Lib.hid (by omega)
                have UR : Hid (0 < s) := Lib.hid (by omega)
                have UT : Hid (B.length - (h - s) = 0) := Lib.hid (by omega)
                clear hp hq hr ht
                go_upto_region 41 with (fail)
                have HR1 := Lib.hid (HRW.out (.inl UP.out))
                have HM1 := HM0
                go_upto_region 43 with (go_at_call 70; go_must (with_reducible refine (HS1.out UR.out UQ.out _ HR1.out _ _ _ rfl (by rw [HPS.out]) (by rw [HPH.out])).mono ?_); rintro e2' W3 ⟨⟨v2, rfl⟩, ⟨C1, hr3, hs3, hp3⟩, hm3⟩)
                have HR2 := Lib.hid hr3
                have HM2 := Lib.hid (HM1.out.trans hm3)
                have HSC := Lib.hid hs3
                have HPC := Lib.hid hp3
                clear hr3 hm3 hs3 hp3
                go_wp2_with (fail)
                go_end0
                obtain ⟨f1, f2⟩ := HDN.out _ _ HPC.out HSC.out (List.Perm.refl _) (HC2.out (.inl UP.out))
                exact ⟨⟨_, rfl⟩, ⟨_, by simpa using HR2.out, f2, f1⟩, HM2.out⟩
            · by_cases ht : h - s < B.length
              · have e1 : ¬ ((ps : Int) < pm) := by (have := HPS.out; have := HPH.out; have := HPEE.out; have := HA.out; have := HM.out; have := HB.out; have := HH.out; omega)
                have e2 : ((pm : Int) < pe) := by (have := HPS.out; have := HPH.out; have := HPEE.out; have := HA.out; have := HM.out; have := HB.out; have := HH.out; omega)
                have e3 : ¬ ((pa : Int) < ps) := by (have := HPS.out; have := HPH.out; have := HPEE.out; have := HA.out; have := HM.out; have := HB.out; have := HH.out; omega)
                have e4 : ((ps : Int) < ph) := by (have := HPS.out; have := HPH.out; have := HPEE.out; have := HA.out; have := HM.out; have := HB.out; have := HH.out; omega)
                have e5 : ¬ ((ph : Int) < pe) := by (have := HPS.out; have := HPH.out; have := HPEE.out; have := HA.out; have := HM.out; have := HB.out; have := HH.out; omega)
                have e6 : ((pe : Int) < pb) := by (have := HPS.out; have := HPH.out; have := HPEE.out; have := HA.out; have := HM.out; have := HB.out; have := HH.out; omega)
                have UP : Hid (A.length - s = 0) := Lib.hid (by omega)
                have UQ : Hid (0 < h - s) := Lib.hid (by omega)
                have UR : Hid (s = 0) := Lib.hid (by omega)
                have UT : Hid (0 < B.length - (h - s)) := Lib.hid (by omega)
                clear hp hq hr ht
                go_upto_region 41 with (fail)
                have HR1 := Lib.hid (HRW.out (.inl UP.out))
                have HM1 := HM0
                go_upto_region 43 with (fail)
                have HR2 := HR1
                have HM2 := HM1
                have HSC := Lib.hid (HC1.out (.inl UR.out))
                have HPC := Lib.hid (List.Perm.refl (A.take s ++ B.take (h - s)))
                go_wp2_with (fail)
                go_end0
                obtain ⟨f1, f2⟩ := HDN.out _ _ HPC.out HSC.out (List.Perm.refl _) (HC2.out (.inl UP.out))
                exact ⟨⟨_, rfl⟩, ⟨_, by simpa using HR2.out, f2, f1⟩, HM2.out⟩
              · have e1 : ¬ ((ps : Int) < pm) := by (have := HPS.out; have := HPH.out; have := HPEE.out; have := HA.out; have := HM.out; have := HB.out; have := HH.out; omega)
                have e2 : ((pm : Int) < pe) := by (have := HPS.out; have := HPH.out; have := HPEE.out; have := HA.out; have := HM.out; have := HB.out; have := HH.out; omega)
                have e3 : ¬ ((pa : Int) < ps) := by (have := HPS.out; have := HPH.out; have := HPEE.out; have := HA.out; have := HM.out; have := HB.out; have := HH.out; omega)
                have e4 : ((ps : Int) < ph) := by (have := HPS.out; have := HPH.out; have := HPEE.out; have := HA.out; have := HM.out; have := HB.out; have := HH.out; omega)
                have e5 : ¬ ((ph : Int) < pe) := by (have := HPS.out; have := HPH.out; have := HPEE.out; have := HA.out; have := HM.out; have := HB.out; have := HH.out; omega)
                have e6 : ¬ ((pe : Int) < pb) := by (have := HPS.out; have := HPH.out; have := HPEE.out; have := HA.out; have := HM.out; have := HB.out; have := HH.out; omega)
                have UP : Hid (A.length - s = 0) := Lib.hid (by omega)
                have UQ : Hid (0 < h - s) := Lib.hid (by omega)
                have UR : Hid (s = 0) := Lib.hid (by omega)
                have UT : Hid (B.length - (h - s) = 0) := Lib.hid (by omega)
                clear hp hq hr ht
                go_upto_region 41 with (fail)
                have HR1 := Lib.hid (HRW.out (.inl UP.out))
                have HM1 := HM0
                go_upto_region 43 with (fail)
                have HR2 := HR1
                have HM2 := HM1
                have HSC := Lib.hid (HC1.out (.inl UR.out))
                have HPC := Lib.hid (List.Perm.refl (A.take s ++ B.take (h - s)))
                go_wp2_with (fail)
                go_end0
                obtain ⟨f1, f2⟩ := HDN.out _ _ HPC.out HSC.out (List.Perm.refl _) (HC2.out (.inl UP.out))
                exact ⟨⟨_, rfl⟩, ⟨_, by simpa using HR2.out, f2, f1⟩, HM2.out⟩
          · by_cases hr : 0 < s
            · by_cases ht : h - s < B.length
              · first
                  | (exfalso; omega)
                  | (have e1 : ¬ ((ps : Int) < pm) := by (have := HPS.out; have := HPH.out; have := HPEE.out; have := HA.out; have := HM.out; have := HB.out; have := HH.out; omega)
                     have e2 : ¬ ((pm : Int) < pe) := by (have := HPS.out; have := HPH.out; have := HPEE.out; have := HA.out; have := HM.out; have := HB.out; have := HH.out; omega)
                     have e3 : ((pa : Int) < ps) := by (have := HPS.out; have := HPH.out; have := HPEE.out; have := HA.out; have := HM.out; have := HB.out; have := HH.out; omega)
                     have e4 : ¬ ((ps : Int) < ph) := by (have := HPS.out; have := HPH.out; have := HPEE.out; have := HA.out; have := HM.out; have := HB.out; have := HH.out; omega)
                     have e5 : ¬ ((ph : Int) < pe) := by (have := HPS.out; have := HPH.out; have := HPEE.out; have := HA.out; have := HM.out; have := HB.out; have := HH.out; omega)
                     have e6 : ((pe : Int) < pb) := by (have := HPS.out; have := HPH.out; have := HPEE.out; have := HA.out; have := HM.out; have := HB.out; have := HH.out; omega)
                     have UP : Hid (A.length - s = 0) := Lib.hid (by omega)
                     have UQ : Hid (h - s = 0) := Lib.hid (by omega)
                     have UR : Hid (0 < s) := Lib.hid (by omega)
                     have UT : Hid (0 < B.length - (h - s)) := Lib.hid (by omega)
                     clear hp hq hr ht
                     go_upto_region 41 with (fail)
                     have HR1 := Lib.hid (HRW.out (.inl UP.out))
                     have HM1 := HM0
                     go_upto_region 43 with (fail)
                     have HR2 := HR1
                     have HM2 := HM1
                     have HSC := Lib.hid (HC1.out (.inr UQ.out))
                     have HPC := Lib.hid (List.Perm.refl (A.take s ++ B.take (h - s)))
                     go_wp2_with (fail)
                     go_end0
                     obtain ⟨f1, f2⟩ := HDN.out _ _ HPC.out HSC.out (List.Perm.refl _) (HC2.out (.inl UP.out))
                     exact ⟨⟨_, rfl⟩, ⟨_, by simpa using HR2.out, f2, f1⟩, HM2.out⟩)
              · exfalso; omega
            · by_cases ht : h - s < B.length
              · exfalso; omega
              · exfalso; omega

end Go.Proofs.Ytedamnocolfmlaa

/- symMerge whole; stable sort whole. -/
namespace Go.Proofs.Ytedamnocolfmlaa
open Go.RowKit

theorem symMerge_any (R : Ho → Prop) (lt : Ho → Ho → Prop) (cm : Ho → Ho → Int) (hcm : ∀ x y, R x → R y → (lt x y ↔ cm x y < 0)) (g0 : Nat) (lb : Array Value) (eg : ∀ args w, (callFunc g0 args).run Try.prog w = .ok (.enter g0 args) w)
    (hf : ∀ x y W, R x → R y → Calls Try.prog g0 (#[.agg #[.int .u32 x.t.a, .int .u32 x.t.b, .int .u16 x.t.c, .int .u16 x.t.d, .int .i64 x.n], .agg #[.int .u32 y.t.a, .int .u32 y.t.b, .int .u16 y.t.c, .int .u16 y.t.d, .int .i64 y.n]] ++ lb) W fun e w' => e = .returned (.int .i64 (cm x y)) ∧ Ext W w')
    (T : Tot lt) : ∀ N, SymP R lt g0 lb N := by
  intro N
  induction N with
  | zero => intro g cap P A B S h1 h2 h3; omega
  | succ N ih =>
    intro g cap P A B S hAB hA0 hB0 hR hSA hSB hl w hr n qa qm qb hn ea em eb
    have ea' : qa = ((P.length : Nat) : Int) := ea
    subst ea' em eb
    by_cases hA1 : A.length = 1
    · obtain ⟨x, rfl⟩ := List.length_eq_one_iff.1 hA1
      exact symA_any R lt cm hcm g0 lb eg hf T g cap P B S x hR hSB hl w hr n _ _ _ hn rfl rfl rfl
    · by_cases hB1 : B.length = 1
      · obtain ⟨x, rfl⟩ := List.length_eq_one_iff.1 hB1
        exact symB_any R lt cm hcm g0 lb eg hf T g cap P A S x (by omega) (fun y hy => hR y (by
          rcases List.mem_cons.1 hy with rfl | hy
          · exact List.mem_append_right _ (List.mem_cons_self)
          · exact List.mem_append_left _ hy)) hSA hl w hr n _ _ _ hn rfl rfl rfl
      · exact symC_any R lt cm hcm g0 lb eg hf T N ih g cap P A B S hAB (by omega) (by omega) hR hSA hSB hl w hr n _ _ _ hn rfl rfl rfl
/-- Blocks in order: D of 2b each, then M of b each, then less than b. -/
structure Bl (lt : Ho → Ho → Prop) (xs : List Ho) (b : Nat) (D M : List (List Ho)) (T : List Ho) : Prop where
  perm_ : (D.flatten ++ (M.flatten ++ T)).Perm xs
  d_ : ∀ C ∈ D, C.length = 2 * b ∧ Srt lt C
  m_ : ∀ C ∈ M, C.length = b ∧ Srt lt C
  t_ : T.length < b ∧ Srt lt T
theorem Bl.up {lt : Ho → Ho → Prop} {xs : List Ho} {b : Nat} {D : List (List Ho)} {C : List Ho} (hd : ∀ E ∈ D, E.length = 2 * b ∧ Srt lt E) (hl : C.length < 2 * b) (hs : Srt lt C) (hp : (D.flatten ++ C).Perm xs) : Bl lt xs (2 * b) [] D C :=
  ⟨hp, fun _ h => absurd h List.not_mem_nil, hd, hl, hs⟩
set_option maxRecDepth 100000 in
set_option maxHeartbeats 16000000 in
theorem stable_any (R : Ho → Prop) (lt : Ho → Ho → Prop) (cm : Ho → Ho → Int) (hcm : ∀ x y, R x → R y → (lt x y ↔ cm x y < 0)) (g0 : Nat) (lb : Array Value) (eg : ∀ args w, (callFunc g0 args).run Try.prog w = .ok (.enter g0 args) w)
    (hf : ∀ x y W, R x → R y → Calls Try.prog g0 (#[.agg #[.int .u32 x.t.a, .int .u32 x.t.b, .int .u16 x.t.c, .int .u16 x.t.d, .int .i64 x.n], .agg #[.int .u32 y.t.a, .int .u32 y.t.b, .int .u16 y.t.c, .int .u16 y.t.d, .int .i64 y.n]] ++ lb) W fun e w' => e = .returned (.int .i64 (cm x y)) ∧ Ext W w')
    (T : Tot lt) (g cap : Nat) (xs : List Ho) (hR : ∀ x ∈ xs, R x) (n : Nat) (hn : xs.length = n) (hl : n ≤ 1000) (w : World) (hr : RowH w g cap xs) :
    Calls Try.prog 51 #[.slice (some ⟨g, 0, none⟩) n cap, .int .i64 n, .func (.func g0) #[] lb] w fun e w' => (∃ v, e = .returned v) ∧ (∃ C, RowH w' g cap C ∧ Srt lt C ∧ C.Perm xs) ∧ Mv (fun q => q = g) w w' := by
  have HI := Lib.hid (show ∀ P W S : List Ho, (P ++ W ++ S).Perm xs → ∀ W0, RowH W0 g cap (P ++ W ++ S) → ∀ qa qb : Int, qa = (P.length : Nat) → qb = (P.length + W.length : Nat) → Calls Try.prog 69 #[.slice (some ⟨g, 0, none⟩) n cap, .int .i64 qa, .int .i64 qb, .func (.func g0) #[] lb] W0 fun e w' => (∃ v, e = .returned v) ∧ (∃ C, RowH w' g cap (P ++ C ++ S) ∧ Srt lt C ∧ C.Perm (W)) ∧ Mv (fun q => q = g) W0 w' from fun P W S hp W0 hw qa qb ea eb => by
    subst ea eb
    exact insertion_any R lt cm hcm g0 lb eg hf T g cap P W S (fun x hx => hR x (hp.mem_iff.1 (List.mem_append_left _ (List.mem_append_right _ hx)))) (by rw [hp.length_eq, hn]; exact hl) W0 hw n _ _ (by rw [hp.length_eq, hn]) rfl rfl)
  have HS := Lib.hid (show ∀ P A B S : List Ho, 0 < A.length → 0 < B.length → Srt lt A → Srt lt B → (P ++ (A ++ B) ++ S).Perm xs → ∀ W0, RowH W0 g cap (P ++ (A ++ B) ++ S) → ∀ qa qm qb : Int, qa = (P.length : Nat) → qm = (P.length + A.length : Nat) → qb = (P.length + A.length + B.length : Nat) → Calls Try.prog 70 #[.slice (some ⟨g, 0, none⟩) n cap, .int .i64 qa, .int .i64 qm, .int .i64 qb, .func (.func g0) #[] lb] W0 fun e w' => (∃ v, e = .returned v) ∧ (∃ C, RowH w' g cap (P ++ C ++ S) ∧ Srt lt C ∧ C.Perm (A ++ B)) ∧ Mv (fun q => q = g) W0 w' from fun P A B S hA hB sA sB hp W0 hw qa qm qb ea em eb =>
    symMerge_any R lt cm hcm g0 lb eg hf T _ g cap P A B S (Nat.le_refl _) hA hB (fun x hx => hR x (hp.mem_iff.1 (List.mem_append_left _ (List.mem_append_right _ hx)))) sA sB (by rw [hp.length_eq, hn]; exact hl) W0 hw n qa qm qb (by rw [hp.length_eq, hn]) ea em eb)
  have HROW := Lib.hid hr
  have HN := Lib.hid hn
  clear hf hcm hR hn hr
  go_enter Try.func51, Try.ntmps51
  go_wp2
  go_loopw [7, 8] (fun qi qj wr => ∃ (a : Nat) (L : List (List Ho)) (W : List Ho), qi = .int .i64 (a : Nat) ∧ qj = .int .i64 ((a + 20 : Nat) : Int) ∧ a = L.flatten.length ∧ (L.flatten ++ W).Perm xs ∧ (∀ C ∈ L, C.length = 20 ∧ Srt lt C) ∧ RowH wr g cap (L.flatten ++ W) ∧ Mv (fun q => q = g) w wr) (fun qi _ _ => n - (intOf qi).toNat)
  case atStart => exact ⟨0, [], xs, rfl, rfl, rfl, List.Perm.refl _, fun _ h => absurd h List.not_mem_nil, HROW.out, Mv.refl _ _⟩
  case round =>
    obtain ⟨a, L, W, rfl, rfl, ha, hp, hL, hw, hm⟩ := hrel
    have hlen : n = a + W.length := by rw [← HN.out, ← hp.length_eq, List.length_append, ha]
    have HA := Lib.hid ha
    have HP := Lib.hid hp
    have HLL := Lib.hid hL
    have HW := Lib.hid hw
    have HM := Lib.hid hm
    clear ha hp hL hw hm
    by_cases hg : a + 20 ≤ n
    · have hg' : ((a + 20 : Nat) : Int) ≤ n := by omega
      have hsp : L.flatten ++ W = L.flatten ++ W.take 20 ++ W.drop 20 := by rw [List.append_assoc, List.take_append_drop]
      have hl20 : (W.take 20).length = 20 := by rw [List.length_take]; omega
      have H1 := Lib.hid (show (L.flatten ++ W.take 20 ++ W.drop 20).Perm xs by rw [← hsp]; exact HP.out)
      have H2 := Lib.hid (show RowH wr g cap (L.flatten ++ W.take 20 ++ W.drop 20) by rw [← hsp]; exact HW.out)
      have H3 := Lib.hid hl20
      have HLEN := Lib.hid hlen
      clear hsp hl20 hlen
      go_wp2_with (go_at_call 69; go_must (with_reducible refine (HI.out _ _ _ H1.out _ H2.out _ _ (by rw [HA.out]) (by have := H3.out; have := HA.out; omega)).mono ?_); rintro e1 W2 ⟨⟨v, rfl⟩, ⟨C, c1, c2, c3⟩, m2⟩)
      have K1 := Lib.hid c1
      have K2 := Lib.hid c2
      have K3 := Lib.hid c3
      have K4 := Lib.hid (HM.out.trans m2)
      clear c1 c2 c3 m2
      go_roundw
      case rel =>
        have hC : C.length = 20 := by rw [K3.out.length_eq, H3.out]
        have e1 : (L ++ [C]).flatten = L.flatten ++ C := by simp
        refine ⟨a + 20, L ++ [C], W.drop 20, rfl, by first | rfl | go_num, by rw [e1, List.length_append, hC, HA.out], ?_, ?_, by rw [e1]; exact K1.out, K4.out⟩
        · rw [e1]
          exact ((K3.out.append_left _).append_right _).trans H1.out
        · intro c hc
          rcases List.mem_append.1 hc with hc | hc
          · exact HLL.out c hc
          · rw [List.mem_singleton.1 hc]
            exact ⟨hC, K2.out⟩
      case measure => simp [intOf]; omega
    · have hg' : ¬ ((a + 20 : Nat) : Int) ≤ n := by omega
      have H1 := Lib.hid (show (L.flatten ++ W ++ []).Perm xs by rw [List.append_nil]; exact HP.out)
      have H2 := Lib.hid (show RowH wr g cap (L.flatten ++ W ++ []) by rw [List.append_nil]; exact HW.out)
      have HLEN := Lib.hid hlen
      have HG := Lib.hid hg
      clear hlen hg
      go_wp2_with (go_at_call 69; go_must (with_reducible refine (HI.out _ _ _ H1.out _ H2.out _ _ (by rw [HA.out]) (by have := HLEN.out; have := HA.out; omega)).mono ?_); rintro e1 W2 ⟨⟨v, rfl⟩, ⟨C, c1, c2, c3⟩, m2⟩)
      have hC : C.length < 20 := by have := HLEN.out; have := HG.out; rw [c3.length_eq]; omega
      have hB : Bl lt xs 20 [] L C := ⟨by
        have := (c3.append_left L.flatten).trans (by simpa using H1.out)
        simpa using this, fun _ h => absurd h List.not_mem_nil, HLL.out, hC, c2⟩
      rw [List.append_nil] at c1
      have K1 := Lib.hid c1
      have K2 := Lib.hid hB
      have K4 := Lib.hid (HM.out.trans m2)
      clear c1 c2 c3 m2 hB hC hg'
      go_loopw [6, 7, 8, 9] (fun qb _ _ _ wr => ∃ (b : Nat) (L : List (List Ho)) (T : List Ho), qb = .int .i64 (b : Nat) ∧ 20 ≤ b ∧ b ≤ 2000 ∧ Bl lt xs b [] L T ∧ RowH wr g cap (L.flatten ++ T) ∧ Mv (fun q => q = g) w wr) (fun qb _ _ _ _ => n - (intOf qb).toNat)
      case atStart => exact ⟨20, L, C, rfl, by omega, by omega, K2.out, K1.out, K4.out⟩
      case round =>
        clear HA HP HLL HW HM H1 H2 HLEN HG K1 K2 K4
        obtain ⟨b, L, T1, rfl, hb20, hb2, hB, hw, hm⟩ := hrel
        have HB := Lib.hid hB
        have HW := Lib.hid hw
        have HM := Lib.hid hm
        clear hB hw hm
        by_cases hbn : b < n
        · have hbn' : (b : Int) < n := by omega
          go_wp2
          go_loopw [7, 8] (fun qi qj wr => ∃ (a : Nat) (D M : List (List Ho)), qi = .int .i64 (a : Nat) ∧ qj = .int .i64 ((a + 2 * b : Nat) : Int) ∧ a = D.flatten.length ∧ Bl lt xs b D M T1 ∧ RowH wr g cap (D.flatten ++ (M.flatten ++ T1)) ∧ Mv (fun q => q = g) w wr) (fun qi _ _ => n - (intOf qi).toNat)
          case atStart => exact ⟨0, [], L, rfl, congrArg (Value.int .i64) (by omega), rfl, HB.out, HW.out, HM.out⟩
          case round =>
            clear HB HW HM
            obtain ⟨a, D, M, rfl, rfl, ha, hB, hw, hm⟩ := hrel
            have hn : n = a + M.flatten.length + T1.length := by
              rw [← HN.out, ← hB.perm_.length_eq, List.length_append, List.length_append, ha]; omega
            have htl := hB.t_.1
            have HA := Lib.hid ha
            have HB := Lib.hid hB
            have HW := Lib.hid hw
            have HM := Lib.hid hm
            clear ha hB hw hm
            obtain ⟨e, he⟩ : ∃ e, a + 2 * b = e := ⟨_, rfl⟩
            rw [he]
            have hae : a ≤ n := by omega
            rcases M with _ | ⟨A, _ | ⟨B, M⟩⟩
            · have hn1 : n = a + T1.length := by simpa using hn
              have hg1 : ¬ ((e : Int) ≤ n) := by omega
              have hg2 : ¬ ((a : Int) + b < n) := by omega
              have HU := Lib.hid (Bl.up (xs := xs) (C := T1) HB.out.d_ (by have := HB.out.t_.1; omega) HB.out.t_.2 HB.out.perm_)
              have HW2 : Hid (RowH wr g cap (D.flatten ++ T1)) := Lib.hid HW.out
              clear hn hn1 htl he
              go_wp2
              go_roundw
              case rel => exact ⟨2 * b, D, T1, congrArg (Value.int .i64) (by omega), by omega, by omega, HU.out, HW2.out, HM.out⟩
              case measure => simp [intOf]; omega
            · have hA := HB.out.m_ A (by simp)
              have hn1 : n = a + b + T1.length := by rw [← hA.1]; simpa using hn
              have hg1 : ¬ ((e : Int) ≤ n) := by omega
              have e0 : D.flatten ++ ([A].flatten ++ T1) = D.flatten ++ (A ++ T1) := by simp
              have HP := Lib.hid (show (D.flatten ++ (A ++ T1)).Perm xs by rw [← e0]; exact HB.out.perm_)
              have HW1 := Lib.hid (show RowH wr g cap (D.flatten ++ (A ++ T1)) by rw [← e0]; exact HW.out)
              have HAL := Lib.hid hA
              by_cases hT : T1.length = 0
              · have hg2 : ¬ ((a : Int) + b < n) := by omega
                have e1 : T1 = [] := List.length_eq_zero_iff.1 hT
                have HU := Lib.hid (Bl.up (xs := xs) (C := A) HB.out.d_ (by omega) hA.2 (by have := HP.out; rw [e1, List.append_nil] at this; exact this))
                have HW2 : Hid (RowH wr g cap (D.flatten ++ A)) := Lib.hid (by have := HW1.out; rw [e1, List.append_nil] at this; exact this)
                clear hn hn1 htl he hA e0 hT e1
                go_wp2
                go_roundw
                case rel => exact ⟨2 * b, D, A, congrArg (Value.int .i64) (by omega), by omega, by omega, HU.out, HW2.out, HM.out⟩
                case measure => simp [intOf]; omega
              · have hg2 : (a : Int) + b < n := by omega
                have H1 := Lib.hid (show (D.flatten ++ (A ++ T1) ++ []).Perm xs by rw [List.append_nil]; exact HP.out)
                have H2 := Lib.hid (show RowH wr g cap (D.flatten ++ (A ++ T1) ++ []) by rw [List.append_nil]; exact HW1.out)
                have HN1 := Lib.hid hn1
                have HT := Lib.hid (show 0 < A.length ∧ 0 < T1.length by omega)
                clear hn hn1 htl he hA e0 hT
                go_wp2_with (go_at_call 70; go_must (with_reducible refine (HS.out _ _ _ _ HT.out.1 HT.out.2 HAL.out.2 HB.out.t_.2 H1.out _ H2.out _ _ _ (by rw [HA.out]) (by have := HAL.out.1; have := HA.out; omega) (by have := HAL.out.1; have := HA.out; have := HN1.out; omega)).mono ?_); rintro e1 W2 ⟨⟨v, rfl⟩, ⟨C, c1, c2, c3⟩, m2⟩)
                have hCl : C.length < 2 * b := by rw [c3.length_eq, List.length_append, HAL.out.1]; have := HB.out.t_.1; omega
                have HU := Lib.hid (Bl.up (xs := xs) (C := C) HB.out.d_ hCl c2 ((c3.append_left _).trans HP.out))
                rw [List.append_nil] at c1
                have K1 := Lib.hid c1
                have K4 := Lib.hid (HM.out.trans m2)
                clear c1 c2 c3 m2 hCl
                go_roundw
                case rel => exact ⟨2 * b, D, C, congrArg (Value.int .i64) (by omega), by omega, by omega, HU.out, K1.out, K4.out⟩
                case measure => simp [intOf]; omega
            · have hA := HB.out.m_ A (by simp)
              have hB := HB.out.m_ B (by simp)
              have hn1 : n = a + 2 * b + M.flatten.length + T1.length := by rw [hn]; simp; omega
              have hg1 : (e : Int) ≤ n := by omega
              have e0 : D.flatten ++ ((A :: B :: M).flatten ++ T1) = D.flatten ++ (A ++ B) ++ (M.flatten ++ T1) := by simp
              have H1 := Lib.hid (show (D.flatten ++ (A ++ B) ++ (M.flatten ++ T1)).Perm xs by rw [← e0]; exact HB.out.perm_)
              have H2 := Lib.hid (show RowH wr g cap (D.flatten ++ (A ++ B) ++ (M.flatten ++ T1)) by rw [← e0]; exact HW.out)
              have HT := Lib.hid (show 0 < A.length ∧ 0 < B.length by omega)
              have HAL := Lib.hid hA
              have HBL := Lib.hid hB
              have HE := Lib.hid he
              have heb : e ≤ 1000 := by omega
              clear hn hn1 htl he hA hB e0
              go_upto_region 11 with (go_at_call 70; go_must (with_reducible refine (HS.out _ _ _ _ HT.out.1 HT.out.2 HAL.out.2 HBL.out.2 H1.out _ H2.out _ _ _ (by rw [HA.out]) (by have := HAL.out.1; have := HA.out; omega) (by have := HAL.out.1; have := HBL.out.1; have := HA.out; have := HE.out; omega)).mono ?_); rintro e1 W2 ⟨⟨v, rfl⟩, ⟨C, c1, c2, c3⟩, m2⟩)
              have K1 := Lib.hid c1
              have K2 := Lib.hid c2
              have K3 := Lib.hid c3
              have K4 := Lib.hid (HM.out.trans m2)
              clear c1 c2 c3 m2
              go_wp2
              go_roundw
              case rel =>
                have hC : C.length = 2 * b := by rw [K3.out.length_eq, List.length_append, HAL.out.1, HBL.out.1]; omega
                have e1 : (D ++ [C]).flatten = D.flatten ++ C := by simp
                refine ⟨e, D ++ [C], M, rfl, congrArg (Value.int .i64) (by omega), by rw [e1, List.length_append, hC, ← HA.out, HE.out], ⟨?_, ?_, fun c hc => HB.out.m_ c (List.mem_cons_of_mem _ (List.mem_cons_of_mem _ hc)), HB.out.t_⟩, by rw [e1]; exact K1.out, K4.out⟩
                · rw [e1]
                  exact ((K3.out.append_left _).append_right _).trans H1.out
                · intro c hc
                  rcases List.mem_append.1 hc with hc | hc
                  · exact HB.out.d_ c hc
                  · rw [List.mem_singleton.1 hc]
                    exact ⟨hC, K2.out⟩
              case measure => have := HE.out; simp [intOf]; omega
        · have hbn' : ¬ (b : Int) < n := by omega
          have hfin : RowH wr g cap (L.flatten ++ T1) ∧ Srt lt (L.flatten ++ T1) ∧ (L.flatten ++ T1).Perm xs := by
            have hB := HB.out
            have hp : (L.flatten ++ T1).Perm xs := hB.perm_
            refine ⟨HW.out, ?_, hp⟩
            have hn := hp.length_eq
            rw [HN.out, List.length_append] at hn
            rcases L with _ | ⟨A, _ | ⟨B, L⟩⟩
            · exact hB.t_.2
            · have h1 := hB.m_ A (by simp)
              have : T1 = [] := List.length_eq_zero_iff.1 (by simp at hn; omega)
              rw [this]
              simpa using h1.2
            · have h1 := hB.m_ A (by simp)
              have h2 := hB.m_ B (by simp)
              simp at hn
              omega
          have HF := Lib.hid hfin
          clear hfin
          go_wp2
          go_end0
          exact ⟨⟨_, rfl⟩, ⟨_, HF.out.1, HF.out.2.1, HF.out.2.2⟩, HM.out⟩
set_option maxRecDepth 100000 in
set_option maxHeartbeats 1000000 in
theorem sort_any (n : Nat) (hl : n ≤ 1000) : SortOk n := by
  intro R lt cm hcm g0 lb eg hf T g cap xs hR hn w hr
  have H := Lib.hid (stable_any R lt cm hcm g0 lb eg hf T g cap xs hR n hn hl w hr)
  clear hf hcm hR hn hr
  go_enter Try.func31, Try.ntmps31
  go_wp2_with (go_at_call 51; go_must (with_reducible refine (H.out).mono ?_); rintro e w2 ⟨⟨v, rfl⟩, ⟨C, c1, c2, c3⟩, m2⟩)
  go_end0
  exact ⟨⟨_, rfl⟩, ⟨C, c1, c2, c3⟩, m2⟩

end Go.Proofs.Ytedamnocolfmlaa

/- Two of one tuple, or two takers of one bucket: not sound. -/
namespace Go.Proofs.Ytedamnocolfmlaa
open Go.RowKit

theorem two_once {x : Wd} {n m : Nat} (hm : m < 6) (hnm : n < m) (tn : thereW x n = true) (tm : thereW x m = true) {c d : Co} (hc : c ∈ (x.ag n).xs) (hd : d ∈ (x.ag m).xs) (he : c.t = d.t) : onceX x = false := by
  unfold onceX
  refine decide_eq_false fun h => ?_
  unfold allH at h
  rw [List.map_flatMap] at h
  have h2 := (List.pairwise_flatMap.1 h).2
  unfold agsL pickN at h2
  have h3 := List.pairwise_iff_getElem.1 (List.pairwise_filter.1 (List.pairwise_map.1 h2)) n m (by simp; omega) (by simp; omega) hnm
  rw [List.getElem_range, List.getElem_range] at h3
  refine h3 tn tm c.t ?_ d.t ?_ he
  · exact List.mem_map.2 ⟨⟨c.t, (n : Int)⟩, List.mem_map.2 ⟨c, hc, rfl⟩, rfl⟩
  · exact List.mem_map.2 ⟨⟨d.t, (m : Int)⟩, List.mem_map.2 ⟨d, hd, rfl⟩, rfl⟩
theorem two_take {x : Wd} {n m q : Nat} (hn : n < 6) (hm : m < 6) (hq : q < 16) (hnm : n ≠ m) (tn : thereW x n = true) (tm : thereW x m = true) (hc : takesM ((x.ag n).md q) = true) (hd : takesM ((x.ag m).md q) = true) : soundB x (q : Int) = false := by
  obtain ⟨l, hl⟩ : ∃ l, thoseL x q (fun a => takesM (a.md (q : Int).toNat)) = l := ⟨_, rfl⟩
  have h1 : (l.any fun a => a == (n : Int)) = true := by rw [← hl, thoseL_any x q n hq hn, Int.toNat_natCast, tn, hc]; rfl
  have h2 : (l.any fun a => a == (m : Int)) = true := by rw [← hl, thoseL_any x q m hq hm, Int.toNat_natCast, tm, hd]; rfl
  unfold soundB
  rw [hl]
  rcases l with _ | ⟨a, _ | ⟨b, l⟩⟩
  · cases h1
  · simp at h1 h2; omega
  · rfl
/-- Two backends both there, with one tuple or both taking the bucket. -/
def bothB (x : Wd) (n m q : Nat) : Bool := (takesM ((x.ag n).md q) && takesM ((x.ag m).md q)) || (x.ag n).xs.any fun c => (x.ag m).xs.any fun d => eqT c.t d.t
theorem both_sound {x : Wd} {n m q : Nat} (hn : n < 6) (hm : m < 6) (hq : q < 16) (hnm : n ≠ m) (tn : thereW x n = true) (tm : thereW x m = true) (h : bothB x n m q = true) : soundW x = false := by
  unfold bothB at h
  rw [Bool.or_eq_true] at h
  rcases h with h | h
  · rw [Bool.and_eq_true] at h
    exact soundW_bk q hq (two_take hn hm hq hnm tn tm h.1 h.2)
  · obtain ⟨c, hc, h⟩ := List.any_eq_true.1 h
    obtain ⟨d, hd, h⟩ := List.any_eq_true.1 h
    have he := eqT_iff.1 h
    refine soundW_once ?_
    rcases Nat.lt_or_gt_of_ne hnm with h1 | h1
    · exact two_once hm h1 tn tm hc hd he
    · exact two_once hn h1 tm tn hd hc he.symm
theorem allH_len {x : Wd} (h : ∀ i, i < 6 → (x.ag i).xs.length ≤ 40) : (allH x).length ≤ 1000 := by
  unfold allH
  have H : ∀ l : List (Nat × Ag), (∀ s ∈ l, s.2.xs.length ≤ 40) → (l.flatMap agH).length ≤ 40 * l.length := by
    intro l
    induction l with
    | nil => intro; exact Nat.le_refl _
    | cons s l ih =>
      intro hh
      have h1 := hh s List.mem_cons_self
      have h2 := ih fun t ht => hh t (List.mem_cons_of_mem _ ht)
      rw [List.flatMap_cons, List.length_append, List.length_cons]
      unfold agH at h2 ⊢
      rw [List.length_map]
      omega
  have h1 := H (agsL x) fun s hs => by
    unfold agsL pickN at hs
    obtain ⟨i, hi, rfl⟩ := List.mem_map.1 hs
    exact h i (List.mem_range.1 (List.mem_filter.1 hi).1)
  have h2 : (agsL x).length ≤ 6 := by
    unfold agsL pickN
    rw [List.length_map]
    exact Nat.le_trans (List.length_filter_le _ _) (by rw [List.length_range]; exact Nat.le_refl _)
  omega

end Go.Proofs.Ytedamnocolfmlaa

/- WatchTwice: the walk. -/
namespace Go.Proofs.Ytedamnocolfmlaa
open Go.RowKit

theorem bit0_setN (f : Nat → Bool) (n : Nat) (hn : n < 6) : (bits BinOp.and IntKind.u8 (setN f 6 / 2 ^ n) 1 == 0) = !f n := by
  unfold setN setN setN setN setN setN setN
  obtain rfl | rfl | rfl | rfl | rfl | rfl : n = 0 ∨ n = 1 ∨ n = 2 ∨ n = 3 ∨ n = 4 ∨ n = 5 := by omega
  all_goals (cases f 0 <;> cases f 1 <;> cases f 2 <;> cases f 3 <;> cases f 4 <;> cases f 5 <;> rfl)
theorem ixag_run {i B : Nat} (hi : i < 6) (ρ : Operand → Value) (dst : Option Tmp) (x y : Operand) (ty : TypeId) (pos : String) (after : Array Edge) (g : Option (Nat × Bool)) (hx : ρ x = .pointer (some ⟨B, 391, none⟩)) (hy : ρ y = .int .i64 i) (w : World) :
    (execOp ρ ⟨dst, .indexAddr 48 x y, ty, pos, after, g⟩).run Try.prog w = .ok (.value (.pointer (some ⟨B, 391 + i * 67, none⟩))) w := by
  have hi' : (i : Int) < 6 := by omega
  simp only [execOp, hx, hy]
  go_simp
theorem ixmd_run {i B o : Nat} (hi : i < 16) (ρ : Operand → Value) (dst : Option Tmp) (x y : Operand) (ty : TypeId) (pos : String) (after : Array Edge) (g : Option (Nat × Bool)) (hx : ρ x = .pointer (some ⟨B, o, none⟩)) (hy : ρ y = .int .i64 i) (w : World) :
    (execOp ρ ⟨dst, .indexAddr 44 x y, ty, pos, after, g⟩).run Try.prog w = .ok (.value (.pointer (some ⟨B, o + i * 4, none⟩))) w := by
  have hi' : (i : Int) < 16 := by omega
  simp only [execOp, hx, hy]
  go_simp
theorem ldmd_K {C : Nat → Prop} {w : World} {B n q : Nat} {x : Wd} (hn : n < 6) (hq : q < 16) (h0 : rowD w B = wdv x) (hl : Lt B w) (hC : ¬ C B) (ρ : Operand → Value) (dst : Option Tmp) (p : Operand) (ty : TypeId) (pos : String) (after : Array Edge) (g : Option (Nat × Bool)) (hx : ρ p = .pointer (some ⟨B, 391 + n * 67 + 2 + q * 4, none⟩)) :
    ∀ w', Mv C w w' → (execOp ρ ⟨dst, .load 43 p, ty, pos, after, g⟩).run Try.prog w' = .ok (.value (.agg (mdv ((x.ag n).md q)))) w' := by
  intro w' hE
  have hr : rowD w' B = wdv x := by rw [rowD_same (hE.same B hl hC)]; exact h0
  have e := exec_load_md ρ dst p ty pos after g w' (by rw [hx]; rfl) (by rw [hx]; show Fits (391 + n * 67 + 2 + q * 4) 4 (rowD w' B); rw [hr, fits_wdv]; omega)
  rw [e, hx]
  show Result.ok (Next.value (Value.agg (cutD (rowD w' B) (391 + n * 67 + 2 + q * 4) 4))) w' = _
  rw [hr, cut_wd_md x n q hn hq]
theorem almd_run (ρ : Operand → Value) (dst : Option Tmp) (ty : TypeId) (pos : String) (after : Array Edge) (g : Option (Nat × Bool)) (w : World) :
    (execOp ρ ⟨dst, .alloc 43, ty, pos, after, g⟩).run Try.prog w = .ok (.value (.pointer (some ⟨w.heap.size, 0, none⟩))) (w.alloc (.cells #[.int .u8 0, .int .i64 0, .int .i64 0, .bool false] 43)) := by
  simp only [execOp]
  go_simp
theorem stmd_run {B : Nat} {e : Md} {w : World} (hs : (rowD w B).size = 4) (hf : frzD w B = (0, 0)) (hl : Lt B w) (ρ : Operand → Value) (dst : Option Tmp) (x y : Operand) (ty : TypeId) (pos : String) (after : Array Edge) (g : Option (Nat × Bool)) (hx : ρ x = .pointer (some ⟨B, 0, none⟩)) (hy : ρ y = .agg (mdv e)) :
    (execOp ρ ⟨dst, .store 43 x y, ty, pos, after, g⟩).run Try.prog w = .ok .skip (setAt w B 0 (mdv e)) := by
  have e := exec_store_md ρ dst x y ty pos after g w (by rw [hx]; rfl) (by rw [hy]; rfl) (by rw [hy]; exact sizeIs_mdv) (by rw [hx]; show Fits 0 4 (rowD w B); unfold Fits; omega) (by rw [hx]; exact hf) (by rw [hy]; exact all_mdv)
  rw [e, hx, hy]
  rfl
/-- Two rows of a mode that are new, one block each. -/
structure TwoMd (W V : World) (b c : Nat) (e f : Md) : Prop where
  ext_ : Ext W V
  r1 : rowD V b = mdv e
  r2 : rowD V c = mdv f
  l1 : Lt b V
  l2 : Lt c V
/-- .. behind a hand of its own. -/
structure TwoMdS (W V : World) (b c : Nat) (e f : Md) : Prop where
  at_ : TwoMd W V b c e f
abbrev zmd : Obj := .cells #[.int .u8 0, .int .i64 0, .int .i64 0, .bool false] 43
structure MdOk (W : World) (b : Nat) : Prop where
  s : (rowD W b).size = 4
  z : frzD W b = (0, 0)
  l : Lt b W
theorem mdok_new (W : World) : MdOk (W.alloc zmd) W.heap.size := ⟨by rw [rowD_new]; rfl, by rw [frzD_alloc, if_pos rfl], by simp [go_sem]⟩
theorem MdOk.ext {W V : World} {b : Nat} (h : MdOk W b) (e : Ext W V) : MdOk V b := ⟨by rw [rowD_same (e.block b h.l)]; exact h.s, by have := h.z; unfold frzD at this ⊢; rw [e.block b h.l]; exact this, Nat.lt_of_lt_of_le h.l e.size⟩
theorem MdOk.sa {W : World} {b c : Nat} (h : MdOk W b) (hb : b ≠ c) (cs : Array Value) : MdOk (setAt W c 0 cs) b := ⟨by rw [rowD_setAt_other _ _ _ _ _ hb]; exact h.s, by rw [frzD_setAt]; exact h.z, by rw [Lt_setAt]; exact h.l⟩
theorem two_md {W A : World} {b c : Nat} (e f : Md) (hA : Ext W A) (hb : MdOk A b) (hc : MdOk A c) (hbc : b ≠ c) (nb : W.heap.size ≤ b) (nc : W.heap.size ≤ c) : TwoMd W (setAt (setAt A b 0 (mdv e)) c 0 (mdv f)) b c e f :=
  ⟨Ext.sa _ nc (Ext.sa _ nb hA), by rw [rowD_setAt_other _ _ _ _ _ hbc]; exact setAt_all _ _ _ (by rw [hb.s, size_mdv]), setAt_all _ _ _ (by rw [(hc.sa (Ne.symm hbc) _).s, size_mdv]), by rw [Lt_setAt, Lt_setAt]; exact hb.l, by rw [Lt_setAt, Lt_setAt]; exact hc.l⟩
theorem storeM {P : Program} {ops : Array Oper} {C : Nat → Prop} {Q : Act → World → Prop} {N k m m' : Nat} {oi : Oper} {fuel : Nat} {a : Act} {w w1 : World} (hm : m ||| (1 <<< k) = m') (hi : ops[k]? = some oi) (hw : Region.wanted oi (yielded ops a.tmps) = true)
    (he : (execOp a.eval oi).run P w = .ok .skip w1) (hE : Mv C w w1) (H : wpAnyK C P .any ops Q fuel (msk N m') (a.put oi.dst undef) w1) : StepM C P ops Q fuel N k m a w := by
  refine ⟨?_⟩
  unfold xOpK
  simp only [hi, hw, if_true, he, hm]
  exact ⟨hE, H⟩
def SchT6 (ops : Array Oper) : Prop := Region.noSelect ops = true ∧ stepsM ops 18 [0, 1, 2, 3, 4, 5, 6, 7, 8, 9, 10, 11, 12, 13] 0 = true ∧ Region.ready .any ops (msk 18 16383) = [14, 15] ∧ Region.ready .any ops (msk 18 32767) = [15] ∧ Region.ready .any ops (msk 18 49151) = [14] ∧ Region.ready .any ops (msk 18 65535) = [16] ∧ Region.ready .any ops (msk 18 131071) = [17] ∧ Region.ready .any ops (msk 18 262143) = []
theorem SchT6_0 : Region.noSelect ((Try.f4.body.bind (findR 6)).getD #[]) = true := by kernel_rfl
theorem SchT6_1 : stepsM ((Try.f4.body.bind (findR 6)).getD #[]) 18 [0, 1, 2, 3, 4, 5, 6, 7, 8, 9, 10, 11, 12, 13] 0 = true := by kernel_rfl
theorem SchT6_2 : Region.ready .any ((Try.f4.body.bind (findR 6)).getD #[]) (msk 18 16383) = [14, 15] := by kernel_rfl
theorem SchT6_3 : Region.ready .any ((Try.f4.body.bind (findR 6)).getD #[]) (msk 18 32767) = [15] := by kernel_rfl
theorem SchT6_4 : Region.ready .any ((Try.f4.body.bind (findR 6)).getD #[]) (msk 18 49151) = [14] := by kernel_rfl
theorem SchT6_5 : Region.ready .any ((Try.f4.body.bind (findR 6)).getD #[]) (msk 18 65535) = [16] := by kernel_rfl
theorem SchT6_6 : Region.ready .any ((Try.f4.body.bind (findR 6)).getD #[]) (msk 18 131071) = [17] := by kernel_rfl
theorem SchT6_7 : Region.ready .any ((Try.f4.body.bind (findR 6)).getD #[]) (msk 18 262143) = [] := by kernel_rfl
theorem SchT6_all : SchT6 ((Try.f4.body.bind (findR 6)).getD #[]) := ⟨SchT6_0, SchT6_1, SchT6_2, SchT6_3, SchT6_4, SchT6_5, SchT6_6, SchT6_7⟩
set_option maxRecDepth 100000 in
set_option maxHeartbeats 8000000 in
theorem twice_any (x : Wd) (one two b : Int) (w : World) (hx : ∀ i, i < 6 → AgR w (x.ag i)) :
    Calls Try.prog 4 #[.agg (wdv x), .int .i64 one, .int .i64 two, .int .i64 b] w fun e w' => e = .returned (.bool true) ∧ Ext w w' := by
  go_enter Try.func4, Try.ntmps4
  go_upto_region 1 with (fail)
  obtain ⟨W0, hW⟩ : ∃ W0, w.alloc (.cells (wdv x) 53) = W0 := ⟨_, rfl⟩
  have g0 : Ext w W0 := by rw [← hW]; exact Ext.al (Ext.rf _) _
  have rx0 : rowD W0 w.heap.size = wdv x := by rw [← hW]; simp [go_sem]
  have lx0 : Lt w.heap.size W0 := by rw [← hW]; simp [go_sem]
  rw [hW]
  clear hW
  have HG := Lib.hid (fun W => great30_any x W)
  cases hg : greatW x
  case true =>
    rw [hg] at HG
    go_wp2_with (first | (go_at_call 5; (with_reducible refine (HG.out _).mono ?_); rintro e w1 ⟨rfl, g1⟩) | (go_at_call 6; (with_reducible refine (wakes30_any _).mono ?_); rintro e w2 ⟨rfl, g2⟩))
    go_ret
    exact ⟨rfl, (g0.tr g1).tr g2⟩
  rw [hg] at HG
  cases h1 : decide (0 ≤ one)
  · have h1' := of_decide_eq_false h1
    go_wp2_with (first | (go_at_call 5; (with_reducible refine (HG.out _).mono ?_); rintro e w1 ⟨rfl, g1⟩) | (go_at_call 6; (with_reducible refine (wakes30_any _).mono ?_); rintro e w2 ⟨rfl, g2⟩))
    go_ret
    exact ⟨rfl, (g0.tr g1).tr g2⟩
  have h1' := of_decide_eq_true h1
  cases h2 : decide (one < 6)
  · have h2' := of_decide_eq_false h2
    go_wp2_with (first | (go_at_call 5; (with_reducible refine (HG.out _).mono ?_); rintro e w1 ⟨rfl, g1⟩) | (go_at_call 6; (with_reducible refine (wakes30_any _).mono ?_); rintro e w2 ⟨rfl, g2⟩))
    go_ret
    exact ⟨rfl, (g0.tr g1).tr g2⟩
  have h2' := of_decide_eq_true h2
  cases h3 : decide (0 ≤ two)
  · have h3' := of_decide_eq_false h3
    go_wp2_with (first | (go_at_call 5; (with_reducible refine (HG.out _).mono ?_); rintro e w1 ⟨rfl, g1⟩) | (go_at_call 6; (with_reducible refine (wakes30_any _).mono ?_); rintro e w2 ⟨rfl, g2⟩))
    go_ret
    exact ⟨rfl, (g0.tr g1).tr g2⟩
  have h3' := of_decide_eq_true h3
  cases h4 : decide (two < 6)
  · have h4' := of_decide_eq_false h4
    go_wp2_with (first | (go_at_call 5; (with_reducible refine (HG.out _).mono ?_); rintro e w1 ⟨rfl, g1⟩) | (go_at_call 6; (with_reducible refine (wakes30_any _).mono ?_); rintro e w2 ⟨rfl, g2⟩))
    go_ret
    exact ⟨rfl, (g0.tr g1).tr g2⟩
  have h4' := of_decide_eq_true h4
  cases h5 : (one == two)
  case true =>
    go_wp2_with (first | (go_at_call 5; (with_reducible refine (HG.out _).mono ?_); rintro e w1 ⟨rfl, g1⟩) | (go_at_call 6; (with_reducible refine (wakes30_any _).mono ?_); rintro e w2 ⟨rfl, g2⟩))
    go_ret
    exact ⟨rfl, (g0.tr g1).tr g2⟩
  cases h6 : decide (0 ≤ b)
  · have h6' := of_decide_eq_false h6
    go_wp2_with (first | (go_at_call 5; (with_reducible refine (HG.out _).mono ?_); rintro e w1 ⟨rfl, g1⟩) | (go_at_call 6; (with_reducible refine (wakes30_any _).mono ?_); rintro e w2 ⟨rfl, g2⟩))
    go_ret
    exact ⟨rfl, (g0.tr g1).tr g2⟩
  have h6' := of_decide_eq_true h6
  cases h7 : decide (b < 16)
  · have h7' := of_decide_eq_false h7
    go_wp2_with (first | (go_at_call 5; (with_reducible refine (HG.out _).mono ?_); rintro e w1 ⟨rfl, g1⟩) | (go_at_call 6; (with_reducible refine (wakes30_any _).mono ?_); rintro e w2 ⟨rfl, g2⟩))
    go_ret
    exact ⟨rfl, (g0.tr g1).tr g2⟩
  have h7' := of_decide_eq_true h7
  obtain ⟨n, rfl⟩ := Int.eq_ofNat_of_zero_le h1'
  obtain ⟨m, rfl⟩ := Int.eq_ofNat_of_zero_le h3'
  obtain ⟨q, rfl⟩ := Int.eq_ofNat_of_zero_le h6'
  go_upto_region 3 with (go_at_call 5; (with_reducible refine (HG.out _).mono ?_); rintro e w1 ⟨rfl, g1⟩)
  have E1 := g0.tr g1
  have rx1 := row_ext' g1 lx0 rx0
  have lx1 : Lt w.heap.size w1 := Nat.lt_of_lt_of_le lx0 g1.size
  clear g0 rx0 lx0 g1 h1 h2 h3 h4 h6 h7
  go_upto_region 4 with (go_at_call 7; (with_reducible refine (rbacks_any x.st.mb _).mono ?_); rintro e w2 ⟨rfl, g2⟩)
  have E2 := E1.tr g2
  have rx2 := row_ext' g2 lx1 rx1
  have lx2 : Lt w.heap.size w2 := Nat.lt_of_lt_of_le lx1 g2.size
  clear E1 rx1 lx1 g2
  have hn6 : n < 6 := by omega
  have hm6 : m < 6 := by omega
  have hq16 : q < 16 := by omega
  have hnm : n ≠ m := fun h => by rw [h, beq_self_eq_true] at h5; cases h5
  have hb1 := bit0_setN (fun i => thereB (x.st.mb.bk i)) n hn6
  have hb2 := bit0_setN (fun i => thereB (x.st.mb.bk i)) m hm6
  obtain ⟨sN, hsN⟩ : ∃ s, setN (fun i => thereB (x.st.mb.bk i)) 6 = s := ⟨_, rfl⟩
  rw [hsN] at hb1 hb2 ⊢
  cases htn : thereB (x.st.mb.bk n)
  · rw [htn] at hb1
    go_wp2_with (go_at_call 6; (with_reducible refine (wakes30_any _).mono ?_); rintro e w2 ⟨rfl, g3⟩)
    go_ret
    exact ⟨rfl, E2.tr g3⟩
  cases htm : thereB (x.st.mb.bk m)
  · rw [htm] at hb2
    rw [htn] at hb1
    go_wp2_with (go_at_call 6; (with_reducible refine (wakes30_any _).mono ?_); rintro e w2 ⟨rfl, g3⟩)
    go_ret
    exact ⟨rfl, E2.tr g3⟩
  rw [htm] at hb2
  rw [htn] at hb1
  have HTN := Lib.hid (show thereW x n = true from htn)
  have HTM := Lib.hid (show thereW x m = true from htm)
  clear htn htm hsN
  have hAg : ∀ i, i < 6 → (x.ag i).xs.length ≤ 40 := fun i hi => Nat.le_of_not_lt fun h => by rw [greatW_ag i hi h] at hg; cases hg
  have HXX := Lib.hid (show ∀ W, Ext w W → ∀ i, i < 6 → SlC W (x.ag i).p (x.ag i).xs ∧ (x.ag i).xs.length ≤ 1000 ∧ ∀ c ∈ (x.ag i).xs, TuR c.t from fun W hW i hi => ⟨(hx i hi).1.ext hW, Nat.le_trans (hAg i hi) (by omega), (hx i hi).2⟩)
  have HSO := Lib.hid (fun W (hW : Ext w W) => wsound_any x W (HXX.out W hW) (allH_len hAg) (sort_any _ (allH_len hAg)))
  have HBS := Lib.hid (fun h => both_sound (x := x) (q := q) hn6 hm6 hq16 hnm HTN.out HTM.out h)
  have hln : (x.ag n).xs.length ≤ 40 := hAg n hn6
  have hlm : (x.ag m).xs.length ≤ 40 := hAg m hm6
  clear hx hAg hg HG h5
  go_upto_region 6 with (fail)
  go_cut [10, 11] (fun s t wx => ∃ b10 b11, s = .pointer (some ⟨b10, 0, none⟩) ∧ t = .pointer (some ⟨b11, 0, none⟩) ∧ TwoMdS w2 wx b10 b11 ((x.ag n).md q) ((x.ag m).md q))
  case first =>
    refine wp_region_K (fun k => w2.heap.size ≤ k) (by kernel_rfl) ?_
    obtain ⟨W5, hW⟩ : ∃ W, World.drew w2 = W := ⟨_, rfl⟩
    have g5 : Ext w2 W5 := by rw [← hW]; exact Ext.dr (Ext.rf _)
    rw [hW]
    clear hW
    have E5 := E2.tr g5
    have rx5 := row_ext' g5 lx2 rx2
    have lx5 : Lt w.heap.size W5 := Nat.lt_of_lt_of_le lx2 g5.size
    have hC5 : ¬ (fun k => w2.heap.size ≤ k) w.heap.size := Nat.not_le_of_lt lx2
    refine withM (N := 18) (R := SchT6) (E := ((Try.f4.body.bind (findR 6)).getD #[])) (by kernel_rfl) SchT6_all (by kernel_rfl) fun hS => ?_
    have hT := hS.2.1
    refine takeM (N := 18) (k := 0) (m' := 1) (v := .int .i64 n) hS.1 hT rfl rfl (by kernel_rfl) (fun _ _ => by kernel_rfl) fun hT => ?_
    refine takeM (N := 18) (k := 1) (m' := 3) (v := .int .i64 q) hS.1 hT rfl rfl (by kernel_rfl) (fun _ _ => by kernel_rfl) fun hT => ?_
    refine takeM (N := 18) (k := 2) (m' := 7) (v := .pointer (some ⟨w.heap.size, 391, none⟩)) hS.1 hT rfl rfl (by kernel_rfl) (fun _ _ => by kernel_rfl) fun hT => ?_
    refine takeM (N := 18) (k := 3) (m' := 15) (v := .pointer (some ⟨w.heap.size, 391 + n * 67, none⟩)) hS.1 hT rfl rfl (by kernel_rfl) (fun w' _ => ixag_run hn6 _ _ _ _ _ _ _ _ (by kernel_rfl) (by kernel_rfl) w') fun hT => ?_
    refine takeM (N := 18) (k := 4) (m' := 31) (v := .pointer (some ⟨w.heap.size, 391 + n * 67 + 2, none⟩)) hS.1 hT rfl rfl (by kernel_rfl) (fun _ _ => by kernel_rfl) fun hT => ?_
    refine takeM (N := 18) (k := 5) (m' := 63) (v := .pointer (some ⟨w.heap.size, 391 + n * 67 + 2 + q * 4, none⟩)) hS.1 hT rfl rfl (by kernel_rfl) (fun w' _ => ixmd_run hq16 _ _ _ _ _ _ _ _ (by kernel_rfl) (by kernel_rfl) w') fun hT => ?_
    refine takeM (N := 18) (k := 6) (m' := 127) (v := .agg (mdv ((x.ag n).md q))) hS.1 hT rfl rfl (by kernel_rfl) (ldmd_K hn6 hq16 rx5 lx5 hC5 _ _ _ _ _ _ _ (by kernel_rfl)) fun hT => ?_
    refine takeM (N := 18) (k := 7) (m' := 255) (v := .int .i64 m) hS.1 hT rfl rfl (by kernel_rfl) (fun _ _ => by kernel_rfl) fun hT => ?_
    refine takeM (N := 18) (k := 8) (m' := 511) (v := .int .i64 q) hS.1 hT rfl rfl (by kernel_rfl) (fun _ _ => by kernel_rfl) fun hT => ?_
    refine takeM (N := 18) (k := 9) (m' := 1023) (v := .pointer (some ⟨w.heap.size, 391, none⟩)) hS.1 hT rfl rfl (by kernel_rfl) (fun _ _ => by kernel_rfl) fun hT => ?_
    refine takeM (N := 18) (k := 10) (m' := 2047) (v := .pointer (some ⟨w.heap.size, 391 + m * 67, none⟩)) hS.1 hT rfl rfl (by kernel_rfl) (fun w' _ => ixag_run hm6 _ _ _ _ _ _ _ _ (by kernel_rfl) (by kernel_rfl) w') fun hT => ?_
    refine takeM (N := 18) (k := 11) (m' := 4095) (v := .pointer (some ⟨w.heap.size, 391 + m * 67 + 2, none⟩)) hS.1 hT rfl rfl (by kernel_rfl) (fun _ _ => by kernel_rfl) fun hT => ?_
    refine takeM (N := 18) (k := 12) (m' := 8191) (v := .pointer (some ⟨w.heap.size, 391 + m * 67 + 2 + q * 4, none⟩)) hS.1 hT rfl rfl (by kernel_rfl) (fun w' _ => ixmd_run hq16 _ _ _ _ _ _ _ _ (by kernel_rfl) (by kernel_rfl) w') fun hT => ?_
    refine takeM (N := 18) (k := 13) (m' := 16383) (v := .agg (mdv ((x.ag m).md q))) hS.1 hT rfl rfl (by kernel_rfl) (ldmd_K hm6 hq16 rx5 lx5 hC5 _ _ _ _ _ _ _ (by kernel_rfl)) fun hT => ?_
    clear hT
    refine twoM hS.2.2.1 ?ordA ?ordB
    case' ordA =>
      refine makeM (m' := 32767) rfl rfl (by kernel_rfl) (almd_run _ _ _ _ _ _ W5) (Mv.of_ext (Ext.al (Ext.rf _) _)) ?_
      refine soleM hS.2.2.2.1 (makeM (m' := 65535) rfl rfl (by kernel_rfl) (almd_run _ _ _ _ _ _ _) (Mv.of_ext (Ext.al (Ext.rf _) _)) ?_)
      have hA : Ext W5 ((W5.alloc zmd).alloc zmd) := Ext.al (Ext.al (Ext.rf _) _) _
      have o1 : MdOk ((W5.alloc zmd).alloc zmd) W5.heap.size := (mdok_new W5).ext (Ext.al (Ext.rf _) _)
      have o2 : MdOk ((W5.alloc zmd).alloc zmd) (W5.alloc zmd).heap.size := mdok_new _
      have hne : W5.heap.size ≠ (W5.alloc zmd).heap.size := by simp [go_sem]
      have hle : W5.heap.size ≤ (W5.alloc zmd).heap.size := by simp [go_sem]
      have hT2 := two_md ((x.ag n).md q) ((x.ag m).md q) hA o1 o2 hne (Nat.le_refl _) hle
      refine soleM hS.2.2.2.2.2.1 (storeM (m' := 131071) rfl rfl (by kernel_rfl) (stmd_run (e := (x.ag n).md q) o1.s o1.z o1.l _ _ _ _ _ _ _ _ (by kernel_rfl) (by kernel_rfl)) (Mv.sc (C := fun k => w2.heap.size ≤ k) (Nat.le_trans g5.size (Nat.le_refl _)) _ _ _ _ (Mv.refl _ _)) ?_)
      have o3 := o2.sa (Ne.symm hne) (mdv ((x.ag n).md q))
      refine soleM hS.2.2.2.2.2.2.1 (storeM (m' := 262143) rfl rfl (by kernel_rfl) (stmd_run (e := (x.ag m).md q) o3.s o3.z o3.l _ _ _ _ _ _ _ _ (by kernel_rfl) (by kernel_rfl)) (Mv.sc (C := fun k => w2.heap.size ≤ k) (Nat.le_trans g5.size hle) _ _ _ _ (Mv.refl _ _)) ?_)
      refine doneK hS.2.2.2.2.2.2.2 ?_
      obtain ⟨b10, h10⟩ : ∃ b, W5.heap.size = b := ⟨_, rfl⟩
      obtain ⟨b11, h11⟩ : ∃ b, (W5.alloc zmd).heap.size = b := ⟨_, rfl⟩
      obtain ⟨W6, hW6⟩ : ∃ W, setAt (setAt ((W5.alloc zmd).alloc zmd) W5.heap.size 0 (mdv ((x.ag n).md q))) (W5.alloc zmd).heap.size 0 (mdv ((x.ag m).md q)) = W := ⟨_, rfl⟩
      rw [hW6] at hT2 ⊢
      rw [h10, h11] at hT2 ⊢
      clear hW6 h10 h11 hA o1 o2 o3 hne hle
      go_wp2_with (fail)
      go_meet
      exact ⟨b10, b11, rfl, rfl, ⟨⟨g5.tr hT2.ext_, hT2.r1, hT2.r2, hT2.l1, hT2.l2⟩⟩⟩
    case' ordB =>
      refine makeM (m' := 49151) rfl rfl (by kernel_rfl) (almd_run _ _ _ _ _ _ W5) (Mv.of_ext (Ext.al (Ext.rf _) _)) ?_
      refine soleM hS.2.2.2.2.1 (makeM (m' := 65535) rfl rfl (by kernel_rfl) (almd_run _ _ _ _ _ _ _) (Mv.of_ext (Ext.al (Ext.rf _) _)) ?_)
      have hA : Ext W5 ((W5.alloc zmd).alloc zmd) := Ext.al (Ext.al (Ext.rf _) _) _
      have o1 : MdOk ((W5.alloc zmd).alloc zmd) W5.heap.size := (mdok_new W5).ext (Ext.al (Ext.rf _) _)
      have o2 : MdOk ((W5.alloc zmd).alloc zmd) (W5.alloc zmd).heap.size := mdok_new _
      have hne : W5.heap.size ≠ (W5.alloc zmd).heap.size := by simp [go_sem]
      have hle : W5.heap.size ≤ (W5.alloc zmd).heap.size := by simp [go_sem]
      have hT2 := two_md ((x.ag n).md q) ((x.ag m).md q) hA o2 o1 (Ne.symm hne) hle (Nat.le_refl _)
      refine soleM hS.2.2.2.2.2.1 (storeM (m' := 131071) rfl rfl (by kernel_rfl) (stmd_run (e := (x.ag n).md q) o2.s o2.z o2.l _ _ _ _ _ _ _ _ (by kernel_rfl) (by kernel_rfl)) (Mv.sc (C := fun k => w2.heap.size ≤ k) (Nat.le_trans g5.size hle) _ _ _ _ (Mv.refl _ _)) ?_)
      have o3 := o1.sa hne (mdv ((x.ag n).md q))
      refine soleM hS.2.2.2.2.2.2.1 (storeM (m' := 262143) rfl rfl (by kernel_rfl) (stmd_run (e := (x.ag m).md q) o3.s o3.z o3.l _ _ _ _ _ _ _ _ (by kernel_rfl) (by kernel_rfl)) (Mv.sc (C := fun k => w2.heap.size ≤ k) (Nat.le_trans g5.size (Nat.le_refl _)) _ _ _ _ (Mv.refl _ _)) ?_)
      refine doneK hS.2.2.2.2.2.2.2 ?_
      obtain ⟨b10, h10⟩ : ∃ b, (W5.alloc zmd).heap.size = b := ⟨_, rfl⟩
      obtain ⟨b11, h11⟩ : ∃ b, W5.heap.size = b := ⟨_, rfl⟩
      obtain ⟨W6, hW6⟩ : ∃ W, setAt (setAt ((W5.alloc zmd).alloc zmd) (W5.alloc zmd).heap.size 0 (mdv ((x.ag n).md q))) W5.heap.size 0 (mdv ((x.ag m).md q)) = W := ⟨_, rfl⟩
      rw [hW6] at hT2 ⊢
      rw [h10, h11] at hT2 ⊢
      clear hW6 h10 h11 hA o1 o2 o3 hne hle
      go_wp2_with (fail)
      go_meet
      exact ⟨b10, b11, rfl, rfl, ⟨⟨g5.tr hT2.ext_, hT2.r1, hT2.r2, hT2.l1, hT2.l2⟩⟩⟩
  case rest =>
    obtain ⟨b10, b11, rfl, rfl, ⟨hT2⟩⟩ := hcut
    have E6 := E2.tr hT2.ext_
    have rx6 := row_ext' hT2.ext_ lx2 rx2
    have lx6 : Lt w.heap.size wc := Nat.lt_of_lt_of_le lx2 hT2.ext_.size
    have c10 : wc.cell? ⟨b10, 0, none⟩ = some (.int .u8 ((x.ag n).md q).kind) := by rw [cell_rowD, hT2.r1, mdv_lit]; rfl
    have c11 : wc.cell? ⟨b11, 0, none⟩ = some (.int .u8 ((x.ag m).md q).kind) := by rw [cell_rowD, hT2.r2, mdv_lit]; rfl
    have l10 := hT2.l1
    have l11 := hT2.l2
    obtain ⟨ke, hke⟩ : ∃ k, ((x.ag n).md q).kind = k := ⟨_, rfl⟩
    obtain ⟨kf, hkf⟩ : ∃ k, ((x.ag m).md q).kind = k := ⟨_, rfl⟩
    rw [hke] at c10
    rw [hkf] at c11
    have HKE := Lib.hid hke
    have HKF := Lib.hid hkf
    clear hke hkf hT2 rx2 lx2
    obtain ⟨W6, hW6⟩ : ∃ W, wc = W := ⟨_, rfl⟩
    rw [hW6] at E6 rx6 lx6 c10 c11 l10 l11 ⊢
    clear hW6
    go_upto_region 7 with (fail)
    go_cut [12] (fun s wx => s = .bool (takesM ((x.ag n).md q) && takesM ((x.ag m).md q)) ∧ wx = W6)
    case first =>
      cases k1 : (ke == 1)
      · cases k2 : (ke == 2)
        · go_wp2_with (fail)
          go_meet
          exact ⟨congrArg Value.bool (by unfold takesM; rw [HKE.out, HKF.out]; simp [k1, k2]), rfl⟩
        · cases k3 : (kf == 1)
          · cases k4 : (kf == 2)
            · go_wp2_with (fail)
              go_meet
              exact ⟨congrArg Value.bool (by unfold takesM; rw [HKE.out, HKF.out]; simp [k1, k2, k3, k4]), rfl⟩
            · go_wp2_with (fail)
              go_meet
              exact ⟨congrArg Value.bool (by unfold takesM; rw [HKE.out, HKF.out]; simp [k1, k2, k3, k4]), rfl⟩
          · go_wp2_with (fail)
            go_meet
            exact ⟨congrArg Value.bool (by unfold takesM; rw [HKE.out, HKF.out]; simp [k1, k2, k3]), rfl⟩
      · cases k3 : (kf == 1)
        · cases k4 : (kf == 2)
          · go_wp2_with (fail)
            go_meet
            exact ⟨congrArg Value.bool (by unfold takesM; rw [HKE.out, HKF.out]; simp [k1, k3, k4]), rfl⟩
          · go_wp2_with (fail)
            go_meet
            exact ⟨congrArg Value.bool (by unfold takesM; rw [HKE.out, HKF.out]; simp [k1, k3, k4]), rfl⟩
        · go_wp2_with (fail)
          go_meet
          exact ⟨congrArg Value.bool (by unfold takesM; rw [HKE.out, HKF.out]; simp [k1, k3]), rfl⟩
    case rest =>
      obtain ⟨rfl, hwc⟩ := hcut
      rw [hwc]
      clear hwc c10 c11 l10 l11 HKE HKF
      obtain ⟨t, ht⟩ : ∃ t, (takesM ((x.ag n).md q) && takesM ((x.ag m).md q)) = t := ⟨_, rfl⟩
      have HT := Lib.hid ht
      rw [ht]
      clear ht
      have u1 : W6.cell? ⟨w.heap.size, 391 + n * 67 + 66, none⟩ = some (.slice (x.ag n).p (x.ag n).xs.length (x.ag n).c) := by rw [cell_rowD, rx6, get_wd_conns x n hn6]
      have u2 : W6.cell? ⟨w.heap.size, 391 + m * 67 + 66, none⟩ = some (.slice (x.ag m).p (x.ag m).xs.length (x.ag m).c) := by rw [cell_rowD, rx6, get_wd_conns x m hm6]
      go_upto_region 8 with (fail)
      refine wp_region_later (by kernel_rfl) (by kernel_rfl) ?_; (repeat (go_big_quiet_step (fail))); refine wpQuiet_nil ?_; intro d
      have E7 := E6.tr (later_ext d)
      have rx7 := row_ext' (later_ext d) lx6 rx6
      have lx7 : Lt w.heap.size (later d) := Nat.lt_of_lt_of_le lx6 (later_ext d).size
      generalize later d = W7 at *
      have HSA := Lib.hid (HXX.out W7 E7 n hn6)
      have HSB := Lib.hid (HXX.out W7 E7 m hm6)
      obtain ⟨A, hA⟩ : ∃ A, (x.ag n).xs = A := ⟨_, rfl⟩
      obtain ⟨B, hB⟩ : ∃ B, (x.ag m).xs = B := ⟨_, rfl⟩
      have HBB : Hid (∀ u, u = (t || A.any fun c => B.any fun d => eqT c.t d.t) → u = true → soundW x = false) := Lib.hid fun u hu h => HBS.out (by unfold bothB; rw [HT.out, hA, hB, ← hu]; exact h)
      rw [hA] at HSA hln ⊢
      rw [hB] at HSB hlm ⊢
      clear hA hB HT u1 u2 rx6 lx6 E6 HBS
      obtain ⟨pA, hpA⟩ : ∃ p, (x.ag n).p = p := ⟨_, rfl⟩
      obtain ⟨pB, hpB⟩ : ∃ p, (x.ag m).p = p := ⟨_, rfl⟩
      obtain ⟨cA, hcA⟩ : ∃ p, (x.ag n).c = p := ⟨_, rfl⟩
      obtain ⟨cB, hcB⟩ : ∃ p, (x.ag m).c = p := ⟨_, rfl⟩
      rw [hpA] at HSA ⊢
      rw [hpB] at HSB ⊢
      rw [hcA, hcB]
      clear hpA hpB hcA hcB
      go_wp2
      go_loopw [12, 15, 16] (fun s i _ wr => ∃ (k : Nat) (u : Bool), k ≤ A.length ∧ i = .int .i64 (k : Nat) ∧ s = .bool u ∧ u = (t || (A.take k).any fun c => B.any fun d => eqT c.t d.t) ∧ Ext W7 wr) (fun _ i _ _ => A.length - (intOf i).toNat)
      case atStart => exact ⟨0, t, Nat.zero_le _, rfl, rfl, by simp, Ext.rf _⟩
      case round =>
        obtain ⟨k, u, hk, rfl, rfl, hu, hE⟩ := hrel
        have HU := Lib.hid hu
        have HE := Lib.hid hE
        clear hu hE
        obtain ⟨Wo, hWo⟩ : ∃ W, W = wr := ⟨_, rfl⟩
        subst hWo
        have rxr := row_ext' HE.out lx7 rx7
        have lxr : Lt w.heap.size Wo := Nat.lt_of_lt_of_le lx7 HE.out.size
        by_cases hlt : k < A.length
        · have hlt' : (k : Int) < A.length := by omega
          obtain ⟨b, off, rfl, hb, c0, c1, c2, c3, c4, c5⟩ := (HSA.out.1.ext HE.out) k hlt
          obtain ⟨z, hz⟩ : ∃ z, A[k] = z := ⟨_, rfl⟩
          rw [hz] at c0 c1 c2 c3 c4 c5
          have HN := Lib.hid (show (t || (A.take (k + 1)).any fun c => B.any fun d => eqT c.t d.t) = (u || B.any fun d => eqT z.t d.t) by rw [List.take_succ_eq_append_getElem hlt, hz, List.any_append, HU.out]; simp [Bool.or_assoc])
          have lbr : Lt b Wo := hb
          clear hz hb
          go_wp2
          go_loopw [12, 16] (fun s i wi => ∃ (j : Nat) (v : Bool), j ≤ B.length ∧ i = .int .i64 (j : Nat) ∧ s = .bool v ∧ v = (u || (B.take j).any fun d => eqT z.t d.t) ∧ Ext Wo wi) (fun _ i _ => B.length - (intOf i).toNat)
          case atStart => exact ⟨0, u, Nat.zero_le _, rfl, rfl, by simp, Ext.rf _⟩
          case round =>
            obtain ⟨j, v, hj, rfl, rfl, hv, hI⟩ := hrel
            have HV := Lib.hid hv
            have HI := Lib.hid hI
            clear hv
            by_cases hjt : j < B.length
            · have hjt' : (j : Int) < B.length := by omega
              obtain ⟨e, oe, rfl, he, d0, d1, d2, d3, d4, d5⟩ := (HSB.out.1.ext (HE.out.tr HI.out)) j hjt
              obtain ⟨y, hy⟩ : ∃ y, B[j] = y := ⟨_, rfl⟩
              rw [hy] at d0 d1 d2 d3 d4 d5
              have HM := Lib.hid (show (u || (B.take (j + 1)).any fun d => eqT z.t d.t) = (v || eqT z.t y.t) by rw [List.take_succ_eq_append_getElem hjt, hy, List.any_append, HV.out]; simp [Bool.or_assoc])
              have c0 := (hI.cell (p := ⟨b, _, none⟩) lbr).trans c0
              have c1 := (hI.cell (p := ⟨b, _, none⟩) lbr).trans c1
              have c2 := (hI.cell (p := ⟨b, _, none⟩) lbr).trans c2
              have c3 := (hI.cell (p := ⟨b, _, none⟩) lbr).trans c3
              have lbi : Lt b wr := Nat.lt_of_lt_of_le lbr hI.size
              have lei : Lt e wr := he
              clear hy he
              cases v
              · rw [Bool.false_or] at HM
                go_upto_region 15 with (fail)
                refine wp_region_later (by kernel_rfl) (by kernel_rfl) ?_; (repeat (go_big_quiet_step (fail))); refine wpQuiet_nil ?_; intro d
                have hd := HI.out.tr (later_ext d)
                go_wp2
                go_roundw
                case rel => exact ⟨j + 1, eqT z.t y.t, by omega, by go_num, rfl, by rw [HM.out], hd⟩
                case measure => simp [intOf]; omega
              · rw [Bool.true_or] at HM
                go_upto_region 15 with (fail)
                refine wp_region_later (by kernel_rfl) (by kernel_rfl) ?_; (repeat (go_big_quiet_step (fail))); refine wpQuiet_nil ?_; intro d
                have hd := HI.out.tr (later_ext d)
                go_wp2
                go_roundw
                case rel => exact ⟨j + 1, true, by omega, by go_num, rfl, by rw [HM.out], hd⟩
                case measure => simp [intOf]; omega
            · obtain rfl : j = B.length := by omega
              have hge : ¬ ((B.length : Int) < B.length) := by omega
              have HV2 := Lib.hid (show v = (t || (A.take (k + 1)).any fun c => B.any fun d => eqT c.t d.t) by rw [HN.out, HV.out, List.take_length])
              have HE2 := Lib.hid (HE.out.tr hI)
              clear hI
              go_wp2
              exact ⟨⟨k + 1, v, by omega, by go_num, rfl, HV2.out, HE2.out⟩, by simp [intOf]; omega⟩
        · obtain rfl : k = A.length := by omega
          have HU2 := Lib.hid (HBB.out u (by have := HU.out; rwa [List.take_length] at this))
          have hge : ¬ ((A.length : Int) < A.length) := by omega
          have HSW := Lib.hid (HSO.out Wo (E7.tr HE.out))
          cases u
          · go_wp2_with (go_at_call 6; (with_reducible refine (wakes30_any _).mono ?_); rintro e w2 ⟨rfl, g8⟩)
            go_ret
            exact ⟨rfl, (E7.tr HE.out).tr g8⟩
          · rw [HU2.out rfl] at HSW
            go_wp2_with (first | (go_at_call 11; (with_reducible refine (HSW.out).mono ?_); rintro e w8 ⟨rfl, g7⟩) | (go_at_call 6; (with_reducible refine (wakes30_any _).mono ?_); rintro e w2 ⟨rfl, g8⟩))
            go_ret
            exact ⟨rfl, ((E7.tr HE.out).tr g7).tr g8⟩

end Go.Proofs.Ytedamnocolfmlaa

/- The witness of a row whose argument is a world. -/
namespace Go.Proofs.Ytedamnocolfmlaa
open Go.ChangeShapes Go.WideShapes Go.ChangeAt Go.RowKit Go.Joins Go.Deep
set_option maxRecDepth 100000

theorem okRow_zip {P : Program} {w : World} {t : TypeId} {cs : Array Value} {ts : List TypeId} (h : P.cellTypes P.depth t = some ts) (hz : ts.length = cs.size) (hall : ((List.zip cs.toList ts).all fun p => Cell.okWideB P w p.2 p.1) = true) : Cell.okWideRowB P w t cs = true := by
  unfold Cell.okWideRowB
  rw [h]
  simp only [Bool.and_eq_true, beq_iff_eq, List.all_eq_true, List.mem_range]
  refine ⟨by rw [hz, Nat.mod_self], fun i hi => ?_⟩
  have h1 : i % ts.length = i := Nat.mod_eq_of_lt (by omega)
  rw [h1, Array.getElem?_eq_getElem hi, List.getElem?_eq_getElem (by omega)]
  exact List.all_eq_true.1 hall (cs[i], ts[i]) (by
    have hl : i < (List.zip cs.toList ts).length := by rw [List.length_zip, Array.length_toList]; omega
    have e : (List.zip cs.toList ts)[i] = (cs[i], ts[i]) := by rw [List.getElem_zip]; rfl
    rw [← e]
    exact List.getElem_mem hl)
theorem input_ok {P : Program} {w : World} {f : FuncId} {fn : Func} {args : Array Value} (h1 : (P.inits.idxOf? f).isNone = true) (h2 : P.funcs[f]? = some fn) (h3 : (fn.body.isSome && !fn.ours && fn.nfree == 0 && args.size == fn.params.size) = true)
    (h4 : ∀ (j : Nat) (t : TypeId) (v : Value), fn.params[j]? = some t → args[j]? = some v → Value.okWideB P w t v = true) : Input.okWideB P w f ⟨#[], args, []⟩ = true := by
  unfold Input.okWideB
  rw [h2]
  have h5 : (List.range fn.params.size).all (fun j => match fn.params[j]?, args[j]? with
        | some t, some v => Value.okWideB P w t v
        | _, _ => false) = true := by
    rw [List.all_eq_true]
    intro j hj
    have hj' := List.mem_range.1 hj
    have hs : args.size = fn.params.size := by
      simp only [Bool.and_eq_true, beq_iff_eq] at h3
      exact h3.2
    have e1 : fn.params[j]? = some fn.params[j] := Array.getElem?_eq_getElem hj'
    have e2 : args[j]? = some (args[j]'(by omega)) := Array.getElem?_eq_getElem (by omega)
    have h6 := h4 j _ _ e1 e2
    rw [e1, e2]
    exact h6
  simp only [h1, h3, List.all_nil, List.isEmpty_nil, Bool.true_and]
  exact h5

theorem wd_types : Try.prog.cellTypes Try.prog.depth 53 = some [3, 3, 5, 5, 5, 5, 5, 5, 5, 5, 5, 5, 3, 3, 3, 3, 3, 5, 3, 3, 3, 3, 3, 5, 3, 3, 3, 3, 3, 5, 3, 3, 3, 3, 3, 5, 3, 3, 3, 3, 3, 5, 3, 3, 3, 3, 3, 5, 3, 3, 3, 3, 3, 5, 3, 3, 3, 3, 3, 5, 3, 3, 3, 3, 3, 5, 3, 3, 3, 3, 3, 5, 3, 3, 3, 3, 3, 5, 3, 3, 3, 3, 3, 5, 3, 3, 3, 3, 3, 5, 3, 3, 3, 3, 3, 5, 3, 3, 3, 3, 3, 5, 3, 3, 3, 3, 3, 3, 3, 3, 3, 3, 3, 3, 3, 3, 3, 3, 3, 3, 3, 3, 3, 3, 3, 3, 3, 3, 3, 3, 3, 3, 3, 3, 3, 3, 3, 3, 3, 3, 3, 3, 3, 3, 3, 3, 3, 3, 3, 3, 3, 3, 3, 3, 3, 3, 3, 3, 3, 3, 3, 3, 3, 3, 3, 3, 3, 3, 3, 3, 3, 3, 3, 3, 3, 3, 3, 3, 3, 3, 3, 3, 3, 3, 3, 3, 3, 3, 3, 3, 3, 3, 36, 4, 3, 3, 3, 3, 3, 3, 3, 3, 3, 3, 3, 3, 3, 3, 3, 3, 3, 3, 3, 3, 3, 3, 3, 3, 3, 3, 3, 3, 3, 3, 3, 3, 3, 3, 3, 3, 3, 3, 3, 3, 3, 3, 3, 3, 3, 3, 3, 3, 3, 3, 3, 3, 3, 3, 3, 3, 3, 3, 3, 3, 3, 3, 3, 3, 3, 4, 3, 3, 3, 3, 3, 3, 3, 3, 3, 3, 3, 3, 3, 3, 3, 3, 3, 3, 3, 3, 3, 3, 3, 3, 3, 3, 3, 3, 3, 3, 3, 3, 3, 3, 3, 3, 3, 3, 3, 3, 3, 3, 3, 3, 3, 3, 3, 3, 3, 3, 3, 3, 3, 3, 3, 3, 3, 3, 3, 3, 3, 3, 3, 3, 3, 4, 3, 3, 3, 3, 3, 3, 3, 3, 3, 3, 3, 3, 3, 3, 3, 3, 3, 3, 3, 3, 3, 3, 3, 3, 3, 3, 3, 3, 3, 3, 3, 3, 3, 3, 3, 3, 3, 3, 3, 3, 3, 3, 3, 3, 3, 3, 3, 3, 3, 3, 3, 3, 3, 3, 3, 3, 3, 3, 3, 3, 3, 3, 3, 3, 3, 3, 3, 5, 3, 3, 4, 5, 3, 3, 4, 5, 3, 3, 4, 5, 3, 3, 4, 5, 3, 3, 4, 5, 3, 3, 4, 5, 3, 3, 4, 5, 3, 3, 4, 5, 3, 3, 4, 5, 3, 3, 4, 5, 3, 3, 4, 5, 3, 3, 4, 5, 3, 3, 4, 5, 3, 3, 4, 5, 3, 3, 4, 5, 3, 3, 4, 45, 3, 3, 5, 3, 3, 4, 5, 3, 3, 4, 5, 3, 3, 4, 5, 3, 3, 4, 5, 3, 3, 4, 5, 3, 3, 4, 5, 3, 3, 4, 5, 3, 3, 4, 5, 3, 3, 4, 5, 3, 3, 4, 5, 3, 3, 4, 5, 3, 3, 4, 5, 3, 3, 4, 5, 3, 3, 4, 5, 3, 3, 4, 5, 3, 3, 4, 45, 3, 3, 5, 3, 3, 4, 5, 3, 3, 4, 5, 3, 3, 4, 5, 3, 3, 4, 5, 3, 3, 4, 5, 3, 3, 4, 5, 3, 3, 4, 5, 3, 3, 4, 5, 3, 3, 4, 5, 3, 3, 4, 5, 3, 3, 4, 5, 3, 3, 4, 5, 3, 3, 4, 5, 3, 3, 4, 5, 3, 3, 4, 5, 3, 3, 4, 45, 3, 3, 5, 3, 3, 4, 5, 3, 3, 4, 5, 3, 3, 4, 5, 3, 3, 4, 5, 3, 3, 4, 5, 3, 3, 4, 5, 3, 3, 4, 5, 3, 3, 4, 5, 3, 3, 4, 5, 3, 3, 4, 5, 3, 3, 4, 5, 3, 3, 4, 5, 3, 3, 4, 5, 3, 3, 4, 5, 3, 3, 4, 5, 3, 3, 4, 45, 3, 3, 5, 3, 3, 4, 5, 3, 3, 4, 5, 3, 3, 4, 5, 3, 3, 4, 5, 3, 3, 4, 5, 3, 3, 4, 5, 3, 3, 4, 5, 3, 3, 4, 5, 3, 3, 4, 5, 3, 3, 4, 5, 3, 3, 4, 5, 3, 3, 4, 5, 3, 3, 4, 5, 3, 3, 4, 5, 3, 3, 4, 5, 3, 3, 4, 45, 3, 3, 5, 3, 3, 4, 5, 3, 3, 4, 5, 3, 3, 4, 5, 3, 3, 4, 5, 3, 3, 4, 5, 3, 3, 4, 5, 3, 3, 4, 5, 3, 3, 4, 5, 3, 3, 4, 5, 3, 3, 4, 5, 3, 3, 4, 5, 3, 3, 4, 5, 3, 3, 4, 5, 3, 3, 4, 5, 3, 3, 4, 5, 3, 3, 4, 45, 49, 50, 3, 3, 3, 3, 3, 3, 3, 3, 3, 3, 3, 3, 3, 3, 3, 3, 3, 3, 3] := by kernel_rfl
theorem wd_zero_ok (w : World) : Value.okWideB Try.prog w 53 (.agg Try.zeroCells53) = true := by
  unfold Value.okWideB
  rw [Try.underlying53]
  have h1 : (Try.zeroCells53.size == Try.prog.cellsOf 53) = true := by kernel_rfl
  have h2 : Cell.okWideRowB Try.prog w 53 Try.zeroCells53 = true := okRow_zip wd_types (by kernel_rfl) (by kernel_rfl)
  dsimp only
  rw [h1, h2]
  rfl
theorem int_zero_ok (w : World) : Value.okWideB Try.prog w 3 (.int .i64 0) = true := by kernel_rfl

end Go.Proofs.Ytedamnocolfmlaa

/- All that the laws of law 30 stand on. -/
namespace Go.Proofs.Ytedamnocolfmlaa
open Go.RowKit
theorem law30_base_twice : True := trivial

end Go.Proofs.Ytedamnocolfmlaa
