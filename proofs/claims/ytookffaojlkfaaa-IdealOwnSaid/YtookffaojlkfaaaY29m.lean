/- IdealOwn. -/
import Derived.Test.YtookffaojlkfaaaY25m
import Derived.Test.YtookffaojlkfaaaRows
set_option linter.unusedSimpArgs false
set_option linter.unusedVariables false
namespace Go.Proofs.Ytookffaojlkfaaa
open Go.ChangeShapes Go.WideShapes Go.ChangeAt Go.RowKit

attribute [local go_sem] beq_self_eq_true bne_self_eq_false
theorem flH_setn (xs : List Ho) (k : Nat) (y : Int) (hk : k < xs.length) : (flH xs).set (k * 5 + 4) (.int .i64 y) = flH (xs.set k { xs[k] with n := y }) := by
  refine List.ext_getElem? fun j => ?_
  by_cases hj : j < xs.length * 5
  · have hq : j / 5 < xs.length := by omega
    have e : j / 5 * 5 + j % 5 = j := by omega
    have h6 : j % 5 < 5 := Nat.mod_lt _ (by omega)
    have g1 := flH_get xs (j / 5) (j % 5) hq h6
    have g2 := flH_get (xs.set k { xs[k] with n := y }) (j / 5) (j % 5) (by simpa using hq) h6
    rw [e] at g1 g2
    rw [g2, List.getElem?_set, List.getElem_set, g1]
    have hlen : (flH xs).length = xs.length * 5 := flH_len xs
    by_cases hkq : k = j / 5
    · subst hkq
      rw [if_pos rfl]
      by_cases h5 : j % 5 = 4
      · rw [if_pos (by omega), if_pos (by omega), h5]; rfl
      · rw [if_neg (by omega)]
        generalize j % 5 = r at *
        obtain rfl | rfl | rfl | rfl : r = 0 ∨ r = 1 ∨ r = 2 ∨ r = 3 := by omega
        all_goals rfl
    · rw [if_neg hkq, if_neg (by omega)]
  · rw [List.getElem?_eq_none (by rw [List.length_set, flH_len]; omega), List.getElem?_eq_none (by rw [flH_len, List.length_set]; omega)]
theorem SlE.one (W : World) (e : Ev) (t : TypeId) : SlE (W.alloc (.cells #[.int .u8 e.k, .int .i64 e.n, .int .u32 e.t.a, .int .u32 e.t.b, .int .u16 e.t.c, .int .u16 e.t.d] t)) (some ⟨W.heap.size, 0, none⟩) [e] := fun k hk => by
  obtain rfl : k = 0 := by simpa using hk
  refine ⟨W.heap.size, 0, rfl, by simp, ?_⟩
  refine ⟨?_, ?_, ?_, ?_, ?_, ?_⟩ <;> rw [cell_rowD, rowD_new] <;> rfl
theorem step_own {e : Ev} {p : Option Addr} {xs : List Ho} {c m : Nat} {W : World} (hs : SlH W p xs) (hl : xs.length ≤ 900) (hm : xs.length = m) :
    Calls Try.prog 36 #[.slice p m c, .agg #[.int .u8 e.k, .int .i64 e.n, .int .u32 e.t.a, .int .u32 e.t.b, .int .u16 e.t.c, .int .u16 e.t.d]] W fun r w' => ∃ pa nn ca b, r = .returned (.tuple #[.slice pa nn ca, .bool b]) ∧ (∃ ys : List Ho, ys.length = nn ∧ OwnH w' W.heap.size (.slice pa nn ca) ys) ∧ nn ≤ 1000 ∧ Ext W w' :=
  hm ▸ (step_any e p xs c W hs (by omega)).mono fun r w' ⟨v, h1, h2, h3⟩ => by
    obtain ⟨pa, ca, rfl, -, -⟩ := h2.sl
    exact ⟨pa, _, ca, _, h1, ⟨_, rfl, h2⟩, by have := step_len xs e; omega, h3⟩
theorem run_own {e : Ev} {p q : Option Addr} {xs : List Ho} {c d m : Nat} {W : World} (hs : SlH W p xs) (he : SlE W q [e]) (hl : xs.length ≤ 900) (hm : xs.length = m) :
    Calls Try.prog 38 #[.slice p m c, .slice q 1 d] W fun r w' => ∃ pa nn ca k b, r = .returned (.tuple #[.slice pa nn ca, .int .i64 k, .bool b]) ∧ (∃ ys : List Ho, ys.length = nn ∧ OwnH w' W.heap.size (.slice pa nn ca) ys) ∧ nn ≤ 1000 ∧ Ext W w' :=
  hm ▸ (irun_any p xs c q [e] d W hs he (by simp; omega)).mono fun r w' ⟨v, h1, h2, h3⟩ => by
    obtain ⟨pa, ca, rfl, -, -⟩ := h2.sl
    exact ⟨pa, _, ca, _, _, h1, ⟨_, rfl, h2⟩, by have := runH_len [e] xs; simp at this; omega, h3⟩
set_option maxRecDepth 100000 in
set_option maxHeartbeats 4000000 in
theorem own26_great (p : Option Addr) (xs : List Ho) (c : Nat) (e : Ev) (w : World) (g1 : decide ((60 : Int) < xs.length) = true) :
    Calls Try.prog 12 #[.slice p xs.length c, .agg #[.int .u8 e.k, .int .i64 e.n, .int .u32 e.t.a, .int .u32 e.t.b, .int .u16 e.t.c, .int .u16 e.t.d]] w fun e w' => e = .returned (.bool true) ∧ Ext w w' := by
  go_enter Try.func12, Try.ntmps12
  go_upto_region 1 with (fail)
  obtain ⟨W0, hW⟩ : ∃ W0, w.alloc (.cells #[.int .u8 e.k, .int .i64 e.n, .int .u32 e.t.a, .int .u32 e.t.b, .int .u16 e.t.c, .int .u16 e.t.d] 52) = W0 := ⟨_, rfl⟩
  have e0 : Ext w W0 := by rw [← hW]; exact Ext.al (Ext.rf _) _
  have he : EvAt W0 w.heap.size e := by rw [← hW]; unfold EvAt; simp [go_sem, Lt]
  have hsz : W0.heap.size = w.heap.size + 1 := by rw [← hW]; simp
  rw [hW]
  clear hW
  go_wp2_with ((go_at_call 35; (with_reducible refine (wakes26_any _).mono ?_); rintro e WZ ⟨rfl, gZ⟩))
  go_ret
  exact ⟨rfl, e0.tr gZ⟩

set_option maxRecDepth 100000 in
set_option maxHeartbeats 16000000 in
theorem own26_some (a : Addr) (xs : List Ho) (c : Nat) (e : Ev) (w : World) (hs : SlH w (some a) xs) (g1 : decide ((60 : Int) < xs.length) = false) :
    Calls Try.prog 12 #[.slice (some a) xs.length c, .agg #[.int .u8 e.k, .int .i64 e.n, .int .u32 e.t.a, .int .u32 e.t.b, .int .u16 e.t.c, .int .u16 e.t.d]] w fun e w' => e = .returned (.bool true) ∧ Ext w w' := by
  obtain ⟨i0, hi, hz0, hz1, hz2⟩ := info_parts info_H
  have hl60 : xs.length ≤ 60 := by have := of_decide_eq_false g1; omega
  go_enter Try.func12, Try.ntmps12
  go_upto_region 1 with (fail)
  obtain ⟨W0, hW⟩ : ∃ W0, w.alloc (.cells #[.int .u8 e.k, .int .i64 e.n, .int .u32 e.t.a, .int .u32 e.t.b, .int .u16 e.t.c, .int .u16 e.t.d] 52) = W0 := ⟨_, rfl⟩
  have e0 : Ext w W0 := by rw [← hW]; exact Ext.al (Ext.rf _) _
  have he : EvAt W0 w.heap.size e := by rw [← hW]; unfold EvAt; simp [go_sem, Lt]
  have hsz : W0.heap.size = w.heap.size + 1 := by rw [← hW]; simp
  rw [hW]
  clear hW
  have s0 := hs.ext e0
  clear hsz hs
  have HN := Lib.hid (s0.news (Ext.al (Ext.rf W0) (.cells #[] 70)))
  have HO := Lib.hid (own0_H W0)
  go_upto_region 4 with (at_builtin; refine wpList_append_own _ rfl _ _ 50 rfl W0.heap.size 70 i0 (.agg #[.int .u32 0, .int .u32 0, .int .u16 0, .int .u16 0, .int .i64 0]) 5 24 Try.underlying50 hi hz0 hz1 hz2 rfl (by decide) _ _ _ rfl HO.out a xs.length c (flH xs) rfl (by simp [flH_len]) HN.out (flH_one xs) (by unfold maxLen; omega) (by omega) (by simp) ?_; intro v' w2 hown' hgrow _; have HOW := Lib.hid hown'; have HG := Lib.hid hgrow; clear hown' hgrow)
  have gB : Ext W0 w2 := Mv.ext (C := fun k => k = W0.heap.size) ((Mv.al _ (Mv.refl _ _)).trans (Mv.of_grown HG.out fun r e => .inl (by have e' : some W0.heap.size = some r := e; injection e' with h; exact h.symm))) (fun k hk e => by omega)
  have ow : OwnH w2 W0.heap.size v' xs := by have := HOW.out; rw [Nat.zero_add, List.nil_append] at this; exact this
  obtain ⟨pw, cw, rfl, -, sw⟩ := ow.sl
  have EB := e0.tr gB
  have sx := s0.ext gB
  have heb := he.ext gB
  clear ow gB HN HO HOW HG s0 he
  obtain ⟨WB, hWB⟩ : ∃ WB, w2 = WB := ⟨_, rfl⟩
  rw [hWB] at sw EB sx heb ⊢
  clear hWB e0
  have E0B := Lib.hid EB
  have SX := Lib.hid sx
  have SW := Lib.hid sw
  have HV := Lib.hid heb
  obtain ⟨c0, c1, c2, c3, c4, c5⟩ := heb.cells
  have lB : Lt w.heap.size WB := heb.2
  clear EB sx sw heb
  go_upto_region 5 with (go_at_call 36; go_must (with_reducible refine (step_own (e := e) (m := xs.length) SX.out (Nat.le_trans hl60 (by omega)) rfl).mono ?_); rintro r W4 ⟨pa1, nn1, ca1, b1, rfl, or1, hn1, E1⟩; have OR1 := Lib.hid or1; clear or1)
  clear c0 c1 c2 c3 c4 c5 lB
  go_wp2
  go_loopw [8] (fun a wr => ∃ k : Nat, k ≤ nn1 ∧ a = .int .i64 k ∧ (∃ ys : List Ho, ys.length = nn1 ∧ OwnH wr WB.heap.size (.slice pa1 nn1 ca1) ys) ∧ Ext WB wr) (fun a _ => nn1 - (intOf a).toNat)
  case atStart => exact ⟨0, Nat.zero_le _, rfl, OR1.out, E1⟩
  case round =>
    obtain ⟨k, hk, rfl, ⟨ys, hyl, ho⟩, hE⟩ := hrel
    by_cases hlt : k < nn1
    · have hil : (k : Int) < nn1 := by omega
      subst hyl
      obtain ⟨g, hg, hgb⟩ : ∃ g, pa1 = some ⟨g, 0, none⟩ ∧ WB.heap.size ≤ g := by
        rcases ho.2 with ⟨e, h0⟩ | ⟨g, cap, cur, e, hg, -⟩
        · omega
        · cases e; exact ⟨g, rfl, hg⟩
      subst hg
      obtain ⟨c0, c1, c2, c3, c4⟩ := own_cells ho rfl k hlt
      have lg : Lt g wr := (own_frz ho).2
      have fz : frzD wr g = (0, 0) := (own_frz ho).1
      have hset := own_set ho (k * 5 + 4) (.int .i64 (-9))
      rw [flH_setn ys k (-9) hlt] at hset
      have HST := Lib.hid hset
      obtain ⟨y, hy⟩ : ∃ y, ys[k] = y := ⟨_, rfl⟩
      rw [hy] at c4
      have hf4 := frozen_of_frz fz (k * 5 + 4)
      have HE := Lib.hid hE
      clear ho hset hy c0 c1 c2 c3 fz
      go_wp2
      go_roundw
      case rel => exact ⟨k + 1, by omega, by go_num, ⟨ys.set k { ys[k] with n := -9 }, by simp, by unfold OwnH; rw [List.length_set]; exact HST.out⟩, Ext.st _ hgb HE.out⟩
      case measure => simp [intOf]; omega
    · have hil : ¬ ((k : Int) < nn1) := by omega
      have E1 := hE
      obtain ⟨c0, c1, c2, c3, c4, c5⟩ := (HV.out.ext E1).cells
      have lB : Lt w.heap.size wr := (HV.out.ext E1).2
      clear ho hE
      go_upto_region 10 with (go_at_call 38; go_must (with_reducible refine (run_own (e := e) (m := xs.length) (SX.out.ext (E1.tr (Ext.al (Ext.rf _) _))) (SlE.one _ e _) (Nat.le_trans hl60 (by omega)) rfl).mono ?_); rintro r W6 ⟨pa2, nn2, ca2, k2, b2, rfl, or2, hn2, g2⟩; have OR2 := Lib.hid or2; clear or2)
      have E2 : Ext WB W6 := (E1.tr (Ext.al (Ext.rf _) _)).tr g2
      have OR2 := Lib.hid (let ⟨ys, h1, h2⟩ := OR2.out; ⟨ys, h1, ownsRow_le h2 (E1.tr (Ext.al (Ext.rf _) _)).size⟩ : ∃ ys : List Ho, ys.length = nn2 ∧ OwnH W6 WB.heap.size (.slice pa2 nn2 ca2) ys)
      clear c0 c1 c2 c3 c4 c5 lB g2
      go_wp2
      go_loopw [12] (fun a wr => ∃ k : Nat, k ≤ nn2 ∧ a = .int .i64 k ∧ (∃ ys : List Ho, ys.length = nn2 ∧ OwnH wr WB.heap.size (.slice pa2 nn2 ca2) ys) ∧ Ext WB wr) (fun a _ => nn2 - (intOf a).toNat)
      case atStart => exact ⟨0, Nat.zero_le _, rfl, OR2.out, E2⟩
      case round =>
        obtain ⟨k, hk, rfl, ⟨ys, hyl, ho⟩, hE⟩ := hrel
        by_cases hlt : k < nn2
        · have hil : (k : Int) < nn2 := by omega
          subst hyl
          obtain ⟨g, hg, hgb⟩ : ∃ g, pa2 = some ⟨g, 0, none⟩ ∧ WB.heap.size ≤ g := by
            rcases ho.2 with ⟨e, h0⟩ | ⟨g, cap, cur, e, hg, -⟩
            · omega
            · cases e; exact ⟨g, rfl, hg⟩
          subst hg
          obtain ⟨c0, c1, c2, c3, c4⟩ := own_cells ho rfl k hlt
          have lg : Lt g wr := (own_frz ho).2
          have fz : frzD wr g = (0, 0) := (own_frz ho).1
          have hset := own_set ho (k * 5 + 4) (.int .i64 (-9))
          rw [flH_setn ys k (-9) hlt] at hset
          have HST := Lib.hid hset
          obtain ⟨y, hy⟩ : ∃ y, ys[k] = y := ⟨_, rfl⟩
          rw [hy] at c4
          have hf4 := frozen_of_frz fz (k * 5 + 4)
          have HE := Lib.hid hE
          clear ho hset hy c0 c1 c2 c3 fz
          go_wp2
          go_roundw
          case rel => exact ⟨k + 1, by omega, by go_num, ⟨ys.set k { ys[k] with n := -9 }, by simp, by unfold OwnH; rw [List.length_set]; exact HST.out⟩, Ext.st _ hgb HE.out⟩
          case measure => simp [intOf]; omega
        · have hil : ¬ ((k : Int) < nn2) := by omega

          have HS9 := Lib.hid (SX.out.ext hE)
          have HW9 := Lib.hid (SW.out.ext hE)
          have HSM : Hid (Calls Try.prog 42 #[.slice (some a) xs.length c, .slice pw xs.length cw] wr fun e w' => e = .returned (.bool true) ∧ Ext wr w') := Lib.hid (sameH_g HS9.out HW9.out rfl (by omega))
          clear ho HS9 HW9
          go_wp2_with (first | (go_at_call 42; go_must (with_reducible refine (HSM.out).mono ?_); rintro r W7 ⟨rfl, g7⟩) | (go_at_call 35; (with_reducible refine (wakes26_any _).mono ?_); rintro e WZ ⟨rfl, gZ⟩))
          go_ret
          exact ⟨rfl, E0B.out.tr (hE.tr (g7.tr gZ))⟩

set_option maxRecDepth 100000 in
set_option maxHeartbeats 16000000 in
theorem own26_none (c : Nat) (e : Ev) (w : World) :
    Calls Try.prog 12 #[.slice none 0 c, .agg #[.int .u8 e.k, .int .i64 e.n, .int .u32 e.t.a, .int .u32 e.t.b, .int .u16 e.t.c, .int .u16 e.t.d]] w fun e w' => e = .returned (.bool true) ∧ Ext w w' := by
  have hl60 : ([] : List Ho).length ≤ 60 := by simp
  go_enter Try.func12, Try.ntmps12
  go_upto_region 1 with (fail)
  obtain ⟨W0, hW⟩ : ∃ W0, w.alloc (.cells #[.int .u8 e.k, .int .i64 e.n, .int .u32 e.t.a, .int .u32 e.t.b, .int .u16 e.t.c, .int .u16 e.t.d] 52) = W0 := ⟨_, rfl⟩
  have e0 : Ext w W0 := by rw [← hW]; exact Ext.al (Ext.rf _) _
  have he : EvAt W0 w.heap.size e := by rw [← hW]; unfold EvAt; simp [go_sem, Lt]
  have hsz : W0.heap.size = w.heap.size + 1 := by rw [← hW]; simp
  rw [hW]
  clear hW
  go_upto_region 4 with (fail)
  obtain ⟨WB, hWB⟩ : ∃ WB, W0.alloc (.cells #[] 70) = WB := ⟨_, rfl⟩
  have gB : Ext W0 WB := by rw [← hWB]; exact Ext.al (Ext.rf _) _
  rw [hWB]
  have EB := e0.tr gB
  have sx : SlH WB none [] := SlH.nil _ _
  have sw : SlH WB (some ⟨w.heap.size + 1, 0, none⟩) [] := SlH.nil _ _
  have heb := he.ext gB
  clear gB he hWB e0 hsz
  have E0B := Lib.hid EB
  have SX := Lib.hid sx
  have SW := Lib.hid sw
  have HV := Lib.hid heb
  obtain ⟨c0, c1, c2, c3, c4, c5⟩ := heb.cells
  have lB : Lt w.heap.size WB := heb.2
  clear EB sx sw heb
  go_upto_region 5 with (go_at_call 36; go_must (with_reducible refine (step_own (e := e) (m := 0) SX.out (Nat.le_trans hl60 (by omega)) rfl).mono ?_); rintro r W4 ⟨pa1, nn1, ca1, b1, rfl, or1, hn1, E1⟩; have OR1 := Lib.hid or1; clear or1)
  clear c0 c1 c2 c3 c4 c5 lB
  go_wp2
  go_loopw [8] (fun a wr => ∃ k : Nat, k ≤ nn1 ∧ a = .int .i64 k ∧ (∃ ys : List Ho, ys.length = nn1 ∧ OwnH wr WB.heap.size (.slice pa1 nn1 ca1) ys) ∧ Ext WB wr) (fun a _ => nn1 - (intOf a).toNat)
  case atStart => exact ⟨0, Nat.zero_le _, rfl, OR1.out, E1⟩
  case round =>
    obtain ⟨k, hk, rfl, ⟨ys, hyl, ho⟩, hE⟩ := hrel
    by_cases hlt : k < nn1
    · have hil : (k : Int) < nn1 := by omega
      subst hyl
      obtain ⟨g, hg, hgb⟩ : ∃ g, pa1 = some ⟨g, 0, none⟩ ∧ WB.heap.size ≤ g := by
        rcases ho.2 with ⟨e, h0⟩ | ⟨g, cap, cur, e, hg, -⟩
        · omega
        · cases e; exact ⟨g, rfl, hg⟩
      subst hg
      obtain ⟨c0, c1, c2, c3, c4⟩ := own_cells ho rfl k hlt
      have lg : Lt g wr := (own_frz ho).2
      have fz : frzD wr g = (0, 0) := (own_frz ho).1
      have hset := own_set ho (k * 5 + 4) (.int .i64 (-9))
      rw [flH_setn ys k (-9) hlt] at hset
      have HST := Lib.hid hset
      obtain ⟨y, hy⟩ : ∃ y, ys[k] = y := ⟨_, rfl⟩
      rw [hy] at c4
      have hf4 := frozen_of_frz fz (k * 5 + 4)
      have HE := Lib.hid hE
      clear ho hset hy c0 c1 c2 c3 fz
      go_wp2
      go_roundw
      case rel => exact ⟨k + 1, by omega, by go_num, ⟨ys.set k { ys[k] with n := -9 }, by simp, by unfold OwnH; rw [List.length_set]; exact HST.out⟩, Ext.st _ hgb HE.out⟩
      case measure => simp [intOf]; omega
    · have hil : ¬ ((k : Int) < nn1) := by omega
      have E1 := hE
      obtain ⟨c0, c1, c2, c3, c4, c5⟩ := (HV.out.ext E1).cells
      have lB : Lt w.heap.size wr := (HV.out.ext E1).2
      clear ho hE
      go_upto_region 10 with (go_at_call 38; go_must (with_reducible refine (run_own (e := e) (m := 0) (SX.out.ext (E1.tr (Ext.al (Ext.rf _) _))) (SlE.one _ e _) (Nat.le_trans hl60 (by omega)) rfl).mono ?_); rintro r W6 ⟨pa2, nn2, ca2, k2, b2, rfl, or2, hn2, g2⟩; have OR2 := Lib.hid or2; clear or2)
      have E2 : Ext WB W6 := (E1.tr (Ext.al (Ext.rf _) _)).tr g2
      have OR2 := Lib.hid (let ⟨ys, h1, h2⟩ := OR2.out; ⟨ys, h1, ownsRow_le h2 (E1.tr (Ext.al (Ext.rf _) _)).size⟩ : ∃ ys : List Ho, ys.length = nn2 ∧ OwnH W6 WB.heap.size (.slice pa2 nn2 ca2) ys)
      clear c0 c1 c2 c3 c4 c5 lB g2
      go_wp2
      go_loopw [12] (fun a wr => ∃ k : Nat, k ≤ nn2 ∧ a = .int .i64 k ∧ (∃ ys : List Ho, ys.length = nn2 ∧ OwnH wr WB.heap.size (.slice pa2 nn2 ca2) ys) ∧ Ext WB wr) (fun a _ => nn2 - (intOf a).toNat)
      case atStart => exact ⟨0, Nat.zero_le _, rfl, OR2.out, E2⟩
      case round =>
        obtain ⟨k, hk, rfl, ⟨ys, hyl, ho⟩, hE⟩ := hrel
        by_cases hlt : k < nn2
        · have hil : (k : Int) < nn2 := by omega
          subst hyl
          obtain ⟨g, hg, hgb⟩ : ∃ g, pa2 = some ⟨g, 0, none⟩ ∧ WB.heap.size ≤ g := by
            rcases ho.2 with ⟨e, h0⟩ | ⟨g, cap, cur, e, hg, -⟩
            · omega
            · cases e; exact ⟨g, rfl, hg⟩
          subst hg
          obtain ⟨c0, c1, c2, c3, c4⟩ := own_cells ho rfl k hlt
          have lg : Lt g wr := (own_frz ho).2
          have fz : frzD wr g = (0, 0) := (own_frz ho).1
          have hset := own_set ho (k * 5 + 4) (.int .i64 (-9))
          rw [flH_setn ys k (-9) hlt] at hset
          have HST := Lib.hid hset
          obtain ⟨y, hy⟩ : ∃ y, ys[k] = y := ⟨_, rfl⟩
          rw [hy] at c4
          have hf4 := frozen_of_frz fz (k * 5 + 4)
          have HE := Lib.hid hE
          clear ho hset hy c0 c1 c2 c3 fz
          go_wp2
          go_roundw
          case rel => exact ⟨k + 1, by omega, by go_num, ⟨ys.set k { ys[k] with n := -9 }, by simp, by unfold OwnH; rw [List.length_set]; exact HST.out⟩, Ext.st _ hgb HE.out⟩
          case measure => simp [intOf]; omega
        · have hil : ¬ ((k : Int) < nn2) := by omega

          have HS9 := Lib.hid (SX.out.ext hE)
          have HW9 := Lib.hid (SW.out.ext hE)
          have HSM : Hid (Calls Try.prog 42 #[.slice none 0 c, .slice (some ⟨w.heap.size + 1, 0, none⟩) 0 0] wr fun e w' => e = .returned (.bool true) ∧ Ext wr w') := Lib.hid (sameH_g HS9.out HW9.out rfl (by omega))
          clear ho HS9 HW9
          go_wp2_with (first | (go_at_call 42; go_must (with_reducible refine (HSM.out).mono ?_); rintro r W7 ⟨rfl, g7⟩) | (go_at_call 35; (with_reducible refine (wakes26_any _).mono ?_); rintro e WZ ⟨rfl, gZ⟩))
          go_ret
          exact ⟨rfl, E0B.out.tr (hE.tr (g7.tr gZ))⟩

theorem own26_walk (p : Option Addr) (xs : List Ho) (c : Nat) (e : Ev) (w : World) (hs : SlH w p xs) :
    Calls Try.prog 12 #[.slice p xs.length c, .agg #[.int .u8 e.k, .int .i64 e.n, .int .u32 e.t.a, .int .u32 e.t.b, .int .u16 e.t.c, .int .u16 e.t.d]] w fun e w' => e = .returned (.bool true) ∧ Ext w w' := by
  cases g1 : decide ((60 : Int) < xs.length)
  rotate_left
  · exact own26_great p xs c e w g1
  cases p with
  | some a => exact own26_some a xs c e w hs g1
  | none =>
    have h0 : xs = [] := hs.nil_of
    subst h0
    exact own26_none c e w

set_option maxRecDepth 100000 in
theorem idealOwn_lifted (os : Os) (started : os.Started) (H : Type) (enc : TypeId × Value → H) :
    ReturnsInHanded {} Try.checked os 12 .any (Rows.idealOwnSpec.pre6 enc Try.prog Try.f12 Rows.idealOwnRow.domain false) (Rows.idealOwnSpec.post enc Try.prog Try.f12 false true false false) := by
  refine law_lift 4 ownKn started (by kernel_rfl) Try.func12 (ChangeSpec.witness6 (enc := enc) (C := Try.checked) false ⟨#[], #[.slice none 0 0, .agg #[.int .u8 0, .int .i64 0, .int .u32 0, .int .u32 0, .int .u16 0, .int .u16 0]], []⟩ 8 (by kernel_rfl) (by kernel_rfl) (by kernel_rfl) (by kernel_rfl)) laidOut rfl (by kernel_rfl) Try.underlying4 ?_ (by kernel_rfl) ?_
  · intro ds h
    match ds, h with
    | [d0, d1], _ => rfl
  · intro W base args ds p hval hA hlt
    have hval' : ∀ (j : Nat) t v, Try.f12.params[j]? = some t → args[j]? = some v → Value.okWide Try.prog W .any base t v := hval
    have hA' : DataW.TrodAll enc Try.prog W 0 (fun _ => true) true Try.f12.params.toList args.toList ds p := hA
    rw [Try.params12] at hA' hval'
    obtain ⟨v0, vs0, d0, ds0, p0, q0, hargs, rfl, rfl, h0, r0⟩ := trodAll_cons hA'
    obtain ⟨v1, vs1, d1, ds1, p1, q1, rfl, rfl, rfl, h1, r1⟩ := trodAll_cons r0
    obtain ⟨rfl, rfl, rfl⟩ := trodAll_nil r1
    obtain rfl : args = #[v0, v1] := by cases args; simp_all
    obtain ⟨p_, xs, c_, rfl, hs1, hc1, hr1⟩ := open_H (hval' 0 _ v0 rfl rfl) h0
    obtain ⟨e, rfl, he_⟩ := open_ev (hval' 1 _ v1 rfl rfl) h1
    exact own26_walk p_ xs c_ e W hs1

theorem idealOwn_holds : Rows.IdealOwnSaid :=
  OpenClaim.holds_of_wide 12 Try.f12 rfl rfl rfl rfl rfl rfl rfl ⟨rfl, rfl, rfl, rfl, rfl⟩ rfl rfl rfl rfl rfl (by kernel_rfl) Try.func12 (by kernel_rfl)
    (of_decide_eq_true (by kernel_rfl)) (by unfold Func.isWrapper; first | (rw [if_pos (by decide +kernel)]; kernel_rfl) | (rw [if_neg (by decide +kernel)]; exact ⟨rfl, rfl⟩))
    (fun os started H enc _ => idealOwn_lifted os started H enc)
#print axioms idealOwn_holds

end Go.Proofs.Ytookffaojlkfaaa
