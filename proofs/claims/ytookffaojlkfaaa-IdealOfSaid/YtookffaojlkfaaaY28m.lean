/- IdealOf. -/
import Derived.Test.YtookffaojlkfaaaY25m
import Derived.Test.YtookffaojlkfaaaRows
set_option linter.unusedSimpArgs false
set_option linter.unusedVariables false
namespace Go.Proofs.Ytookffaojlkfaaa
open Go.ChangeShapes Go.WideShapes Go.ChangeAt Go.RowKit

attribute [local go_sem] beq_self_eq_true bne_self_eq_false
def sumN (xs : List Ho) : Nat → Nat
  | 0 => 0
  | j + 1 => sumN xs j + (ofX xs j).length
theorem ofX_cons (x : Ho) (xs : List Ho) (n : Int) : (ofX (x :: xs) n).length = (if x.n = n then 1 else 0) + (ofX xs n).length := by
  unfold ofX isN
  rw [List.filter_cons]
  by_cases h : x.n = n
  · simp [h] <;> omega
  · simp [h]
theorem sumN_cons (x : Ho) (xs : List Ho) : ∀ j : Nat, sumN (x :: xs) j = (if 0 ≤ x.n ∧ x.n < j then 1 else 0) + sumN xs j
  | 0 => by simp [sumN] <;> omega
  | j + 1 => by
    rw [sumN, sumN, sumN_cons x xs j, ofX_cons]
    by_cases h : x.n = j
    · rw [if_pos h, if_neg (by omega), if_pos (by omega)]; omega
    · rw [if_neg h]
      by_cases h2 : 0 ≤ x.n ∧ x.n < j
      · rw [if_pos h2, if_pos (by omega)]; omega
      · rw [if_neg h2, if_neg (by omega)]; omega
theorem sumN_all : ∀ (xs : List Ho), (∀ x ∈ xs, agB x.n = true) → sumN xs 6 = xs.length
  | [], _ => rfl
  | x :: xs, h => by
    have hx := ag_range (h x List.mem_cons_self)
    rw [sumN_cons, sumN_all xs (fun y hy => h y (List.mem_cons_of_mem _ hy)), if_pos (by omega)]
    simp; omega
theorem sumN_le (xs : List Ho) : ∀ j : Nat, sumN xs j ≤ j * xs.length
  | 0 => Nat.zero_le _
  | j + 1 => by
    have := sumN_le xs j
    have := ofX_len (j : Int) xs
    rw [sumN, Nat.succ_mul]; omega
theorem ofX_own {xs : List Ho} (h : RtP xs) {n : Int} {t : Tu} (ht : t ∈ ofX xs n) : ownI xs t = n ∧ ownHas xs t = true := by
  unfold ofX at ht
  obtain ⟨y, hy, rfl⟩ := List.mem_map.1 ht
  obtain ⟨h1, h2⟩ := List.mem_filter.1 hy
  have := own_mem h h1
  unfold isN at h2
  exact ⟨by rw [this.1]; simpa using h2, this.2⟩
theorem ofX_less {xs : List Ho} (h : RtP xs) (n : Int) : (ofX xs n).Pairwise ltT := by
  unfold ofX
  exact List.pairwise_map.2 (h.2.sublist List.filter_sublist)
theorem kill_step {xs : List Ho} (h : RtP xs) (n : Int) : (stepH xs ⟨5, n, X0⟩).2 = agB n ∧ (agB n = true → (stepH xs ⟨5, n, X0⟩).1 = xs.filter (fun x => !isN n x)) := by
  unfold stepH
  rw [(rightH_P xs).2 h]
  cases ha : agB n
  · exact ⟨rfl, fun h => by cases h⟩
  · exact ⟨rfl, fun _ => rfl⟩
theorem ofX_kill (xs : List Ho) (n : Int) : ofX (xs.filter (fun x => !isN n x)) n = [] := by
  unfold ofX
  rw [List.filter_filter]
  simp
theorem kill_len (xs : List Ho) (n : Int) : (xs.filter (fun x => !isN n x)).length + (ofX xs n).length = xs.length := by
  unfold ofX
  rw [List.length_map]
  induction xs with
  | nil => rfl
  | cons x xs ih =>
    rw [List.filter_cons, List.filter_cons]
    cases hq : isN n x
    · simp; omega
    · simp; omega
set_option maxRecDepth 100000 in
set_option maxHeartbeats 4000000 in
theorem of26_great (p : Option Addr) (xs : List Ho) (c : Nat) (n : Int) (w : World) (hs : SlH w p xs) (g1 : decide ((60 : Int) < xs.length) = true) :
    Calls Try.prog 11 #[.slice p xs.length c, .int .i64 n] w fun e w' => e = .returned (.bool true) ∧ Ext w w' := by
  go_enter Try.func11, Try.ntmps11
  go_wp2_with ((go_at_call 35; (with_reducible refine (wakes26_any _).mono ?_); rintro e WZ ⟨rfl, gZ⟩))
  go_ret
  exact ⟨rfl, gZ⟩
set_option maxRecDepth 100000 in
set_option maxHeartbeats 4000000 in
theorem of26_wrong (p : Option Addr) (xs : List Ho) (c : Nat) (n : Int) (w : World) (hs : SlH w p xs) (g1 : decide ((60 : Int) < xs.length) = false) (hl : xs.length ≤ 60) (hr : ∀ x ∈ xs, TuR x.t) (hrt : rightH xs = false) :
    Calls Try.prog 11 #[.slice p xs.length c, .int .i64 n] w fun e w' => e = .returned (.bool true) ∧ Ext w w' := by
  go_enter Try.func11, Try.ntmps11
  go_wp2_with (first | (go_at_call 44; (with_reducible refine (rrighth_any p xs c _ hs (by omega) hr).mono ?_); rw [hrt]; rintro r W0 ⟨rfl, E⟩) | (go_at_call 35; (with_reducible refine (wakes26_any _).mono ?_); rintro e WZ ⟨rfl, gZ⟩))
  go_ret
  exact ⟨rfl, E.tr gZ⟩
set_option maxRecDepth 100000 in
set_option maxHeartbeats 16000000 in
theorem of26_some (p : Option Addr) (xs : List Ho) (c : Nat) (n : Int) (w : World) (hs : SlH w p xs) (g1 : decide ((60 : Int) < xs.length) = false) (hl : xs.length ≤ 60) (hr : ∀ x ∈ xs, TuR x.t) (hrt : rightH xs = true) (hP : RtP xs) :
    Calls Try.prog 11 #[.slice p xs.length c, .int .i64 n] w fun e w' => e = .returned (.bool true) ∧ Ext w w' := by
  have HS0 := Lib.hid hs
  have HP := Lib.hid hP
  have HRR := Lib.hid hr
  go_enter Try.func11, Try.ntmps11
  go_upto_region 4 with (go_at_call 44; (with_reducible refine (rrighth_any p xs c _ hs (by omega) hr).mono ?_); rw [hrt]; rintro r W0 ⟨rfl, E⟩)
  have HE0 := Lib.hid E
  clear hs hP hr E
  go_wp2
  go_loopw [5, 6, 7, 8, 9, 10] (fun m a _ _ _ _ wr => ∃ j : Nat, j ≤ 6 ∧ a = .int .i64 j ∧ m = .int .i64 (sumN xs j : Nat) ∧ Ext w wr) (fun _ a _ _ _ _ _ => 6 - (intOf a).toNat)
  case atStart => exact ⟨0, Nat.zero_le _, rfl, rfl, HE0.out⟩
  case round =>
    obtain ⟨j, hj, rfl, rfl, E⟩ := hrel
    by_cases hlt : j < 6
    · have hil : (j : Int) < 6 := by omega
      have hs := HS0.out.ext E
      have hsl := sumN_le xs j
      have hjm : j * xs.length ≤ 6 * 60 := Nat.mul_le_mul (by omega) hl
      have hX := ofX_len (j : Int) xs
      have HOW := Lib.hid (fun t (h : t ∈ ofX xs j) => ofX_own HP.out h)
      have HLE := Lib.hid (ofX_less HP.out (j : Int))
      have HTU := Lib.hid (show ∀ t ∈ ofX xs (j : Int), TuR t from fun t ht => by
        unfold ofX at ht
        obtain ⟨y, hy, rfl⟩ := List.mem_map.1 ht
        exact HRR.out y (List.mem_filter.1 hy).1)
      have HC := Lib.hid (fun W s => oft_g (k := (j : Int)) (c := c) (W := W) (p := p) (xs := xs) s (by omega) rfl rfl)
      have HSU := Lib.hid (show sumN xs (j + 1) = sumN xs j + (ofX xs j).length from rfl)
      generalize ofX xs (j : Int) = ts at *
      go_upto_region 8 with (go_at_call 46; go_must (with_reducible refine (HC.out _ hs).mono ?_); rintro r W1 ⟨pt, ct, rfl, st, g1⟩)
      have E1 := E.tr g1
      clear g1 hs E HC
      generalize sumN xs j = sj at *
      have hw : IntKind.i64.wrap ((sj : Int) + (ts.length : Int)) = (sj : Int) + (ts.length : Int) := by rw [IntKind.wrap_i64]; omega
      go_wp2
      go_loopw [8, 9, 10] (fun a _ _ wr2 => ∃ k : Nat, k ≤ ts.length ∧ a = .int .i64 k ∧ Ext W1 wr2) (fun a _ _ _ => ts.length - (intOf a).toNat)
      case atStart => exact ⟨0, Nat.zero_le _, rfl, Ext.rf _⟩
      case round =>
        obtain ⟨k, hk, rfl, E2⟩ := hrel
        by_cases hlk : k < ts.length
        · have hkl : (k : Int) < ts.length := by omega
          obtain ⟨b, off, rfl, hb, c0, c1, c2, c3⟩ := (st.ext E2) k hlk
          obtain ⟨t, ht⟩ : ∃ t, ts[k] = t := ⟨_, rfl⟩
          have hmem : t ∈ ts := by rw [← ht]; exact List.getElem_mem hlk
          rw [ht] at c0 c1 c2 c3
          have lbb : Lt b wr := hb
          have HO := Lib.hid (HOW.out t hmem)
          have HTT := Lib.hid (HTU.out t hmem)
          have hs := HS0.out.ext (E1.tr E2)
          have ST := Lib.hid st
          have EE := Lib.hid E2
          by_cases hk0 : k = 0
          · subst hk0
            simp only [Nat.zero_mul, Nat.add_zero] at c0 c1 c2 c3
            clear hb hmem ht st E2
            go_upto_region 13 with (go_at_call 40; go_must (with_reducible refine (owner_any t p xs c _ hs (by omega)).mono ?_); rw [HO.out.1, HO.out.2]; rintro r W2 ⟨rfl, g2⟩)
            have E3 := EE.out.tr g2
            refine wp_region_later (by kernel_rfl) (by kernel_rfl) ?_; (repeat (go_big_quiet_step (fail))); refine wpQuiet_nil ?_; intro d
            have hd := later_ext d
            go_wp2
            go_roundw
            case rel => exact ⟨1, by omega, by go_num, E3.tr hd⟩
            case measure => simp [intOf]; omega
          · obtain ⟨m, rfl⟩ : ∃ m, k = m + 1 := ⟨k - 1, by omega⟩
            obtain ⟨b', off', hpe, -, d0, d1, d2, d3⟩ := (st.ext E2) m (by omega)
            cases hpe
            have hml : m < ts.length := by omega
            obtain ⟨y, hy⟩ : ∃ y, ts[m] = y := ⟨_, rfl⟩
            have HYT := Lib.hid (HTU.out y (by rw [← hy]; exact List.getElem_mem hml))
            rw [hy] at d0 d1 d2 d3
            have hlt2 := List.pairwise_iff_getElem.1 HLE.out m (m + 1) hml hlk (by omega)
            rw [hy, ht] at hlt2
            have RLS := Lib.hid (fun W => by have := rless_any y t HYT.out HTT.out W; rw [ltB_iff.2 hlt2] at this; exact this : ∀ W, Calls Try.prog 49 #[tu y.a y.b y.c y.d, tu t.a t.b t.c t.d] W fun e w' => e = .returned (.bool true) ∧ Ext W w')
            have hkp : (0 : Int) < ((m + 1 : Nat) : Int) := by omega
            have hi1 : (m : Int) < ts.length := by omega
            have hmw : IntKind.i64.wrap (((m + 1 : Nat) : Int) - 1) = m := by rw [IntKind.wrap_i64]; omega
            clear hb hmem ht st E2 hk0 hlt2 hy
            go_upto_region 13 with (go_at_call 40; go_must (with_reducible refine (owner_any t p xs c _ hs (by omega)).mono ?_); rw [HO.out.1, HO.out.2]; rintro r W2 ⟨rfl, g2⟩)
            have E3 := EE.out.tr g2
            have c0 := (g2.cell (p := ⟨b, _, none⟩) lbb).trans c0
            have c1 := (g2.cell (p := ⟨b, _, none⟩) lbb).trans c1
            have c2 := (g2.cell (p := ⟨b, _, none⟩) lbb).trans c2
            have c3 := (g2.cell (p := ⟨b, _, none⟩) lbb).trans c3
            have d0 := (g2.cell (p := ⟨b, _, none⟩) lbb).trans d0
            have d1 := (g2.cell (p := ⟨b, _, none⟩) lbb).trans d1
            have d2 := (g2.cell (p := ⟨b, _, none⟩) lbb).trans d2
            have d3 := (g2.cell (p := ⟨b, _, none⟩) lbb).trans d3
            have lbb : Lt b W2 := Nat.lt_of_lt_of_le lbb g2.size
            clear g2
            refine wp_region_later (by kernel_rfl) (by kernel_rfl) ?_; (repeat (go_big_quiet_step ((go_at_call 49; exact calls_later (RLS.out _))))); refine wpQuiet_nil ?_; intro d
            have hd := later_ext d
            go_wp2
            go_roundw
            case rel => exact ⟨m + 1 + 1, by omega, by go_num, E3.tr hd⟩
            case measure => simp [intOf]; omega
        · have hkl : ¬ ((k : Int) < ts.length) := by omega
          have E3 := E1.tr E2
          clear st E2
          go_wp2
          go_roundw
          case rel => exact ⟨j + 1, by omega, by go_num, by rw [HSU.out, Int.natCast_add], E3⟩
          case measure => simp [intOf]; omega
    · have hil : ¬ ((j : Int) < 6) := by omega
      obtain rfl : j = 6 := by omega
      have hs := HS0.out.ext E
      have h6 : sumN xs 6 = xs.length := sumN_all xs HP.out.1
      rw [h6]
      obtain ⟨k1, k2⟩ := kill_step HP.out n
      have hwl := kill_len xs n
      have HK : Hid (∀ W, SlH W p xs → Calls Try.prog 36 #[.slice p xs.length c, .agg #[.int .u8 5, .int .i64 n, .int .u32 0, .int .u32 0, .int .u16 0, .int .u16 0]] W (GetsH (stepH xs ⟨5, n, X0⟩).1 (stepH xs ⟨5, n, X0⟩).1.length (stepH xs ⟨5, n, X0⟩).2 W)) := Lib.hid (fun W s => step_g (e := ⟨5, n, X0⟩) (c := c) s rfl (by omega) rfl rfl rfl)
      rw [k1] at HK
      clear k1 h6
      by_cases h0 : 0 ≤ n
      · have h0d : decide (0 ≤ n) = true := decide_eq_true h0
        by_cases h6 : n < 6
        · have h6d : decide (n < 6) = true := decide_eq_true h6
          have ha : agB n = true := by unfold agB; simp [h0, h6]
          rw [k2 ha, ha] at HK
          have hF := ofX_len n xs
          have HF := Lib.hid (fun W s => oft_g (k := n) (c := c) (W := W) (p := p) (xs := xs) s (by omega) rfl rfl)
          generalize ofX xs n = F at *
          have HG := Lib.hid (fun W p1 c1 (s : SlH W p1 (xs.filter fun x => !isN n x)) => oft_g (k := n) (c := c1) s (Nat.le_trans (List.length_filter_le _ _) (by omega)) (ofX_kill xs n) rfl)
          generalize (xs.filter fun x => !isN n x) = A at *
          have hq : ((A.length : Int) == IntKind.i64.wrap ((xs.length : Int) - (F.length : Int))) = true := by
            rw [IntKind.wrap_i64]; simp; omega
          clear k2 ha
          go_upto_region 20 with (go_at_call 36; go_must (with_reducible refine (HK.out _ hs).mono ?_); rintro r W1 ⟨p1, e1, rfl, s1, -, g1⟩)
          have E1 := E.tr g1
          have hs := hs.ext g1
          clear g1
          go_wp2_with (first | (go_at_call 46; (first | (with_reducible refine (HG.out _ _ _ s1).mono ?_) | (with_reducible refine (HF.out _ hs).mono ?_)); rintro r W2 ⟨p2, e2, rfl, s2, g2⟩; replace E1 := E1.tr g2; replace hs := hs.ext g2; clear g2) | (go_at_call 35; (with_reducible refine (wakes26_any _).mono ?_); rintro e WZ ⟨rfl, gZ⟩))
          go_ret
          exact ⟨rfl, E1.tr gZ⟩
        · have h6d : decide (n < 6) = false := decide_eq_false h6
          have ha : agB n = false := by unfold agB; simp [h6]
          rw [ha] at HK
          clear k2 ha
          generalize (stepH xs ⟨5, n, X0⟩).1 = A at *
          go_upto_region 20 with (go_at_call 36; go_must (with_reducible refine (HK.out _ hs).mono ?_); rintro r W1 ⟨p1, e1, rfl, s1, -, g1⟩)
          have E1 := E.tr g1
          clear g1
          go_wp2_with ((go_at_call 35; (with_reducible refine (wakes26_any _).mono ?_); rintro e WZ ⟨rfl, gZ⟩))
          go_ret
          exact ⟨rfl, E1.tr gZ⟩
      · have h0d : decide (0 ≤ n) = false := decide_eq_false h0
        have ha : agB n = false := by unfold agB; simp [h0]
        rw [ha] at HK
        clear k2 ha
        generalize (stepH xs ⟨5, n, X0⟩).1 = A at *
        go_upto_region 20 with (go_at_call 36; go_must (with_reducible refine (HK.out _ hs).mono ?_); rintro r W1 ⟨p1, e1, rfl, s1, -, g1⟩)
        have E1 := E.tr g1
        clear g1
        go_wp2_with ((go_at_call 35; (with_reducible refine (wakes26_any _).mono ?_); rintro e WZ ⟨rfl, gZ⟩))
        go_ret
        exact ⟨rfl, E1.tr gZ⟩
theorem of26_walk (p : Option Addr) (xs : List Ho) (c : Nat) (n : Int) (w : World) (hs : SlH w p xs) (hr : ∀ x ∈ xs, TuR x.t) :
    Calls Try.prog 11 #[.slice p xs.length c, .int .i64 n] w fun e w' => e = .returned (.bool true) ∧ Ext w w' := by
  cases g1 : decide ((60 : Int) < xs.length)
  rotate_left
  · exact of26_great p xs c n w hs g1
  have hl : xs.length ≤ 60 := by have := of_decide_eq_false g1; omega
  cases hrt : rightH xs
  · exact of26_wrong p xs c n w hs g1 hl hr hrt
  · exact of26_some p xs c n w hs g1 hl hr hrt ((rightH_P xs).1 hrt)

set_option maxRecDepth 100000 in
theorem idealOf_lifted (os : Os) (started : os.Started) (H : Type) (enc : TypeId × Value → H) :
    ReturnsInHanded {} Try.checked os 11 .any (Rows.idealOfSpec.pre6 enc Try.prog Try.f11 Rows.idealOfRow.domain false) (Rows.idealOfSpec.post enc Try.prog Try.f11 false true false false) := by
  refine law_lift 4 ownKn started (by kernel_rfl) Try.func11 (ChangeSpec.witness6 (enc := enc) (C := Try.checked) false ⟨#[], #[.slice none 0 0, .int .i64 0], []⟩ 8 (by kernel_rfl) (by kernel_rfl) (by kernel_rfl) (by kernel_rfl)) laidOut rfl (by kernel_rfl) Try.underlying4 ?_ (by kernel_rfl) ?_
  · intro ds h
    match ds, h with
    | [d0, d1], _ => rfl
  · intro W base args ds p hval hA hlt
    have hval' : ∀ (j : Nat) t v, Try.f11.params[j]? = some t → args[j]? = some v → Value.okWide Try.prog W .any base t v := hval
    have hA' : DataW.TrodAll enc Try.prog W 0 (fun _ => true) true Try.f11.params.toList args.toList ds p := hA
    rw [Try.params11] at hA' hval'
    obtain ⟨v0, vs0, d0, ds0, p0, q0, hargs, rfl, rfl, h0, r0⟩ := trodAll_cons hA'
    obtain ⟨v1, vs1, d1, ds1, p1, q1, rfl, rfl, rfl, h1, r1⟩ := trodAll_cons r0
    obtain ⟨rfl, rfl, rfl⟩ := trodAll_nil r1
    obtain rfl : args = #[v0, v1] := by cases args; simp_all
    obtain ⟨p_, xs, c_, rfl, hs1, hc1, hr1⟩ := open_H (hval' 0 _ v0 rfl rfl) h0
    obtain ⟨n, rfl, _, _, w_n⟩ := open_int Try.underlying3 (hval' 1 _ v1 rfl rfl) h1
    exact of26_walk p_ xs c_ n W hs1 hr1

theorem idealOf_holds : Rows.IdealOfSaid :=
  OpenClaim.holds_of_wide 11 Try.f11 rfl rfl rfl rfl rfl rfl rfl ⟨rfl, rfl, rfl, rfl, rfl⟩ rfl rfl rfl rfl rfl (by kernel_rfl) Try.func11 (by kernel_rfl)
    (of_decide_eq_true (by kernel_rfl)) (by unfold Func.isWrapper; first | (rw [if_pos (by decide +kernel)]; kernel_rfl) | (rw [if_neg (by decide +kernel)]; exact ⟨rfl, rfl⟩))
    (fun os started H enc _ => idealOf_lifted os started H enc)
#print axioms idealOf_holds

end Go.Proofs.Ytookffaojlkfaaa
