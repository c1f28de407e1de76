/- ConnsTouch. -/
import Derived.Test.YtookffaojlkfaaaL3
set_option linter.unusedSimpArgs false
set_option linter.unusedVariables false
namespace Go.Proofs.Ytookffaojlkfaaa
open Go.ChangeShapes Go.WideShapes Go.ChangeAt Go.RowKit

attribute [local go_sem] beq_self_eq_true bne_self_eq_false

set_option maxRecDepth 100000 in
set_option maxHeartbeats 32000000 in
theorem touch_b (t : Tu) (now more : Int) (p : Option Addr) (xs : List Co) (c : Nat) (w : World) (hs : SlC w p xs) (hc : xs.length ≤ c) (hr : ∀ x ∈ xs, TuR x.t) (hl : xs.length ≤ 60) (hrr : rightC xs = true) (hgd : decide ((60 : Int) < xs.length) = false) (O PQ : List Co) (b : Bool) (hm : ¬ (now < more))
    (HO : Hid (withX (touchF now) xs t = O)) (HON : Hid (O.length = xs.length)) (HB : Hid (withOk xs t = b)) (HP : Hid (withX (touchF more) O t = PQ)) (HPN : Hid (PQ.length = xs.length)) (HQ : Hid (withX (touchF now) xs t = PQ)) (HRO : Hid (rightC O = true))
    (HG : Hid (∀ (j : Nat) (x : Co), xs[j]? = some x → O[j]? = some (if eqT x.t t = true then { x with l := max x.l (min now 1099511627776) } else x))) (HTH : Hid ((xs.any fun x => eqT x.t t) = b)) :
    Calls Try.prog 5 #[.slice p xs.length c, tu t.a t.b t.c t.d, .int .i64 now, .int .i64 more] w fun e w' => e = .returned (.bool true) ∧ Ext w w' := by
  go_enter Try.func5, Try.ntmps5
  go_upto_region 1 with (fail)
  obtain ⟨W0, hW⟩ : ∃ W0, w.alloc (.cells #[.int .u32 t.a, .int .u32 t.b, .int .u16 t.c, .int .u16 t.d] 26) = W0 := ⟨_, rfl⟩
  have E : Ext w W0 := by rw [← hW]; exact Ext.al (Ext.rf _) _
  have ht : TuAt W0 w.heap.size t := by rw [← hW]; unfold TuAt; simp [go_sem, Lt]
  have s := hs.ext E
  rw [hW]
  clear hW hs
  go_upto_region 3 with (first | (go_at_call 13; (with_reducible refine (great_any p xs.length c _).mono ?_); rintro e W7 ⟨rfl, rfl⟩) | (go_at_call 27; (with_reducible refine (rright_any p xs c _ s (by omega) hr).mono ?_); rw [hrr]; rintro e W5 ⟨rfl, g5⟩; replace E := E.tr g5; replace s := s.ext g5; replace ht := ht.ext g5))
  clear g5
  obtain ⟨d0, d1, d2, d3⟩ := ht.cells
  have lB : Lt w.heap.size _ := ht.2
  go_upto_region 4 with (go_at_call 17; go_must (with_reducible refine (touch_g s rfl (by omega) HO.out HON.out HB.out).mono ?_); rintro e W1 ⟨p1, c1, rfl, s1, g⟩; replace E := E.tr g; replace s := s.ext g; replace ht := ht.ext g)
  clear g d0 d1 d2 d3 lB
  obtain ⟨d0, d1, d2, d3⟩ := ht.cells
  have lB : Lt w.heap.size _ := ht.2
  go_upto_region 5 with (go_at_call 17; go_must (with_reducible refine (touch_g s1 HON.out (by rw [HON.out]; omega) HP.out HPN.out rfl).mono ?_); rintro e W1 ⟨p2, c2, rfl, s2, g⟩; replace E := E.tr g; replace s := s.ext g; replace s1 := s1.ext g; replace ht := ht.ext g)
  clear g d0 d1 d2 d3 lB
  obtain ⟨d0, d1, d2, d3⟩ := ht.cells
  have lB : Lt w.heap.size _ := ht.2
  go_upto_region 6 with (go_at_call 17; go_must (with_reducible refine (touch_g s rfl (by omega) HQ.out HPN.out rfl).mono ?_); rintro e W1 ⟨p3, c3, rfl, s3, g⟩; replace E := E.tr g; replace s := s.ext g; replace s1 := s1.ext g; replace s2 := s2.ext g; replace ht := ht.ext g)
  clear g d0 d1 d2 d3 lB
  obtain ⟨d0, d1, d2, d3⟩ := ht.cells
  have lB : Lt w.heap.size _ := ht.2
  clear hm
  go_upto_region 8 with (first | (go_at_call 26; (with_reducible refine (right_g s1 HON.out (by rw [HON.out]; omega) HRO.out).mono ?_); rintro e W1 ⟨rfl, g⟩; replace E := E.tr g; replace s := s.ext g; replace s1 := s1.ext g; replace s2 := s2.ext g; replace s3 := s3.ext g; replace ht := ht.ext g; clear g) | (go_at_call 23; (with_reducible refine (same_g s2 s3 HPN.out (by omega)).mono ?_); rintro e Wb ⟨rfl, g⟩; replace E := E.tr g; replace s := s.ext g; replace s1 := s1.ext g; replace s2 := s2.ext g; replace s3 := s3.ext g; replace ht := ht.ext g; clear g))
  have HSS := Lib.hid s
  have HS1 := Lib.hid s1
  have HTT := Lib.hid ht
  have HE := Lib.hid E
  clear s s1 s2 s3 ht E d0 d1 d2 d3 lB
  go_wp2
  go_loopw [15, 16, 17] (fun v a _ wr => ∃ k : Nat, k ≤ xs.length ∧ a = .int .i64 k ∧ v = .bool ((xs.take k).any fun x => eqT x.t t) ∧ Ext Wb wr) (fun _ a _ _ => xs.length - (intOf a).toNat)
  case atStart => exact ⟨0, Nat.zero_le _, rfl, rfl, Ext.rf _⟩
  case round =>
    obtain ⟨k, hk, rfl, rfl, hE⟩ := hrel
    by_cases hlt : k < xs.length
    · have hil : (k : Int) < xs.length := by omega
      have hko : k < O.length := by rw [HON.out]; exact hlt
      obtain ⟨b, off, rfl, lb, c0, c1, c2, c3, c4, c5⟩ := (HSS.out.ext hE) k hlt
      obtain ⟨b1, off1, rfl, lb1', y0, y1, y2, y3, y4, y5⟩ := (HS1.out.ext hE) k hko
      obtain ⟨x, hx⟩ : ∃ x, xs[k] = x := ⟨_, rfl⟩
      obtain ⟨z, hz⟩ : ∃ z, O[k] = z := ⟨_, rfl⟩
      have hy := HG.out k x (by rw [List.getElem?_eq_getElem hlt, hx])
      rw [List.getElem?_eq_getElem hko, hz] at hy
      have hy : z = if eqT x.t t = true then { x with l := max x.l (min now 1099511627776) } else x := Option.some.inj hy
      have hS : (xs.take (k + 1)).any (fun x => eqT x.t t) = ((xs.take k).any (fun x => eqT x.t t) || eqT x.t t) := by
        rw [List.take_succ_eq_append_getElem hlt, hx, List.any_append]; simp
      have hxM : x.l ≤ 1099511627776 := by
        have h9 := (rightC_iff xs).1 hrr
        refine Int.not_lt.1 fun hlt' => h9.2 k hlt ⟨x, by rw [List.getElem?_eq_getElem hlt, hx], .inl ?_⟩
        unfold wrongC; simp [hlt']
      rw [hx] at c0 c1 c2 c3 c4 c5
      rw [hz] at y0 y1 y2 y3 y4 y5
      have lbb : Lt b wr := lb
      have lb1 : Lt b1 wr := lb1'
      have hT := HTT.out.ext hE
      obtain ⟨d0, d1, d2, d3⟩ := hT.cells
      have lB : Lt w.heap.size wr := hT.2
      clear hT lb lb1' hx hz hrr
      cases hany : (xs.take k).any fun x => eqT x.t t
      · skip
        rw [hany, Bool.false_or] at hS
        clear hany
        by_cases he : x.t = t
        · have hq : eqT x.t t = true := eqT_iff.2 he
          rw [if_pos hq] at hy
          have HN := Lib.hid (hS.trans hq)
          cases hy
          rw [he] at c0 c1 c2 c3 y0 y1 y2 y3
          clear he hq hS
          by_cases q1 : now ≤ x.l
          · skip
            rw [show max x.l (min now 1099511627776) = x.l by omega] at y5
            have k1 : ¬ (x.l < now) := by omega
            have k2 : ¬ ((1099511627776 : Int) < x.l) := by omega
            clear hxM
            go_upto_region 12 with (fail)
            refine wp_region_later (by kernel_rfl) (by kernel_rfl) ?_; (repeat (go_big_quiet_step (fail))); refine wpQuiet_nil ?_; intro d
            have hd := later_ext d
            obtain ⟨W5, hW5⟩ : ∃ W5, later d = W5 := ⟨_, rfl⟩
            rw [hW5] at hd ⊢
            clear hW5
            have c0 := (hd.cell (p := ⟨b, _, none⟩) lbb).trans c0
            have y0 := (hd.cell (p := ⟨b1, _, none⟩) lb1).trans y0
            have c1 := (hd.cell (p := ⟨b, _, none⟩) lbb).trans c1
            have y1 := (hd.cell (p := ⟨b1, _, none⟩) lb1).trans y1
            have c2 := (hd.cell (p := ⟨b, _, none⟩) lbb).trans c2
            have y2 := (hd.cell (p := ⟨b1, _, none⟩) lb1).trans y2
            have c3 := (hd.cell (p := ⟨b, _, none⟩) lbb).trans c3
            have y3 := (hd.cell (p := ⟨b1, _, none⟩) lb1).trans y3
            have c4 := (hd.cell (p := ⟨b, _, none⟩) lbb).trans c4
            have y4 := (hd.cell (p := ⟨b1, _, none⟩) lb1).trans y4
            have c5 := (hd.cell (p := ⟨b, _, none⟩) lbb).trans c5
            have y5 := (hd.cell (p := ⟨b1, _, none⟩) lb1).trans y5
            have d0 := (hd.cell (p := ⟨w.heap.size, _, none⟩) lB).trans d0
            have d1 := (hd.cell (p := ⟨w.heap.size, _, none⟩) lB).trans d1
            have d2 := (hd.cell (p := ⟨w.heap.size, _, none⟩) lB).trans d2
            have d3 := (hd.cell (p := ⟨w.heap.size, _, none⟩) lB).trans d3
            have lbb : Lt b W5 := Nat.lt_of_lt_of_le lbb hd.size
            have lb1 : Lt b1 W5 := Nat.lt_of_lt_of_le lb1 hd.size
            have lB : Lt w.heap.size W5 := Nat.lt_of_lt_of_le lB hd.size
            go_upto_region 14 with (fail)
            refine wp_region_later (by kernel_rfl) (by kernel_rfl) ?_
            simp only [List.append_eq, List.cons_append, List.nil_append]
            (repeat (go_big_quiet_step (fail))); refine wpQuiet_nil ?_; intro d2
            have hd2 := later_ext d2
            go_wp2
            go_roundw
            case rel => exact ⟨k + 1, by omega, by go_num, by rw [HN.out], (hE.tr hd).tr hd2⟩
            case measure => simp [intOf]; omega
  
          by_cases q2 : now ≤ 1099511627776
          · skip
            rw [show max x.l (min now 1099511627776) = now by omega] at y5
            have k1 : x.l < now := by omega
            have k2 : ¬ ((1099511627776 : Int) < now) := by omega
            have k3 : ¬ (now < x.l) := by omega
            have k4 : decide (now < x.l) = false := decide_eq_false k3
            clear hxM
            go_upto_region 12 with (fail)
            refine wp_region_later (by kernel_rfl) (by kernel_rfl) ?_; (repeat (go_big_quiet_step (fail))); refine wpQuiet_nil ?_; intro d
            have hd := later_ext d
            obtain ⟨W5, hW5⟩ : ∃ W5, later d = W5 := ⟨_, rfl⟩
            rw [hW5] at hd ⊢
            clear hW5
            have c0 := (hd.cell (p := ⟨b, _, none⟩) lbb).trans c0
            have y0 := (hd.cell (p := ⟨b1, _, none⟩) lb1).trans y0
            have c1 := (hd.cell (p := ⟨b, _, none⟩) lbb).trans c1
            have y1 := (hd.cell (p := ⟨b1, _, none⟩) lb1).trans y1
            have c2 := (hd.cell (p := ⟨b, _, none⟩) lbb).trans c2
            have y2 := (hd.cell (p := ⟨b1, _, none⟩) lb1).trans y2
            have c3 := (hd.cell (p := ⟨b, _, none⟩) lbb).trans c3
            have y3 := (hd.cell (p := ⟨b1, _, none⟩) lb1).trans y3
            have c4 := (hd.cell (p := ⟨b, _, none⟩) lbb).trans c4
            have y4 := (hd.cell (p := ⟨b1, _, none⟩) lb1).trans y4
            have c5 := (hd.cell (p := ⟨b, _, none⟩) lbb).trans c5
            have y5 := (hd.cell (p := ⟨b1, _, none⟩) lb1).trans y5
            have d0 := (hd.cell (p := ⟨w.heap.size, _, none⟩) lB).trans d0
            have d1 := (hd.cell (p := ⟨w.heap.size, _, none⟩) lB).trans d1
            have d2 := (hd.cell (p := ⟨w.heap.size, _, none⟩) lB).trans d2
            have d3 := (hd.cell (p := ⟨w.heap.size, _, none⟩) lB).trans d3
            have lbb : Lt b W5 := Nat.lt_of_lt_of_le lbb hd.size
            have lb1 : Lt b1 W5 := Nat.lt_of_lt_of_le lb1 hd.size
            have lB : Lt w.heap.size W5 := Nat.lt_of_lt_of_le lB hd.size
            go_upto_region 14 with (fail)
            refine wp_region_later (by kernel_rfl) (by kernel_rfl) ?_
            simp only [List.append_eq, List.cons_append, List.nil_append]
            (repeat (go_big_quiet_step (fail))); refine wpQuiet_nil ?_; intro d2
            have hd2 := later_ext d2
            go_wp2
            go_roundw
            case rel => exact ⟨k + 1, by omega, by go_num, by rw [HN.out], (hE.tr hd).tr hd2⟩
            case measure => simp [intOf]; omega
  
          rw [show max x.l (min now 1099511627776) = 1099511627776 by omega] at y5
          have k1 : x.l < now := by omega
          have k2 : (1099511627776 : Int) < now := by omega
          have k3 : ¬ ((1099511627776 : Int) < x.l) := by omega
          have k4 : decide ((1099511627776 : Int) < x.l) = false := decide_eq_false k3
          clear hxM
          go_upto_region 12 with (fail)
          refine wp_region_later (by kernel_rfl) (by kernel_rfl) ?_; (repeat (go_big_quiet_step (fail))); refine wpQuiet_nil ?_; intro d
          have hd := later_ext d
          obtain ⟨W5, hW5⟩ : ∃ W5, later d = W5 := ⟨_, rfl⟩
          rw [hW5] at hd ⊢
          clear hW5
          have c0 := (hd.cell (p := ⟨b, _, none⟩) lbb).trans c0
          have y0 := (hd.cell (p := ⟨b1, _, none⟩) lb1).trans y0
          have c1 := (hd.cell (p := ⟨b, _, none⟩) lbb).trans c1
          have y1 := (hd.cell (p := ⟨b1, _, none⟩) lb1).trans y1
          have c2 := (hd.cell (p := ⟨b, _, none⟩) lbb).trans c2
          have y2 := (hd.cell (p := ⟨b1, _, none⟩) lb1).trans y2
          have c3 := (hd.cell (p := ⟨b, _, none⟩) lbb).trans c3
          have y3 := (hd.cell (p := ⟨b1, _, none⟩) lb1).trans y3
          have c4 := (hd.cell (p := ⟨b, _, none⟩) lbb).trans c4
          have y4 := (hd.cell (p := ⟨b1, _, none⟩) lb1).trans y4
          have c5 := (hd.cell (p := ⟨b, _, none⟩) lbb).trans c5
          have y5 := (hd.cell (p := ⟨b1, _, none⟩) lb1).trans y5
          have d0 := (hd.cell (p := ⟨w.heap.size, _, none⟩) lB).trans d0
          have d1 := (hd.cell (p := ⟨w.heap.size, _, none⟩) lB).trans d1
          have d2 := (hd.cell (p := ⟨w.heap.size, _, none⟩) lB).trans d2
          have d3 := (hd.cell (p := ⟨w.heap.size, _, none⟩) lB).trans d3
          have lbb : Lt b W5 := Nat.lt_of_lt_of_le lbb hd.size
          have lb1 : Lt b1 W5 := Nat.lt_of_lt_of_le lb1 hd.size
          have lB : Lt w.heap.size W5 := Nat.lt_of_lt_of_le lB hd.size
          go_upto_region 14 with (fail)
          refine wp_region_later (by kernel_rfl) (by kernel_rfl) ?_
          simp only [List.append_eq, List.cons_append, List.nil_append]
          (repeat (go_big_quiet_step (fail))); refine wpQuiet_nil ?_; intro d2
          have hd2 := later_ext d2
          go_wp2
          go_roundw
          case rel => exact ⟨k + 1, by omega, by go_num, by rw [HN.out], (hE.tr hd).tr hd2⟩
          case measure => simp [intOf]; omega
        · have hq : eqT x.t t = false := by rw [Bool.eq_false_iff]; exact fun e => he (eqT_iff.1 e)
          rw [if_neg (by rw [hq]; simp)] at hy
          have HN := Lib.hid (hS.trans hq)
          have HNE := Lib.hid (show (x.t.a == t.a && x.t.b == t.b && x.t.c == t.c && x.t.d == t.d) = false from hq)
          cases hy
          clear he hq hS hxM
          go_upto_region 12 with (fail)
          refine wp_region_later (by kernel_rfl) (by kernel_rfl) ?_; (repeat (go_big_quiet_step (fail))); refine wpQuiet_nil ?_; intro d
          have hd := later_ext d
          rw [HNE.out]
          obtain ⟨W5, hW5⟩ : ∃ W5, later d = W5 := ⟨_, rfl⟩
          rw [hW5] at hd ⊢
          clear hW5
          have c0 := (hd.cell (p := ⟨b, _, none⟩) lbb).trans c0
          have y0 := (hd.cell (p := ⟨b1, _, none⟩) lb1).trans y0
          have c1 := (hd.cell (p := ⟨b, _, none⟩) lbb).trans c1
          have y1 := (hd.cell (p := ⟨b1, _, none⟩) lb1).trans y1
          have c2 := (hd.cell (p := ⟨b, _, none⟩) lbb).trans c2
          have y2 := (hd.cell (p := ⟨b1, _, none⟩) lb1).trans y2
          have c3 := (hd.cell (p := ⟨b, _, none⟩) lbb).trans c3
          have y3 := (hd.cell (p := ⟨b1, _, none⟩) lb1).trans y3
          have c4 := (hd.cell (p := ⟨b, _, none⟩) lbb).trans c4
          have y4 := (hd.cell (p := ⟨b1, _, none⟩) lb1).trans y4
          have c5 := (hd.cell (p := ⟨b, _, none⟩) lbb).trans c5
          have y5 := (hd.cell (p := ⟨b1, _, none⟩) lb1).trans y5
          have d0 := (hd.cell (p := ⟨w.heap.size, _, none⟩) lB).trans d0
          have d1 := (hd.cell (p := ⟨w.heap.size, _, none⟩) lB).trans d1
          have d2 := (hd.cell (p := ⟨w.heap.size, _, none⟩) lB).trans d2
          have d3 := (hd.cell (p := ⟨w.heap.size, _, none⟩) lB).trans d3
          have lbb : Lt b W5 := Nat.lt_of_lt_of_le lbb hd.size
          have lb1 : Lt b1 W5 := Nat.lt_of_lt_of_le lb1 hd.size
          have lB : Lt w.heap.size W5 := Nat.lt_of_lt_of_le lB hd.size
          go_upto_region 14 with (fail)
          refine wp_region_later (by kernel_rfl) (by kernel_rfl) ?_
          simp only [List.append_eq, List.cons_append, List.nil_append]
          (repeat (go_big_quiet_step (fail))); refine wpQuiet_nil ?_; intro d2
          have hd2 := later_ext d2
          go_wp2
          go_roundw
          case rel => exact ⟨k + 1, by omega, by go_num, by rw [HN.out], (hE.tr hd).tr hd2⟩
          case measure => simp [intOf]; omega
      · skip
        rw [hany, Bool.true_or] at hS
        clear hany
        by_cases he : x.t = t
        · have hq : eqT x.t t = true := eqT_iff.2 he
          rw [if_pos hq] at hy
          have HN := Lib.hid (hS)
          cases hy
          rw [he] at c0 c1 c2 c3 y0 y1 y2 y3
          clear he hq hS
          by_cases q1 : now ≤ x.l
          · skip
            rw [show max x.l (min now 1099511627776) = x.l by omega] at y5
            have k1 : ¬ (x.l < now) := by omega
            have k2 : ¬ ((1099511627776 : Int) < x.l) := by omega
            clear hxM
            go_upto_region 12 with (fail)
            refine wp_region_later (by kernel_rfl) (by kernel_rfl) ?_; (repeat (go_big_quiet_step (fail))); refine wpQuiet_nil ?_; intro d
            have hd := later_ext d
            obtain ⟨W5, hW5⟩ : ∃ W5, later d = W5 := ⟨_, rfl⟩
            rw [hW5] at hd ⊢
            clear hW5
            have c0 := (hd.cell (p := ⟨b, _, none⟩) lbb).trans c0
            have y0 := (hd.cell (p := ⟨b1, _, none⟩) lb1).trans y0
            have c1 := (hd.cell (p := ⟨b, _, none⟩) lbb).trans c1
            have y1 := (hd.cell (p := ⟨b1, _, none⟩) lb1).trans y1
            have c2 := (hd.cell (p := ⟨b, _, none⟩) lbb).trans c2
            have y2 := (hd.cell (p := ⟨b1, _, none⟩) lb1).trans y2
            have c3 := (hd.cell (p := ⟨b, _, none⟩) lbb).trans c3
            have y3 := (hd.cell (p := ⟨b1, _, none⟩) lb1).trans y3
            have c4 := (hd.cell (p := ⟨b, _, none⟩) lbb).trans c4
            have y4 := (hd.cell (p := ⟨b1, _, none⟩) lb1).trans y4
            have c5 := (hd.cell (p := ⟨b, _, none⟩) lbb).trans c5
            have y5 := (hd.cell (p := ⟨b1, _, none⟩) lb1).trans y5
            have d0 := (hd.cell (p := ⟨w.heap.size, _, none⟩) lB).trans d0
            have d1 := (hd.cell (p := ⟨w.heap.size, _, none⟩) lB).trans d1
            have d2 := (hd.cell (p := ⟨w.heap.size, _, none⟩) lB).trans d2
            have d3 := (hd.cell (p := ⟨w.heap.size, _, none⟩) lB).trans d3
            have lbb : Lt b W5 := Nat.lt_of_lt_of_le lbb hd.size
            have lb1 : Lt b1 W5 := Nat.lt_of_lt_of_le lb1 hd.size
            have lB : Lt w.heap.size W5 := Nat.lt_of_lt_of_le lB hd.size
            go_upto_region 14 with (fail)
            refine wp_region_later (by kernel_rfl) (by kernel_rfl) ?_
            simp only [List.append_eq, List.cons_append, List.nil_append]
            (repeat (go_big_quiet_step (fail))); refine wpQuiet_nil ?_; intro d2
            have hd2 := later_ext d2
            go_wp2
            go_roundw
            case rel => exact ⟨k + 1, by omega, by go_num, by rw [HN.out], (hE.tr hd).tr hd2⟩
            case measure => simp [intOf]; omega
  
          by_cases q2 : now ≤ 1099511627776
          · skip
            rw [show max x.l (min now 1099511627776) = now by omega] at y5
            have k1 : x.l < now := by omega
            have k2 : ¬ ((1099511627776 : Int) < now) := by omega
            have k3 : ¬ (now < x.l) := by omega
            have k4 : decide (now < x.l) = false := decide_eq_false k3
            clear hxM
            go_upto_region 12 with (fail)
            refine wp_region_later (by kernel_rfl) (by kernel_rfl) ?_; (repeat (go_big_quiet_step (fail))); refine wpQuiet_nil ?_; intro d
            have hd := later_ext d
            obtain ⟨W5, hW5⟩ : ∃ W5, later d = W5 := ⟨_, rfl⟩
            rw [hW5] at hd ⊢
            clear hW5
            have c0 := (hd.cell (p := ⟨b, _, none⟩) lbb).trans c0
            have y0 := (hd.cell (p := ⟨b1, _, none⟩) lb1).trans y0
            have c1 := (hd.cell (p := ⟨b, _, none⟩) lbb).trans c1
            have y1 := (hd.cell (p := ⟨b1, _, none⟩) lb1).trans y1
            have c2 := (hd.cell (p := ⟨b, _, none⟩) lbb).trans c2
            have y2 := (hd.cell (p := ⟨b1, _, none⟩) lb1).trans y2
            have c3 := (hd.cell (p := ⟨b, _, none⟩) lbb).trans c3
            have y3 := (hd.cell (p := ⟨b1, _, none⟩) lb1).trans y3
            have c4 := (hd.cell (p := ⟨b, _, none⟩) lbb).trans c4
            have y4 := (hd.cell (p := ⟨b1, _, none⟩) lb1).trans y4
            have c5 := (hd.cell (p := ⟨b, _, none⟩) lbb).trans c5
            have y5 := (hd.cell (p := ⟨b1, _, none⟩) lb1).trans y5
            have d0 := (hd.cell (p := ⟨w.heap.size, _, none⟩) lB).trans d0
            have d1 := (hd.cell (p := ⟨w.heap.size, _, none⟩) lB).trans d1
            have d2 := (hd.cell (p := ⟨w.heap.size, _, none⟩) lB).trans d2
            have d3 := (hd.cell (p := ⟨w.heap.size, _, none⟩) lB).trans d3
            have lbb : Lt b W5 := Nat.lt_of_lt_of_le lbb hd.size
            have lb1 : Lt b1 W5 := Nat.lt_of_lt_of_le lb1 hd.size
            have lB : Lt w.heap.size W5 := Nat.lt_of_lt_of_le lB hd.size
            go_upto_region 14 with (fail)
            refine wp_region_later (by kernel_rfl) (by kernel_rfl) ?_
            simp only [List.append_eq, List.cons_append, List.nil_append]
            (repeat (go_big_quiet_step (fail))); refine wpQuiet_nil ?_; intro d2
            have hd2 := later_ext d2
            go_wp2
            go_roundw
            case rel => exact ⟨k + 1, by omega, by go_num, by rw [HN.out], (hE.tr hd).tr hd2⟩
            case measure => simp [intOf]; omega
  
          rw [show max x.l (min now 1099511627776) = 1099511627776 by omega] at y5
          have k1 : x.l < now := by omega
          have k2 : (1099511627776 : Int) < now := by omega
          have k3 : ¬ ((1099511627776 : Int) < x.l) := by omega
          have k4 : decide ((1099511627776 : Int) < x.l) = false := decide_eq_false k3
          clear hxM
          go_upto_region 12 with (fail)
          refine wp_region_later (by kernel_rfl) (by kernel_rfl) ?_; (repeat (go_big_quiet_step (fail))); refine wpQuiet_nil ?_; intro d
          have hd := later_ext d
          obtain ⟨W5, hW5⟩ : ∃ W5, later d = W5 := ⟨_, rfl⟩
          rw [hW5] at hd ⊢
          clear hW5
          have c0 := (hd.cell (p := ⟨b, _, none⟩) lbb).trans c0
          have y0 := (hd.cell (p := ⟨b1, _, none⟩) lb1).trans y0
          have c1 := (hd.cell (p := ⟨b, _, none⟩) lbb).trans c1
          have y1 := (hd.cell (p := ⟨b1, _, none⟩) lb1).trans y1
          have c2 := (hd.cell (p := ⟨b, _, none⟩) lbb).trans c2
          have y2 := (hd.cell (p := ⟨b1, _, none⟩) lb1).trans y2
          have c3 := (hd.cell (p := ⟨b, _, none⟩) lbb).trans c3
          have y3 := (hd.cell (p := ⟨b1, _, none⟩) lb1).trans y3
          have c4 := (hd.cell (p := ⟨b, _, none⟩) lbb).trans c4
          have y4 := (hd.cell (p := ⟨b1, _, none⟩) lb1).trans y4
          have c5 := (hd.cell (p := ⟨b, _, none⟩) lbb).trans c5
          have y5 := (hd.cell (p := ⟨b1, _, none⟩) lb1).trans y5
          have d0 := (hd.cell (p := ⟨w.heap.size, _, none⟩) lB).trans d0
          have d1 := (hd.cell (p := ⟨w.heap.size, _, none⟩) lB).trans d1
          have d2 := (hd.cell (p := ⟨w.heap.size, _, none⟩) lB).trans d2
          have d3 := (hd.cell (p := ⟨w.heap.size, _, none⟩) lB).trans d3
          have lbb : Lt b W5 := Nat.lt_of_lt_of_le lbb hd.size
          have lb1 : Lt b1 W5 := Nat.lt_of_lt_of_le lb1 hd.size
          have lB : Lt w.heap.size W5 := Nat.lt_of_lt_of_le lB hd.size
          go_upto_region 14 with (fail)
          refine wp_region_later (by kernel_rfl) (by kernel_rfl) ?_
          simp only [List.append_eq, List.cons_append, List.nil_append]
          (repeat (go_big_quiet_step (fail))); refine wpQuiet_nil ?_; intro d2
          have hd2 := later_ext d2
          go_wp2
          go_roundw
          case rel => exact ⟨k + 1, by omega, by go_num, by rw [HN.out], (hE.tr hd).tr hd2⟩
          case measure => simp [intOf]; omega
        · have hq : eqT x.t t = false := by rw [Bool.eq_false_iff]; exact fun e => he (eqT_iff.1 e)
          rw [if_neg (by rw [hq]; simp)] at hy
          have HN := Lib.hid (hS)
          have HNE := Lib.hid (show (x.t.a == t.a && x.t.b == t.b && x.t.c == t.c && x.t.d == t.d) = false from hq)
          cases hy
          clear he hq hS hxM
          go_upto_region 12 with (fail)
          refine wp_region_later (by kernel_rfl) (by kernel_rfl) ?_; (repeat (go_big_quiet_step (fail))); refine wpQuiet_nil ?_; intro d
          have hd := later_ext d
          rw [HNE.out]
          obtain ⟨W5, hW5⟩ : ∃ W5, later d = W5 := ⟨_, rfl⟩
          rw [hW5] at hd ⊢
          clear hW5
          have c0 := (hd.cell (p := ⟨b, _, none⟩) lbb).trans c0
          have y0 := (hd.cell (p := ⟨b1, _, none⟩) lb1).trans y0
          have c1 := (hd.cell (p := ⟨b, _, none⟩) lbb).trans c1
          have y1 := (hd.cell (p := ⟨b1, _, none⟩) lb1).trans y1
          have c2 := (hd.cell (p := ⟨b, _, none⟩) lbb).trans c2
          have y2 := (hd.cell (p := ⟨b1, _, none⟩) lb1).trans y2
          have c3 := (hd.cell (p := ⟨b, _, none⟩) lbb).trans c3
          have y3 := (hd.cell (p := ⟨b1, _, none⟩) lb1).trans y3
          have c4 := (hd.cell (p := ⟨b, _, none⟩) lbb).trans c4
          have y4 := (hd.cell (p := ⟨b1, _, none⟩) lb1).trans y4
          have c5 := (hd.cell (p := ⟨b, _, none⟩) lbb).trans c5
          have y5 := (hd.cell (p := ⟨b1, _, none⟩) lb1).trans y5
          have d0 := (hd.cell (p := ⟨w.heap.size, _, none⟩) lB).trans d0
          have d1 := (hd.cell (p := ⟨w.heap.size, _, none⟩) lB).trans d1
          have d2 := (hd.cell (p := ⟨w.heap.size, _, none⟩) lB).trans d2
          have d3 := (hd.cell (p := ⟨w.heap.size, _, none⟩) lB).trans d3
          have lbb : Lt b W5 := Nat.lt_of_lt_of_le lbb hd.size
          have lb1 : Lt b1 W5 := Nat.lt_of_lt_of_le lb1 hd.size
          have lB : Lt w.heap.size W5 := Nat.lt_of_lt_of_le lB hd.size
          go_upto_region 14 with (fail)
          refine wp_region_later (by kernel_rfl) (by kernel_rfl) ?_
          simp only [List.append_eq, List.cons_append, List.nil_append]
          (repeat (go_big_quiet_step (fail))); refine wpQuiet_nil ?_; intro d2
          have hd2 := later_ext d2
          go_wp2
          go_roundw
          case rel => exact ⟨k + 1, by omega, by go_num, by rw [HN.out], (hE.tr hd).tr hd2⟩
          case measure => simp [intOf]; omega
    · have hil : ¬ ((k : Int) < xs.length) := by omega
      have hth : ((xs.take k).any fun x => eqT x.t t) = b := by rw [List.take_of_length_le (by omega)]; exact HTH.out
      rw [hth]
      have E := HE.out.tr hE
      clear hth hE HE
      go_wp2_with ((go_at_call 14; (with_reducible refine (wakes_any _).mono ?_); rintro e WZ ⟨rfl, gZ⟩))
      go_ret
      exact ⟨rfl, E.tr gZ⟩

theorem touch_walk (t : Tu) (now more : Int) (p : Option Addr) (xs : List Co) (c : Nat) (w : World) (hs : SlC w p xs) (hc : xs.length ≤ c) (hr : ∀ x ∈ xs, TuR x.t) (hrt : TuR t) :
    Calls Try.prog 5 #[.slice p xs.length c, tu t.a t.b t.c t.d, .int .i64 now, .int .i64 more] w fun e w' => e = .returned (.bool true) ∧ Ext w w' := by
  cases hg : decide ((60 : Int) < xs.length)
  rotate_left
  · exact touch_great t now more p xs c w hs hc hr hg
  have hl : xs.length ≤ 60 := by have := of_decide_eq_false hg; omega
  cases hrr : rightC xs
  · exact touch_wrong t now more p xs c w hs hc hr hl hrr hg
  have h1 := touch_len xs t now
  have h2 : (withX (touchF more) (withX (touchF now) xs t) t).length = xs.length := by rw [touch_len, touch_len]
  have h3 := touch_ok hrr t
  by_cases hm : now < more
  · exact touch_a t now more p xs c w hs hc hr hl hrr hg _ _ _ hm (Lib.hid rfl) (Lib.hid h1) (Lib.hid rfl) (Lib.hid rfl) (Lib.hid h2) (Lib.hid (by rw [touch_twice hrr, show max now more = more by omega])) (Lib.hid (touch_right hrr)) (Lib.hid (touch_get hrr)) (Lib.hid h3.symm)
  · exact touch_b t now more p xs c w hs hc hr hl hrr hg _ _ _ hm (Lib.hid rfl) (Lib.hid h1) (Lib.hid rfl) (Lib.hid rfl) (Lib.hid h2) (Lib.hid (by rw [touch_twice hrr, show max now more = now by omega])) (Lib.hid (touch_right hrr)) (Lib.hid (touch_get hrr)) (Lib.hid h3.symm)

set_option maxRecDepth 100000 in
theorem connsTouch_lifted (os : Os) (started : os.Started) (H : Type) (enc : TypeId × Value → H) :
    ReturnsInHanded {} Try.checked os 5 .any (Rows.connsTouchSpec.pre6 enc Try.prog Try.f5 Rows.connsTouchRow.domain false) (Rows.connsTouchSpec.post enc Try.prog Try.f5 false true false false) := by
  refine law_lift 4 ownKn started (by kernel_rfl) Try.func5 (ChangeSpec.witness6 (enc := enc) (C := Try.checked) false ⟨#[], #[.slice none 0 0, tu 0 0 0 0, .int .i64 0, .int .i64 0], []⟩ 8 (by kernel_rfl) (by kernel_rfl) (by kernel_rfl) (by kernel_rfl)) laidOut rfl (by kernel_rfl) Try.underlying4 ?_ (by kernel_rfl) ?_
  · intro ds h
    match ds, h with
    | [d0, d1, d2, d3], _ => rfl
  · intro W base args ds p hval hA hlt
    have hval' : ∀ (j : Nat) t v, Try.f5.params[j]? = some t → args[j]? = some v → Value.okWide Try.prog W .any base t v := hval
    have hA' : DataW.TrodAll enc Try.prog W 0 (fun _ => true) true Try.f5.params.toList args.toList ds p := hA
    rw [Try.params5] at hA' hval'
    obtain ⟨v0, vs0, d0, ds0, p0, q0, hargs, rfl, rfl, h0, r0⟩ := trodAll_cons hA'
    obtain ⟨v1, vs1, d1, ds1, p1, q1, rfl, rfl, rfl, h1, r1⟩ := trodAll_cons r0
    obtain ⟨v2, vs2, d2, ds2, p2, q2, rfl, rfl, rfl, h2, r2⟩ := trodAll_cons r1
    obtain ⟨v3, vs3, d3, ds3, p3, q3, rfl, rfl, rfl, h3, r3⟩ := trodAll_cons r2
    obtain ⟨rfl, rfl, rfl⟩ := trodAll_nil r3
    obtain rfl : args = #[v0, v1, v2, v3] := by cases args; simp_all
    obtain ⟨p_, xs, c_, rfl, hs_, hc_, hr_⟩ := open_C (hval' 0 _ v0 rfl rfl) h0
    obtain ⟨t, rfl, ht_⟩ := open_tu (hval' 1 _ v1 rfl rfl) h1
    obtain ⟨now, rfl, _, _, w_now⟩ := open_int Try.underlying3 (hval' 2 _ v2 rfl rfl) h2
    obtain ⟨more, rfl, _, _, w_more⟩ := open_int Try.underlying3 (hval' 3 _ v3 rfl rfl) h3
    exact touch_walk t now more p_ xs c_ W hs_ hc_ hr_ ht_

theorem connsTouch_holds : Rows.ConnsTouchSaid :=
  OpenClaim.holds_of_wide 5 Try.f5 rfl rfl rfl rfl rfl rfl rfl ⟨rfl, rfl, rfl, rfl, rfl⟩ rfl rfl rfl rfl rfl (by kernel_rfl) Try.func5 (by kernel_rfl)
    (of_decide_eq_true (by kernel_rfl)) (by unfold Func.isWrapper; first | (rw [if_pos (by decide +kernel)]; kernel_rfl) | (rw [if_neg (by decide +kernel)]; exact ⟨rfl, rfl⟩))
    (fun os started H enc _ => connsTouch_lifted os started H enc)
#print axioms connsTouch_holds

end Go.Proofs.Ytookffaojlkfaaa
