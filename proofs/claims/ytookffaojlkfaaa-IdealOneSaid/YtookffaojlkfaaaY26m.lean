/- IdealOne. -/
import Derived.Test.YtookffaojlkfaaaY25m
import Derived.Test.YtookffaojlkfaaaRows
set_option linter.unusedSimpArgs false
set_option linter.unusedVariables false
namespace Go.Proofs.Ytookffaojlkfaaa
open Go.ChangeShapes Go.WideShapes Go.ChangeAt Go.RowKit

attribute [local go_sem] beq_self_eq_true bne_self_eq_false
theorem owner_A {x : Tu} {A : List Ho} {p1 : Option Addr} {c1 : Nat} {o : Int} (hP : RtP A) (hl : A.length ≤ 1000) (h : ownI A x = o) : ∀ W, SlH W p1 A → Calls Try.prog 40 #[.slice p1 A.length c1, tu x.a x.b x.c x.d] W fun e w' => e = .returned (.tuple #[.int .i64 o, .bool (decide (0 ≤ o))]) ∧ Ext W w' := fun W s => by
  have := owner_any x p1 A c1 W s hl
  rw [own_has hP, h] at this
  exact this
set_option maxRecDepth 100000 in
set_option maxHeartbeats 4000000 in
theorem one_great (q : Option Addr) (es : List Ev) (d : Nat) (x : Tu) (w : World) (hs : SlE w q es) (g1 : decide ((40 : Int) < es.length) = true) :
    Calls Try.prog 9 #[.slice q es.length d, tu x.a x.b x.c x.d] w fun e w' => e = .returned (.bool true) ∧ Ext w w' := by
  go_enter Try.func9, Try.ntmps9
  go_upto_region 1 with (fail)
  obtain ⟨W0, hW⟩ : ∃ W0, w.alloc (.cells #[.int .u32 x.a, .int .u32 x.b, .int .u16 x.c, .int .u16 x.d] 26) = W0 := ⟨_, rfl⟩
  have E : Ext w W0 := by rw [← hW]; exact Ext.al (Ext.rf _) _
  have ht : TuAt W0 w.heap.size x := by rw [← hW]; unfold TuAt; simp [go_sem, Lt]
  have se := hs.ext E
  rw [hW]
  clear hW hs
  go_wp2_with ((go_at_call 35; (with_reducible refine (wakes26_any _).mono ?_); rintro e WZ ⟨rfl, gZ⟩))
  go_ret
  exact ⟨rfl, E.tr gZ⟩

set_option maxRecDepth 100000 in
set_option maxHeartbeats 32000000 in
theorem one_some (q : Option Addr) (es : List Ev) (d : Nat) (x : Tu) (w : World) (hs : SlE w q es) (g1 : decide ((40 : Int) < es.length) = false) (hre : ∀ e ∈ es, TuR e.t) (hrx : TuR x) :
    Calls Try.prog 9 #[.slice q es.length d, tu x.a x.b x.c x.d] w fun e w' => e = .returned (.bool true) ∧ Ext w w' := by
  have hl40 : es.length ≤ 40 := by have := of_decide_eq_false g1; omega
  have HRE := Lib.hid hre
  clear hre hrx
  go_enter Try.func9, Try.ntmps9
  go_upto_region 1 with (fail)
  obtain ⟨W0, hW⟩ : ∃ W0, w.alloc (.cells #[.int .u32 x.a, .int .u32 x.b, .int .u16 x.c, .int .u16 x.d] 26) = W0 := ⟨_, rfl⟩
  have E : Ext w W0 := by rw [← hW]; exact Ext.al (Ext.rf _) _
  have ht : TuAt W0 w.heap.size x := by rw [← hW]; unfold TuAt; simp [go_sem, Lt]
  have se := hs.ext E
  rw [hW]
  clear hW hs
  have HSE := Lib.hid se
  have HT := Lib.hid ht
  have E0 := Lib.hid E
  clear se ht E
  go_wp2
  go_loopw [5, 6, 7, 8, 9, 10, 11, 12] (fun v ow a _ _ _ _ _ wr => ∃ (k : Nat) (ys : List Ho) (o : Int), k ≤ es.length ∧ a = .int .i64 k ∧ ow = .int .i64 o ∧ (∃ p c, v = .slice p ys.length c ∧ SlH wr p ys) ∧ ownI ys x = o ∧ RtP ys ∧ ys.length ≤ k ∧ (∀ y ∈ ys, TuR y.t) ∧ Ext W0 wr) (fun _ _ a _ _ _ _ _ _ => es.length - (intOf a).toNat)
  case atStart => exact ⟨0, [], -1, Nat.zero_le _, rfl, rfl, ⟨none, 0, rfl, SlH.nil _ _⟩, rfl, RtP.nil, Nat.le_refl _, (fun y h => by cases h), Ext.rf _⟩
  case round =>
    obtain ⟨k, ys, o, hk, rfl, rfl, ⟨py, cy, rfl, sy⟩, ho, hP, hlen, hry, E⟩ := hrel
    by_cases hlt : k < es.length
    · have hil : (k : Int) < es.length := by omega
      obtain ⟨b, off, rfl, hb, c0, c1, c2, c3, c4, c5⟩ := (HSE.out.ext E) k hlt
      obtain ⟨e, hx⟩ : ∃ e, es[k] = e := ⟨_, rfl⟩
      have hre := HRE.out e (by rw [← hx]; exact List.getElem_mem hlt)
      rw [hx] at c0 c1 c2 c3 c4 c5
      have lbb : Lt b wr := hb
      have ht := HT.out.ext E
      obtain ⟨O', hC, hO'⟩ := one_cases hP e x
      have HPA := Lib.hid (step_P hP e)
      have hlA := step_len ys e
      have HRA := Lib.hid (show ∀ y ∈ (stepH ys e).1, TuR y.t from fun y hy => by
        rcases step_mem hy with h | h
        · rw [h]; exact hre
        · exact hry y h)
      have HNO := Lib.hid (fun (h : (stepH ys e).2 = false) => step_not h)
      have HST := Lib.hid (fun W (s : SlH W py ys) => step_g (c := cy) (e := e) s rfl (by omega) rfl rfl rfl)
      have HO := Lib.hid ho
      clear hx hb hre hry hP
      generalize hA : (stepH ys e).1 = A at *
      generalize hB : (stepH ys e).2 = ok at *
      have HOA := Lib.hid hO'
      clear hA hB hO'
      have HRT := Lib.hid ((rightH_P A).2 HPA.out)
      have HOW := Lib.hid (fun (p1 : Option Addr) (c1 : Nat) => owner_A (p1 := p1) (c1 := c1) HPA.out (by omega) HOA.out)
      have HSAME := Lib.hid (fun (h : ok = false) (p1 : Option Addr) (c1 : Nat) W (s1 : SlH W p1 A) (s2 : SlH W py ys) => by
        have e := HNO.out h
        have := same_H p1 py A ys c1 cy W s1 s2 (by omega) (by omega)
        rw [decide_eq_true e] at this
        exact this)
      go_upto_region 9 with (fail)
      obtain ⟨Wb, hW⟩ : ∃ Wb, wr.alloc (.cells #[.int .u8 e.k, .int .i64 e.n, .int .u32 e.t.a, .int .u32 e.t.b, .int .u16 e.t.c, .int .u16 e.t.d] 52) = Wb := ⟨_, rfl⟩
      have gb : Ext wr Wb := by rw [← hW]; exact Ext.al (Ext.rf _) _
      have he : EvAt Wb wr.heap.size e := by rw [← hW]; unfold EvAt; simp [go_sem, Lt]
      rw [hW]
      replace sy := sy.ext gb
      replace ht := ht.ext gb
      replace E := E.tr gb
      clear hW c0 c1 c2 c3 c4 c5 lbb gb
      generalize wr.heap.size = BX at *
      obtain ⟨c0, c1, c2, c3, c4, c5⟩ := he.cells
      have lA : Lt BX Wb := he.2
      obtain ⟨d0, d1, d2, d3⟩ := ht.cells
      have lB : Lt w.heap.size Wb := ht.2
      go_upto_region 10 with (go_at_call 36; go_must (with_reducible refine (HST.out _ sy).mono ?_); rintro r W1 ⟨p1, m1, rfl, s1, -, g⟩; replace E := E.tr g; replace sy := sy.ext g; replace he := he.ext g; replace ht := ht.ext g)
      clear g c0 c1 c2 c3 c4 c5 lA d0 d1 d2 d3 lB
      obtain ⟨c0, c1, c2, c3, c4, c5⟩ := he.cells
      have lA : Lt BX _ := he.2
      obtain ⟨d0, d1, d2, d3⟩ := ht.cells
      have lB : Lt w.heap.size _ := ht.2
      replace HOW := Lib.hid (HOW.out p1 m1)
      replace HSAME := Lib.hid (fun (h : ok = false) => HSAME.out h p1 m1)
      have HC := hC
      clear hC
      subst ho
      cases HC with
      | no  =>
          have HSM := Lib.hid (HSAME.out rfl)
          go_upto_region 12 with (first | (go_at_call 44; go_must (with_reducible refine (rrighth_any p1 A m1 _ s1 (by omega) HRA.out).mono ?_); rw [HRT.out]; rintro r W1 ⟨rfl, g⟩; replace E := E.tr g; replace sy := sy.ext g; replace s1 := s1.ext g; replace he := he.ext g; replace ht := ht.ext g) | (go_at_call 42; go_must (with_reducible refine (HSM.out _ s1 sy).mono ?_); rintro r W2 ⟨rfl, g2⟩; replace g := g.tr g2; replace E := E.tr g2; replace sy := sy.ext g2; replace s1 := s1.ext g2; replace he := he.ext g2; replace ht := ht.ext g2))
          clear g c0 c1 c2 c3 c4 c5 lA d0 d1 d2 d3 lB
          obtain ⟨c0, c1, c2, c3, c4, c5⟩ := he.cells
          have lA : Lt BX _ := he.2
          obtain ⟨d0, d1, d2, d3⟩ := ht.cells
          have lB : Lt w.heap.size _ := ht.2
          go_upto_region 22 with (go_at_call 40; go_must (with_reducible refine (HOW.out _ s1).mono ?_); rintro r W3 ⟨rfl, g⟩; replace E := E.tr g; replace sy := sy.ext g; replace s1 := s1.ext g; replace he := he.ext g; replace ht := ht.ext g)
          clear g c0 c1 c2 c3 c4 c5 lA d0 d1 d2 d3 lB
          go_wp2
          go_roundw
          case rel => exact ⟨k + 1, A, (ownI ys x), by omega, by go_num, rfl, ⟨p1, m1, rfl, s1⟩, HOA.out, HPA.out, by omega, HRA.out, E⟩
          case measure => simp [intOf]; omega
      | acc1 hk q hoe =>
          have q1 : (e.k == 1) = true := by rw [hk]; rfl
          have q2 : (e.k == 2) = false := by rw [hk]; rfl
          have q3 : (e.k == 3) = false := by rw [hk]; rfl
          have q4 : (e.k == 4) = false := by rw [hk]; rfl
          have q5 : (e.k == 5) = false := by rw [hk]; rfl
          have n5 : (e.k != 5) = true := by rw [hk]; rfl
          have hx : (e.t.a == x.a && e.t.b == x.b && e.t.c == x.c && e.t.d == x.d) = true := q
          have o1 : (ownI ys x == -1) = true := by rw [hoe]; rfl
          go_upto_region 12 with (first | (go_at_call 44; go_must (with_reducible refine (rrighth_any p1 A m1 _ s1 (by omega) HRA.out).mono ?_); rw [HRT.out]; rintro r W1 ⟨rfl, g⟩; replace E := E.tr g; replace sy := sy.ext g; replace s1 := s1.ext g; replace he := he.ext g; replace ht := ht.ext g))
          clear g c0 c1 c2 c3 c4 c5 lA d0 d1 d2 d3 lB
          obtain ⟨c0, c1, c2, c3, c4, c5⟩ := he.cells
          have lA : Lt BX _ := he.2
          obtain ⟨d0, d1, d2, d3⟩ := ht.cells
          have lB : Lt w.heap.size _ := ht.2
          go_upto_region 22 with (go_at_call 40; go_must (with_reducible refine (HOW.out _ s1).mono ?_); rintro r W3 ⟨rfl, g⟩; replace E := E.tr g; replace sy := sy.ext g; replace s1 := s1.ext g; replace he := he.ext g; replace ht := ht.ext g)
          clear g c0 c1 c2 c3 c4 c5 lA d0 d1 d2 d3 lB
          go_wp2
          go_roundw
          case rel => exact ⟨k + 1, A, e.n, by omega, by go_num, rfl, ⟨p1, m1, rfl, s1⟩, HOA.out, HPA.out, by omega, HRA.out, E⟩
          case measure => simp [intOf]; omega
      | acc2 hk q =>
          have q1 : (e.k == 1) = true := by rw [hk]; rfl
          have q2 : (e.k == 2) = false := by rw [hk]; rfl
          have q3 : (e.k == 3) = false := by rw [hk]; rfl
          have q4 : (e.k == 4) = false := by rw [hk]; rfl
          have q5 : (e.k == 5) = false := by rw [hk]; rfl
          have n5 : (e.k != 5) = true := by rw [hk]; rfl
          have hx : (e.t.a == x.a && e.t.b == x.b && e.t.c == x.c && e.t.d == x.d) = false := q
          go_upto_region 12 with (first | (go_at_call 44; go_must (with_reducible refine (rrighth_any p1 A m1 _ s1 (by omega) HRA.out).mono ?_); rw [HRT.out]; rintro r W1 ⟨rfl, g⟩; replace E := E.tr g; replace sy := sy.ext g; replace s1 := s1.ext g; replace he := he.ext g; replace ht := ht.ext g))
          clear g c0 c1 c2 c3 c4 c5 lA d0 d1 d2 d3 lB
          obtain ⟨c0, c1, c2, c3, c4, c5⟩ := he.cells
          have lA : Lt BX _ := he.2
          obtain ⟨d0, d1, d2, d3⟩ := ht.cells
          have lB : Lt w.heap.size _ := ht.2
          go_upto_region 22 with (go_at_call 40; go_must (with_reducible refine (HOW.out _ s1).mono ?_); rintro r W3 ⟨rfl, g⟩; replace E := E.tr g; replace sy := sy.ext g; replace s1 := s1.ext g; replace he := he.ext g; replace ht := ht.ext g)
          clear g c0 c1 c2 c3 c4 c5 lA d0 d1 d2 d3 lB
          go_wp2
          go_roundw
          case rel => exact ⟨k + 1, A, (ownI ys x), by omega, by go_num, rfl, ⟨p1, m1, rfl, s1⟩, HOA.out, HPA.out, by omega, HRA.out, E⟩
          case measure => simp [intOf]; omega
      | del1 hk q hoe =>
          have q1 : (e.k == 1) = false := by rw [hk]; rfl
          have q2 : (e.k == 2) = true := by rw [hk]; rfl
          have q3 : (e.k == 3) = false := by rw [hk]; rfl
          have q4 : (e.k == 4) = false := by rw [hk]; rfl
          have q5 : (e.k == 5) = false := by rw [hk]; rfl
          have n5 : (e.k != 5) = true := by rw [hk]; rfl
          have hx : (e.t.a == x.a && e.t.b == x.b && e.t.c == x.c && e.t.d == x.d) = true := q
          have o1 : (ownI ys x == e.n) = true := by rw [hoe]; simp
          replace HOA := Lib.hid (HOA.out.trans hoe)
          go_upto_region 12 with (first | (go_at_call 44; go_must (with_reducible refine (rrighth_any p1 A m1 _ s1 (by omega) HRA.out).mono ?_); rw [HRT.out]; rintro r W1 ⟨rfl, g⟩; replace E := E.tr g; replace sy := sy.ext g; replace s1 := s1.ext g; replace he := he.ext g; replace ht := ht.ext g))
          clear g c0 c1 c2 c3 c4 c5 lA d0 d1 d2 d3 lB
          obtain ⟨c0, c1, c2, c3, c4, c5⟩ := he.cells
          have lA : Lt BX _ := he.2
          obtain ⟨d0, d1, d2, d3⟩ := ht.cells
          have lB : Lt w.heap.size _ := ht.2
          go_upto_region 22 with (go_at_call 40; go_must (with_reducible refine (HOW.out _ s1).mono ?_); rintro r W3 ⟨rfl, g⟩; replace E := E.tr g; replace sy := sy.ext g; replace s1 := s1.ext g; replace he := he.ext g; replace ht := ht.ext g)
          clear g c0 c1 c2 c3 c4 c5 lA d0 d1 d2 d3 lB
          go_wp2
          go_roundw
          case rel => exact ⟨k + 1, A, e.n, by omega, by go_num, rfl, ⟨p1, m1, rfl, s1⟩, HOA.out, HPA.out, by omega, HRA.out, E⟩
          case measure => simp [intOf]; omega
      | del2 hk q =>
          have q1 : (e.k == 1) = false := by rw [hk]; rfl
          have q2 : (e.k == 2) = true := by rw [hk]; rfl
          have q3 : (e.k == 3) = false := by rw [hk]; rfl
          have q4 : (e.k == 4) = false := by rw [hk]; rfl
          have q5 : (e.k == 5) = false := by rw [hk]; rfl
          have n5 : (e.k != 5) = true := by rw [hk]; rfl
          have hx : (e.t.a == x.a && e.t.b == x.b && e.t.c == x.c && e.t.d == x.d) = false := q
          go_upto_region 12 with (first | (go_at_call 44; go_must (with_reducible refine (rrighth_any p1 A m1 _ s1 (by omega) HRA.out).mono ?_); rw [HRT.out]; rintro r W1 ⟨rfl, g⟩; replace E := E.tr g; replace sy := sy.ext g; replace s1 := s1.ext g; replace he := he.ext g; replace ht := ht.ext g))
          clear g c0 c1 c2 c3 c4 c5 lA d0 d1 d2 d3 lB
          obtain ⟨c0, c1, c2, c3, c4, c5⟩ := he.cells
          have lA : Lt BX _ := he.2
          obtain ⟨d0, d1, d2, d3⟩ := ht.cells
          have lB : Lt w.heap.size _ := ht.2
          go_upto_region 22 with (go_at_call 40; go_must (with_reducible refine (HOW.out _ s1).mono ?_); rintro r W3 ⟨rfl, g⟩; replace E := E.tr g; replace sy := sy.ext g; replace s1 := s1.ext g; replace he := he.ext g; replace ht := ht.ext g)
          clear g c0 c1 c2 c3 c4 c5 lA d0 d1 d2 d3 lB
          go_wp2
          go_roundw
          case rel => exact ⟨k + 1, A, (ownI ys x), by omega, by go_num, rfl, ⟨p1, m1, rfl, s1⟩, HOA.out, HPA.out, by omega, HRA.out, E⟩
          case measure => simp [intOf]; omega
      | clo1 hk q hoe =>
          rcases hk with hk | hk
          · have q1 : (e.k == 1) = false := by rw [hk]; rfl
            have q2 : (e.k == 2) = false := by rw [hk]; rfl
            have q3 : (e.k == 3) = true := by rw [hk]; rfl
            have q4 : (e.k == 4) = false := by rw [hk]; rfl
            have q5 : (e.k == 5) = false := by rw [hk]; rfl
            have n5 : (e.k != 5) = true := by rw [hk]; rfl
            have hx : (e.t.a == x.a && e.t.b == x.b && e.t.c == x.c && e.t.d == x.d) = true := q
            have o1 : (ownI ys x == e.n) = true := by rw [hoe]; simp
            go_upto_region 12 with (first | (go_at_call 44; go_must (with_reducible refine (rrighth_any p1 A m1 _ s1 (by omega) HRA.out).mono ?_); rw [HRT.out]; rintro r W1 ⟨rfl, g⟩; replace E := E.tr g; replace sy := sy.ext g; replace s1 := s1.ext g; replace he := he.ext g; replace ht := ht.ext g))
            clear g c0 c1 c2 c3 c4 c5 lA d0 d1 d2 d3 lB
            obtain ⟨c0, c1, c2, c3, c4, c5⟩ := he.cells
            have lA : Lt BX _ := he.2
            obtain ⟨d0, d1, d2, d3⟩ := ht.cells
            have lB : Lt w.heap.size _ := ht.2
            go_upto_region 22 with (go_at_call 40; go_must (with_reducible refine (HOW.out _ s1).mono ?_); rintro r W3 ⟨rfl, g⟩; replace E := E.tr g; replace sy := sy.ext g; replace s1 := s1.ext g; replace he := he.ext g; replace ht := ht.ext g)
            clear g c0 c1 c2 c3 c4 c5 lA d0 d1 d2 d3 lB
            go_wp2
            go_roundw
            case rel => exact ⟨k + 1, A, (-1), by omega, by go_num, rfl, ⟨p1, m1, rfl, s1⟩, HOA.out, HPA.out, by omega, HRA.out, E⟩
            case measure => simp [intOf]; omega
          · have q1 : (e.k == 1) = false := by rw [hk]; rfl
            have q2 : (e.k == 2) = false := by rw [hk]; rfl
            have q3 : (e.k == 3) = false := by rw [hk]; rfl
            have q4 : (e.k == 4) = true := by rw [hk]; rfl
            have q5 : (e.k == 5) = false := by rw [hk]; rfl
            have n5 : (e.k != 5) = true := by rw [hk]; rfl
            have hx : (e.t.a == x.a && e.t.b == x.b && e.t.c == x.c && e.t.d == x.d) = true := q
            have o1 : (ownI ys x == e.n) = true := by rw [hoe]; simp
            go_upto_region 12 with (first | (go_at_call 44; go_must (with_reducible refine (rrighth_any p1 A m1 _ s1 (by omega) HRA.out).mono ?_); rw [HRT.out]; rintro r W1 ⟨rfl, g⟩; replace E := E.tr g; replace sy := sy.ext g; replace s1 := s1.ext g; replace he := he.ext g; replace ht := ht.ext g))
            clear g c0 c1 c2 c3 c4 c5 lA d0 d1 d2 d3 lB
            obtain ⟨c0, c1, c2, c3, c4, c5⟩ := he.cells
            have lA : Lt BX _ := he.2
            obtain ⟨d0, d1, d2, d3⟩ := ht.cells
            have lB : Lt w.heap.size _ := ht.2
            go_upto_region 22 with (go_at_call 40; go_must (with_reducible refine (HOW.out _ s1).mono ?_); rintro r W3 ⟨rfl, g⟩; replace E := E.tr g; replace sy := sy.ext g; replace s1 := s1.ext g; replace he := he.ext g; replace ht := ht.ext g)
            clear g c0 c1 c2 c3 c4 c5 lA d0 d1 d2 d3 lB
            go_wp2
            go_roundw
            case rel => exact ⟨k + 1, A, (-1), by omega, by go_num, rfl, ⟨p1, m1, rfl, s1⟩, HOA.out, HPA.out, by omega, HRA.out, E⟩
            case measure => simp [intOf]; omega
      | clo2 hk q =>
          rcases hk with hk | hk
          · have q1 : (e.k == 1) = false := by rw [hk]; rfl
            have q2 : (e.k == 2) = false := by rw [hk]; rfl
            have q3 : (e.k == 3) = true := by rw [hk]; rfl
            have q4 : (e.k == 4) = false := by rw [hk]; rfl
            have q5 : (e.k == 5) = false := by rw [hk]; rfl
            have n5 : (e.k != 5) = true := by rw [hk]; rfl
            have hx : (e.t.a == x.a && e.t.b == x.b && e.t.c == x.c && e.t.d == x.d) = false := q
            go_upto_region 12 with (first | (go_at_call 44; go_must (with_reducible refine (rrighth_any p1 A m1 _ s1 (by omega) HRA.out).mono ?_); rw [HRT.out]; rintro r W1 ⟨rfl, g⟩; replace E := E.tr g; replace sy := sy.ext g; replace s1 := s1.ext g; replace he := he.ext g; replace ht := ht.ext g))
            clear g c0 c1 c2 c3 c4 c5 lA d0 d1 d2 d3 lB
            obtain ⟨c0, c1, c2, c3, c4, c5⟩ := he.cells
            have lA : Lt BX _ := he.2
            obtain ⟨d0, d1, d2, d3⟩ := ht.cells
            have lB : Lt w.heap.size _ := ht.2
            go_upto_region 22 with (go_at_call 40; go_must (with_reducible refine (HOW.out _ s1).mono ?_); rintro r W3 ⟨rfl, g⟩; replace E := E.tr g; replace sy := sy.ext g; replace s1 := s1.ext g; replace he := he.ext g; replace ht := ht.ext g)
            clear g c0 c1 c2 c3 c4 c5 lA d0 d1 d2 d3 lB
            go_wp2
            go_roundw
            case rel => exact ⟨k + 1, A, (ownI ys x), by omega, by go_num, rfl, ⟨p1, m1, rfl, s1⟩, HOA.out, HPA.out, by omega, HRA.out, E⟩
            case measure => simp [intOf]; omega
          · have q1 : (e.k == 1) = false := by rw [hk]; rfl
            have q2 : (e.k == 2) = false := by rw [hk]; rfl
            have q3 : (e.k == 3) = false := by rw [hk]; rfl
            have q4 : (e.k == 4) = true := by rw [hk]; rfl
            have q5 : (e.k == 5) = false := by rw [hk]; rfl
            have n5 : (e.k != 5) = true := by rw [hk]; rfl
            have hx : (e.t.a == x.a && e.t.b == x.b && e.t.c == x.c && e.t.d == x.d) = false := q
            go_upto_region 12 with (first | (go_at_call 44; go_must (with_reducible refine (rrighth_any p1 A m1 _ s1 (by omega) HRA.out).mono ?_); rw [HRT.out]; rintro r W1 ⟨rfl, g⟩; replace E := E.tr g; replace sy := sy.ext g; replace s1 := s1.ext g; replace he := he.ext g; replace ht := ht.ext g))
            clear g c0 c1 c2 c3 c4 c5 lA d0 d1 d2 d3 lB
            obtain ⟨c0, c1, c2, c3, c4, c5⟩ := he.cells
            have lA : Lt BX _ := he.2
            obtain ⟨d0, d1, d2, d3⟩ := ht.cells
            have lB : Lt w.heap.size _ := ht.2
            go_upto_region 22 with (go_at_call 40; go_must (with_reducible refine (HOW.out _ s1).mono ?_); rintro r W3 ⟨rfl, g⟩; replace E := E.tr g; replace sy := sy.ext g; replace s1 := s1.ext g; replace he := he.ext g; replace ht := ht.ext g)
            clear g c0 c1 c2 c3 c4 c5 lA d0 d1 d2 d3 lB
            go_wp2
            go_roundw
            case rel => exact ⟨k + 1, A, (ownI ys x), by omega, by go_num, rfl, ⟨p1, m1, rfl, s1⟩, HOA.out, HPA.out, by omega, HRA.out, E⟩
            case measure => simp [intOf]; omega
      | kil1 hk hoe =>
          have q1 : (e.k == 1) = false := by rw [hk]; rfl
          have q2 : (e.k == 2) = false := by rw [hk]; rfl
          have q3 : (e.k == 3) = false := by rw [hk]; rfl
          have q4 : (e.k == 4) = false := by rw [hk]; rfl
          have q5 : (e.k == 5) = true := by rw [hk]; rfl
          have n5 : (e.k != 5) = false := by rw [hk]; rfl
          have o1 : (e.n == ownI ys x) = true := by rw [hoe]; simp
          cases hx : (e.t.a == x.a && e.t.b == x.b && e.t.c == x.c && e.t.d == x.d)
          · go_upto_region 12 with (first | (go_at_call 44; go_must (with_reducible refine (rrighth_any p1 A m1 _ s1 (by omega) HRA.out).mono ?_); rw [HRT.out]; rintro r W1 ⟨rfl, g⟩; replace E := E.tr g; replace sy := sy.ext g; replace s1 := s1.ext g; replace he := he.ext g; replace ht := ht.ext g))
            clear g c0 c1 c2 c3 c4 c5 lA d0 d1 d2 d3 lB
            obtain ⟨c0, c1, c2, c3, c4, c5⟩ := he.cells
            have lA : Lt BX _ := he.2
            obtain ⟨d0, d1, d2, d3⟩ := ht.cells
            have lB : Lt w.heap.size _ := ht.2
            go_upto_region 22 with (go_at_call 40; go_must (with_reducible refine (HOW.out _ s1).mono ?_); rintro r W3 ⟨rfl, g⟩; replace E := E.tr g; replace sy := sy.ext g; replace s1 := s1.ext g; replace he := he.ext g; replace ht := ht.ext g)
            clear g c0 c1 c2 c3 c4 c5 lA d0 d1 d2 d3 lB
            go_wp2
            go_roundw
            case rel => exact ⟨k + 1, A, (-1), by omega, by go_num, rfl, ⟨p1, m1, rfl, s1⟩, HOA.out, HPA.out, by omega, HRA.out, E⟩
            case measure => simp [intOf]; omega
          · go_upto_region 12 with (first | (go_at_call 44; go_must (with_reducible refine (rrighth_any p1 A m1 _ s1 (by omega) HRA.out).mono ?_); rw [HRT.out]; rintro r W1 ⟨rfl, g⟩; replace E := E.tr g; replace sy := sy.ext g; replace s1 := s1.ext g; replace he := he.ext g; replace ht := ht.ext g))
            clear g c0 c1 c2 c3 c4 c5 lA d0 d1 d2 d3 lB
            obtain ⟨c0, c1, c2, c3, c4, c5⟩ := he.cells
            have lA : Lt BX _ := he.2
            obtain ⟨d0, d1, d2, d3⟩ := ht.cells
            have lB : Lt w.heap.size _ := ht.2
            go_upto_region 22 with (go_at_call 40; go_must (with_reducible refine (HOW.out _ s1).mono ?_); rintro r W3 ⟨rfl, g⟩; replace E := E.tr g; replace sy := sy.ext g; replace s1 := s1.ext g; replace he := he.ext g; replace ht := ht.ext g)
            clear g c0 c1 c2 c3 c4 c5 lA d0 d1 d2 d3 lB
            go_wp2
            go_roundw
            case rel => exact ⟨k + 1, A, (-1), by omega, by go_num, rfl, ⟨p1, m1, rfl, s1⟩, HOA.out, HPA.out, by omega, HRA.out, E⟩
            case measure => simp [intOf]; omega
      | kil2 hk hoe =>
          have q1 : (e.k == 1) = false := by rw [hk]; rfl
          have q2 : (e.k == 2) = false := by rw [hk]; rfl
          have q3 : (e.k == 3) = false := by rw [hk]; rfl
          have q4 : (e.k == 4) = false := by rw [hk]; rfl
          have q5 : (e.k == 5) = true := by rw [hk]; rfl
          have n5 : (e.k != 5) = false := by rw [hk]; rfl
          have o1 : (e.n == ownI ys x) = false := by simp; exact fun h => hoe h.symm
          cases hx : (e.t.a == x.a && e.t.b == x.b && e.t.c == x.c && e.t.d == x.d)
          · go_upto_region 12 with (first | (go_at_call 44; go_must (with_reducible refine (rrighth_any p1 A m1 _ s1 (by omega) HRA.out).mono ?_); rw [HRT.out]; rintro r W1 ⟨rfl, g⟩; replace E := E.tr g; replace sy := sy.ext g; replace s1 := s1.ext g; replace he := he.ext g; replace ht := ht.ext g))
            clear g c0 c1 c2 c3 c4 c5 lA d0 d1 d2 d3 lB
            obtain ⟨c0, c1, c2, c3, c4, c5⟩ := he.cells
            have lA : Lt BX _ := he.2
            obtain ⟨d0, d1, d2, d3⟩ := ht.cells
            have lB : Lt w.heap.size _ := ht.2
            go_upto_region 22 with (go_at_call 40; go_must (with_reducible refine (HOW.out _ s1).mono ?_); rintro r W3 ⟨rfl, g⟩; replace E := E.tr g; replace sy := sy.ext g; replace s1 := s1.ext g; replace he := he.ext g; replace ht := ht.ext g)
            clear g c0 c1 c2 c3 c4 c5 lA d0 d1 d2 d3 lB
            go_wp2
            go_roundw
            case rel => exact ⟨k + 1, A, (ownI ys x), by omega, by go_num, rfl, ⟨p1, m1, rfl, s1⟩, HOA.out, HPA.out, by omega, HRA.out, E⟩
            case measure => simp [intOf]; omega
          · go_upto_region 12 with (first | (go_at_call 44; go_must (with_reducible refine (rrighth_any p1 A m1 _ s1 (by omega) HRA.out).mono ?_); rw [HRT.out]; rintro r W1 ⟨rfl, g⟩; replace E := E.tr g; replace sy := sy.ext g; replace s1 := s1.ext g; replace he := he.ext g; replace ht := ht.ext g))
            clear g c0 c1 c2 c3 c4 c5 lA d0 d1 d2 d3 lB
            obtain ⟨c0, c1, c2, c3, c4, c5⟩ := he.cells
            have lA : Lt BX _ := he.2
            obtain ⟨d0, d1, d2, d3⟩ := ht.cells
            have lB : Lt w.heap.size _ := ht.2
            go_upto_region 22 with (go_at_call 40; go_must (with_reducible refine (HOW.out _ s1).mono ?_); rintro r W3 ⟨rfl, g⟩; replace E := E.tr g; replace sy := sy.ext g; replace s1 := s1.ext g; replace he := he.ext g; replace ht := ht.ext g)
            clear g c0 c1 c2 c3 c4 c5 lA d0 d1 d2 d3 lB
            go_wp2
            go_roundw
            case rel => exact ⟨k + 1, A, (ownI ys x), by omega, by go_num, rfl, ⟨p1, m1, rfl, s1⟩, HOA.out, HPA.out, by omega, HRA.out, E⟩
            case measure => simp [intOf]; omega
    · have hil : ¬ ((k : Int) < es.length) := by omega
      have EE := E0.out.tr E
      clear ho hP sy hry
      go_wp2_with ((go_at_call 35; (with_reducible refine (wakes26_any _).mono ?_); rintro e WZ ⟨rfl, gZ⟩))
      go_ret
      exact ⟨rfl, EE.tr gZ⟩

theorem one_walk (q : Option Addr) (es : List Ev) (d : Nat) (x : Tu) (w : World) (hs : SlE w q es) (hre : ∀ e ∈ es, TuR e.t) (hrx : TuR x) :
    Calls Try.prog 9 #[.slice q es.length d, tu x.a x.b x.c x.d] w fun e w' => e = .returned (.bool true) ∧ Ext w w' := by
  cases g1 : decide ((40 : Int) < es.length)
  · exact one_some q es d x w hs g1 hre hrx
  · exact one_great q es d x w hs g1

set_option maxRecDepth 100000 in
theorem idealOne_lifted (os : Os) (started : os.Started) (H : Type) (enc : TypeId × Value → H) :
    ReturnsInHanded {} Try.checked os 9 .any (Rows.idealOneSpec.pre6 enc Try.prog Try.f9 Rows.idealOneRow.domain false) (Rows.idealOneSpec.post enc Try.prog Try.f9 false true false false) := by
  refine law_lift 4 ownKn started (by kernel_rfl) Try.func9 (ChangeSpec.witness6 (enc := enc) (C := Try.checked) false ⟨#[], #[.slice none 0 0, tu 0 0 0 0], []⟩ 8 (by kernel_rfl) (by kernel_rfl) (by kernel_rfl) (by kernel_rfl)) laidOut rfl (by kernel_rfl) Try.underlying4 ?_ (by kernel_rfl) ?_
  · intro ds h
    match ds, h with
    | [d0, d1], _ => rfl
  · intro W base args ds p hval hA hlt
    have hval' : ∀ (j : Nat) t v, Try.f9.params[j]? = some t → args[j]? = some v → Value.okWide Try.prog W .any base t v := hval
    have hA' : DataW.TrodAll enc Try.prog W 0 (fun _ => true) true Try.f9.params.toList args.toList ds p := hA
    rw [Try.params9] at hA' hval'
    obtain ⟨v0, vs0, d0, ds0, p0, q0, hargs, rfl, rfl, h0, r0⟩ := trodAll_cons hA'
    obtain ⟨v1, vs1, d1, ds1, p1, q1, rfl, rfl, rfl, h1, r1⟩ := trodAll_cons r0
    obtain ⟨rfl, rfl, rfl⟩ := trodAll_nil r1
    obtain rfl : args = #[v0, v1] := by cases args; simp_all
    obtain ⟨q_, es, d_, rfl, hs1, hc1, hr1⟩ := open_E (hval' 0 _ v0 rfl rfl) h0
    obtain ⟨x, rfl, ht_⟩ := open_tu (hval' 1 _ v1 rfl rfl) h1
    exact one_walk q_ es d_ x W hs1 hr1 ht_

theorem idealOne_holds : Rows.IdealOneSaid :=
  OpenClaim.holds_of_wide 9 Try.f9 rfl rfl rfl rfl rfl rfl rfl ⟨rfl, rfl, rfl, rfl, rfl⟩ rfl rfl rfl rfl rfl (by kernel_rfl) Try.func9 (by kernel_rfl)
    (of_decide_eq_true (by kernel_rfl)) (by unfold Func.isWrapper; first | (rw [if_pos (by decide +kernel)]; kernel_rfl) | (rw [if_neg (by decide +kernel)]; exact ⟨rfl, rfl⟩))
    (fun os started H enc _ => idealOne_lifted os started H enc)
#print axioms idealOne_holds

end Go.Proofs.Ytookffaojlkfaaa
