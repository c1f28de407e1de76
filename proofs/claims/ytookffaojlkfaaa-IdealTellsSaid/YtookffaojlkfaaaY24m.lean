/- IdealTells. -/
import Derived.Test.YtookffaojlkfaaaMA9
import Derived.Test.YtookffaojlkfaaaRows
set_option linter.unusedSimpArgs false
set_option linter.unusedVariables false
namespace Go.Proofs.Ytookffaojlkfaaa
open Go.ChangeShapes Go.WideShapes Go.ChangeAt Go.RowKit

attribute [local go_sem] beq_self_eq_true bne_self_eq_false
set_option maxRecDepth 100000 in
set_option maxHeartbeats 16000000 in
theorem tells26_some (p q : Option Addr) (xs ys : List Ho) (c d : Nat) (e : Ev) (r : Option Addr) (es : List Ev) (f : Nat) (t : Tu) (k : Int) (w : World) (hx : SlH w p xs) (hy : SlH w q ys) (he : SlE w r es)
    (g1 : decide ((60 : Int) < xs.length) = false) (g2 : decide ((60 : Int) < ys.length) = false) (g3 : decide ((40 : Int) < es.length) = false)
    (A C : List Ho) (F : List Tu) (a cn fnn m : Nat) (b bb oh rb sb : Bool) (o : Int)
    (HA : Hid (A.length = a)) (HC : Hid (C.length = cn)) (HF : Hid (F.length = fnn)) (b1 : a ≤ 1000 ∧ cn ≤ 1000 ∧ fnn ≤ 1000)
    (wS : Hid (∀ W, SlH W p xs → Calls Try.prog 36 #[.slice p xs.length c, .agg #[.int .u8 e.k, .int .i64 e.n, .int .u32 e.t.a, .int .u32 e.t.b, .int .u16 e.t.c, .int .u16 e.t.d]] W (GetsH A a b W))) (rS : Hid (∀ W, SlH W p xs → Calls Try.prog 37 #[.slice p xs.length c, .agg #[.int .u8 e.k, .int .i64 e.n, .int .u32 e.t.a, .int .u32 e.t.b, .int .u16 e.t.c, .int .u16 e.t.d]] W (GetsH A a b W)))
    (wR : Hid (∀ W, SlH W p xs → SlE W r es → Calls Try.prog 38 #[.slice p xs.length c, .slice r es.length f] W (RunG C cn m bb W))) (rR : Hid (∀ W, SlH W p xs → SlE W r es → Calls Try.prog 39 #[.slice p xs.length c, .slice r es.length f] W (RunG C cn m bb W)))
    (wO : Hid (∀ W, SlH W p xs → Calls Try.prog 40 #[.slice p xs.length c, tu t.a t.b t.c t.d] W fun e w' => e = .returned (.tuple #[.int .i64 o, .bool oh]) ∧ Ext W w')) (rO : Hid (∀ W, SlH W p xs → Calls Try.prog 41 #[.slice p xs.length c, tu t.a t.b t.c t.d] W fun e w' => e = .returned (.tuple #[.int .i64 o, .bool oh]) ∧ Ext W w'))
    (wT : Hid (∀ W, SlH W p xs → Calls Try.prog 43 #[.slice p xs.length c] W fun e w' => e = .returned (.bool rb) ∧ Ext W w')) (rT : Hid (∀ W, SlH W p xs → Calls Try.prog 44 #[.slice p xs.length c] W fun e w' => e = .returned (.bool rb) ∧ Ext W w'))
    (wF : Hid (∀ W, SlH W p xs → Calls Try.prog 46 #[.slice p xs.length c, .int .i64 k] W (OneT F fnn W))) (rF : Hid (∀ W, SlH W p xs → Calls Try.prog 47 #[.slice p xs.length c, .int .i64 k] W (OneT F fnn W)))
    (wM : Hid (∀ W, SlH W p xs → SlH W q ys → Calls Try.prog 48 #[.slice p xs.length c, .slice q ys.length d] W fun e w' => e = .returned (.bool sb) ∧ Ext W w')) (rM : Hid (∀ W, SlH W p xs → SlH W q ys → Calls Try.prog 42 #[.slice p xs.length c, .slice q ys.length d] W fun e w' => e = .returned (.bool sb) ∧ Ext W w')) :
    Calls Try.prog 8 #[.slice p xs.length c, .slice q ys.length d, .agg #[.int .u8 e.k, .int .i64 e.n, .int .u32 e.t.a, .int .u32 e.t.b, .int .u16 e.t.c, .int .u16 e.t.d], .slice r es.length f, tu t.a t.b t.c t.d, .int .i64 k] w fun e w' => e = .returned (.bool true) ∧ Ext w w' := by
  obtain ⟨b1, b2, b3⟩ := b1
  go_enter Try.func8, Try.ntmps8
  go_upto_region 1 with (fail)
  obtain ⟨W0, hW⟩ : ∃ W0, (w.alloc (.cells #[.int .u8 e.k, .int .i64 e.n, .int .u32 e.t.a, .int .u32 e.t.b, .int .u16 e.t.c, .int .u16 e.t.d] 52)).alloc (.cells #[.int .u32 t.a, .int .u32 t.b, .int .u16 t.c, .int .u16 t.d] 26) = W0 := ⟨_, rfl⟩
  have E : Ext w W0 := by rw [← hW]; exact Ext.al (Ext.al (Ext.rf _) _) _
  have ht : TuAt W0 (w.heap.size + 1) t := by rw [← hW]; unfold TuAt; simp [go_sem, Lt]
  have he' : EvAt W0 w.heap.size e := by rw [← hW]; unfold EvAt; simp [go_sem, Lt]
  have sx := hx.ext E
  have sy := hy.ext E
  have se := he.ext E
  rw [hW]
  clear hW hx hy he
  have he := he'
  clear he'
  obtain ⟨c0, c1, c2, c3, c4, c5⟩ := he.cells
  have lA : Lt w.heap.size _ := he.2
  obtain ⟨d0, d1, d2, d3⟩ := ht.cells
  have lB : Lt (w.heap.size + 1) _ := ht.2
  go_upto_region 3 with (fail)
  go_upto_region 4 with (go_at_call 36; go_must (with_reducible refine (wS.out _ sx).mono ?_); rintro r W1 ⟨p1, e1, rfl, s1, -, g⟩; replace E := E.tr g; replace sx := sx.ext g; replace sy := sy.ext g; replace se := se.ext g; replace he := he.ext g; replace ht := ht.ext g)
  clear g c0 c1 c2 c3 c4 c5 lA d0 d1 d2 d3 lB
  obtain ⟨c0, c1, c2, c3, c4, c5⟩ := he.cells
  have lA : Lt w.heap.size _ := he.2
  obtain ⟨d0, d1, d2, d3⟩ := ht.cells
  have lB : Lt (w.heap.size + 1) _ := ht.2
  go_upto_region 5 with (go_at_call 37; go_must (with_reducible refine (rS.out _ sx).mono ?_); rintro r W1 ⟨p2, e2, rfl, s2, -, g⟩; replace E := E.tr g; replace sx := sx.ext g; replace sy := sy.ext g; replace se := se.ext g; replace he := he.ext g; replace ht := ht.ext g; replace s1 := s1.ext g)
  clear g c0 c1 c2 c3 c4 c5 lA d0 d1 d2 d3 lB
  obtain ⟨c0, c1, c2, c3, c4, c5⟩ := he.cells
  have lA : Lt w.heap.size _ := he.2
  obtain ⟨d0, d1, d2, d3⟩ := ht.cells
  have lB : Lt (w.heap.size + 1) _ := ht.2
  go_upto_region 6 with (go_at_call 38; go_must (with_reducible refine (wR.out _ sx se).mono ?_); rintro r W1 ⟨p3, e3, rfl, s3, -, g⟩; replace E := E.tr g; replace sx := sx.ext g; replace sy := sy.ext g; replace se := se.ext g; replace he := he.ext g; replace ht := ht.ext g; replace s1 := s1.ext g; replace s2 := s2.ext g)
  clear g c0 c1 c2 c3 c4 c5 lA d0 d1 d2 d3 lB
  obtain ⟨c0, c1, c2, c3, c4, c5⟩ := he.cells
  have lA : Lt w.heap.size _ := he.2
  obtain ⟨d0, d1, d2, d3⟩ := ht.cells
  have lB : Lt (w.heap.size + 1) _ := ht.2
  go_upto_region 7 with (go_at_call 39; go_must (with_reducible refine (rR.out _ sx se).mono ?_); rintro r W1 ⟨p4, e4, rfl, s4, -, g⟩; replace E := E.tr g; replace sx := sx.ext g; replace sy := sy.ext g; replace se := se.ext g; replace he := he.ext g; replace ht := ht.ext g; replace s1 := s1.ext g; replace s2 := s2.ext g; replace s3 := s3.ext g)
  clear g c0 c1 c2 c3 c4 c5 lA d0 d1 d2 d3 lB
  obtain ⟨c0, c1, c2, c3, c4, c5⟩ := he.cells
  have lA : Lt w.heap.size _ := he.2
  obtain ⟨d0, d1, d2, d3⟩ := ht.cells
  have lB : Lt (w.heap.size + 1) _ := ht.2
  go_upto_region 8 with (go_at_call 40; go_must (with_reducible refine (wO.out _ sx).mono ?_); rintro r W1 ⟨rfl, g⟩; replace E := E.tr g; replace sx := sx.ext g; replace sy := sy.ext g; replace se := se.ext g; replace he := he.ext g; replace ht := ht.ext g; replace s1 := s1.ext g; replace s2 := s2.ext g; replace s3 := s3.ext g; replace s4 := s4.ext g)
  clear g c0 c1 c2 c3 c4 c5 lA d0 d1 d2 d3 lB
  obtain ⟨c0, c1, c2, c3, c4, c5⟩ := he.cells
  have lA : Lt w.heap.size _ := he.2
  obtain ⟨d0, d1, d2, d3⟩ := ht.cells
  have lB : Lt (w.heap.size + 1) _ := ht.2
  go_upto_region 9 with (go_at_call 41; go_must (with_reducible refine (rO.out _ sx).mono ?_); rintro r W1 ⟨rfl, g⟩; replace E := E.tr g; replace sx := sx.ext g; replace sy := sy.ext g; replace se := se.ext g; replace he := he.ext g; replace ht := ht.ext g; replace s1 := s1.ext g; replace s2 := s2.ext g; replace s3 := s3.ext g; replace s4 := s4.ext g)
  clear g c0 c1 c2 c3 c4 c5 lA d0 d1 d2 d3 lB
  obtain ⟨c0, c1, c2, c3, c4, c5⟩ := he.cells
  have lA : Lt w.heap.size _ := he.2
  obtain ⟨d0, d1, d2, d3⟩ := ht.cells
  have lB : Lt (w.heap.size + 1) _ := ht.2
  go_upto_region 11 with (go_at_call 42; (first | (with_reducible refine (sameH_g s1 s2 HA.out (by omega)).mono ?_) | (with_reducible refine (sameH_g s3 s4 HC.out (by omega)).mono ?_)); rintro r W1 ⟨rfl, g⟩; replace E := E.tr g; replace sx := sx.ext g; replace sy := sy.ext g; replace se := se.ext g; replace he := he.ext g; replace ht := ht.ext g; replace s1 := s1.ext g; replace s2 := s2.ext g; replace s3 := s3.ext g; replace s4 := s4.ext g; clear g)
  clear s1 s2 s3 s4
  go_wp2_with (first | (go_at_call 43; (with_reducible refine (wT.out _ sx).mono ?_); rintro r W1 ⟨rfl, g⟩; replace E := E.tr g; replace sx := sx.ext g; replace sy := sy.ext g; clear g) | (go_at_call 44; (with_reducible refine (rT.out _ sx).mono ?_); rintro r W1 ⟨rfl, g⟩; replace E := E.tr g; replace sx := sx.ext g; replace sy := sy.ext g; clear g) | (go_at_call 46; (with_reducible refine (wF.out _ sx).mono ?_); rintro r W1 ⟨p5, e5, rfl, s5, g⟩; replace E := E.tr g; replace sx := sx.ext g; replace sy := sy.ext g; clear g) | (go_at_call 47; (with_reducible refine (rF.out _ sx).mono ?_); rintro r W1 ⟨p6, e6, rfl, s6, g⟩; replace E := E.tr g; replace sx := sx.ext g; replace sy := sy.ext g; replace s5 := s5.ext g; clear g) | (go_at_call 45; (with_reducible refine (allT_g s5 s6 HF.out (by omega)).mono ?_); rintro r W1 ⟨rfl, g⟩; replace E := E.tr g; replace sx := sx.ext g; replace sy := sy.ext g; clear g) | (go_at_call 48; (with_reducible refine (wM.out _ sx sy).mono ?_); rintro r W1 ⟨rfl, g⟩; replace E := E.tr g; replace sx := sx.ext g; replace sy := sy.ext g; clear g) | (go_at_call 42; (with_reducible refine (rM.out _ sx sy).mono ?_); rintro r W1 ⟨rfl, g⟩; replace E := E.tr g; replace sx := sx.ext g; replace sy := sy.ext g; clear g) | (go_at_call 35; (with_reducible refine (wakes26_any _).mono ?_); rintro e WZ ⟨rfl, gZ⟩))
  go_ret
  exact ⟨rfl, E.tr gZ⟩

set_option maxRecDepth 100000 in
set_option maxHeartbeats 4000000 in
theorem tells26_great1 (p q : Option Addr) (xs ys : List Ho) (c d : Nat) (e : Ev) (r : Option Addr) (es : List Ev) (f : Nat) (t : Tu) (k : Int) (w : World) (hx : SlH w p xs) (hy : SlH w q ys) (he : SlE w r es) (g1 : decide ((60 : Int) < xs.length) = true) :
    Calls Try.prog 8 #[.slice p xs.length c, .slice q ys.length d, .agg #[.int .u8 e.k, .int .i64 e.n, .int .u32 e.t.a, .int .u32 e.t.b, .int .u16 e.t.c, .int .u16 e.t.d], .slice r es.length f, tu t.a t.b t.c t.d, .int .i64 k] w fun e w' => e = .returned (.bool true) ∧ Ext w w' := by
  go_enter Try.func8, Try.ntmps8
  go_upto_region 1 with (fail)
  obtain ⟨W0, hW⟩ : ∃ W0, (w.alloc (.cells #[.int .u8 e.k, .int .i64 e.n, .int .u32 e.t.a, .int .u32 e.t.b, .int .u16 e.t.c, .int .u16 e.t.d] 52)).alloc (.cells #[.int .u32 t.a, .int .u32 t.b, .int .u16 t.c, .int .u16 t.d] 26) = W0 := ⟨_, rfl⟩
  have E : Ext w W0 := by rw [← hW]; exact Ext.al (Ext.al (Ext.rf _) _) _
  have ht : TuAt W0 (w.heap.size + 1) t := by rw [← hW]; unfold TuAt; simp [go_sem, Lt]
  have he' : EvAt W0 w.heap.size e := by rw [← hW]; unfold EvAt; simp [go_sem, Lt]
  have sx := hx.ext E
  have sy := hy.ext E
  have se := he.ext E
  rw [hW]
  clear hW hx hy he
  have he := he'
  clear he'
  go_wp2_with ((go_at_call 35; (with_reducible refine (wakes26_any _).mono ?_); rintro e WZ ⟨rfl, gZ⟩))
  go_ret
  exact ⟨rfl, E.tr gZ⟩

set_option maxRecDepth 100000 in
set_option maxHeartbeats 4000000 in
theorem tells26_great2 (p q : Option Addr) (xs ys : List Ho) (c d : Nat) (e : Ev) (r : Option Addr) (es : List Ev) (f : Nat) (t : Tu) (k : Int) (w : World) (hx : SlH w p xs) (hy : SlH w q ys) (he : SlE w r es) (g1 : decide ((60 : Int) < xs.length) = false) (g2 : decide ((60 : Int) < ys.length) = true) :
    Calls Try.prog 8 #[.slice p xs.length c, .slice q ys.length d, .agg #[.int .u8 e.k, .int .i64 e.n, .int .u32 e.t.a, .int .u32 e.t.b, .int .u16 e.t.c, .int .u16 e.t.d], .slice r es.length f, tu t.a t.b t.c t.d, .int .i64 k] w fun e w' => e = .returned (.bool true) ∧ Ext w w' := by
  go_enter Try.func8, Try.ntmps8
  go_upto_region 1 with (fail)
  obtain ⟨W0, hW⟩ : ∃ W0, (w.alloc (.cells #[.int .u8 e.k, .int .i64 e.n, .int .u32 e.t.a, .int .u32 e.t.b, .int .u16 e.t.c, .int .u16 e.t.d] 52)).alloc (.cells #[.int .u32 t.a, .int .u32 t.b, .int .u16 t.c, .int .u16 t.d] 26) = W0 := ⟨_, rfl⟩
  have E : Ext w W0 := by rw [← hW]; exact Ext.al (Ext.al (Ext.rf _) _) _
  have ht : TuAt W0 (w.heap.size + 1) t := by rw [← hW]; unfold TuAt; simp [go_sem, Lt]
  have he' : EvAt W0 w.heap.size e := by rw [← hW]; unfold EvAt; simp [go_sem, Lt]
  have sx := hx.ext E
  have sy := hy.ext E
  have se := he.ext E
  rw [hW]
  clear hW hx hy he
  have he := he'
  clear he'
  go_wp2_with ((go_at_call 35; (with_reducible refine (wakes26_any _).mono ?_); rintro e WZ ⟨rfl, gZ⟩))
  go_ret
  exact ⟨rfl, E.tr gZ⟩

set_option maxRecDepth 100000 in
set_option maxHeartbeats 4000000 in
theorem tells26_great3 (p q : Option Addr) (xs ys : List Ho) (c d : Nat) (e : Ev) (r : Option Addr) (es : List Ev) (f : Nat) (t : Tu) (k : Int) (w : World) (hx : SlH w p xs) (hy : SlH w q ys) (he : SlE w r es) (g1 : decide ((60 : Int) < xs.length) = false) (g2 : decide ((60 : Int) < ys.length) = false) (g3 : decide ((40 : Int) < es.length) = true) :
    Calls Try.prog 8 #[.slice p xs.length c, .slice q ys.length d, .agg #[.int .u8 e.k, .int .i64 e.n, .int .u32 e.t.a, .int .u32 e.t.b, .int .u16 e.t.c, .int .u16 e.t.d], .slice r es.length f, tu t.a t.b t.c t.d, .int .i64 k] w fun e w' => e = .returned (.bool true) ∧ Ext w w' := by
  go_enter Try.func8, Try.ntmps8
  go_upto_region 1 with (fail)
  obtain ⟨W0, hW⟩ : ∃ W0, (w.alloc (.cells #[.int .u8 e.k, .int .i64 e.n, .int .u32 e.t.a, .int .u32 e.t.b, .int .u16 e.t.c, .int .u16 e.t.d] 52)).alloc (.cells #[.int .u32 t.a, .int .u32 t.b, .int .u16 t.c, .int .u16 t.d] 26) = W0 := ⟨_, rfl⟩
  have E : Ext w W0 := by rw [← hW]; exact Ext.al (Ext.al (Ext.rf _) _) _
  have ht : TuAt W0 (w.heap.size + 1) t := by rw [← hW]; unfold TuAt; simp [go_sem, Lt]
  have he' : EvAt W0 w.heap.size e := by rw [← hW]; unfold EvAt; simp [go_sem, Lt]
  have sx := hx.ext E
  have sy := hy.ext E
  have se := he.ext E
  rw [hW]
  clear hW hx hy he
  have he := he'
  clear he'
  go_wp2_with ((go_at_call 35; (with_reducible refine (wakes26_any _).mono ?_); rintro e WZ ⟨rfl, gZ⟩))
  go_ret
  exact ⟨rfl, E.tr gZ⟩

theorem tells26_walk (p q : Option Addr) (xs ys : List Ho) (c d : Nat) (e : Ev) (r : Option Addr) (es : List Ev) (f : Nat) (t : Tu) (k : Int) (w : World) (hx : SlH w p xs) (hy : SlH w q ys) (he : SlE w r es) (hc : xs.length ≤ c) (hrx : ∀ x ∈ xs, TuR x.t) (hre : ∀ e ∈ es, TuR e.t) (hev : TuR e.t) :
    Calls Try.prog 8 #[.slice p xs.length c, .slice q ys.length d, .agg #[.int .u8 e.k, .int .i64 e.n, .int .u32 e.t.a, .int .u32 e.t.b, .int .u16 e.t.c, .int .u16 e.t.d], .slice r es.length f, tu t.a t.b t.c t.d, .int .i64 k] w fun e w' => e = .returned (.bool true) ∧ Ext w w' := by
  cases g1 : decide ((60 : Int) < xs.length)
  rotate_left
  · exact tells26_great1 p q xs ys c d e r es f t k w hx hy he g1
  cases g2 : decide ((60 : Int) < ys.length)
  rotate_left
  · exact tells26_great2 p q xs ys c d e r es f t k w hx hy he g1 g2
  cases g3 : decide ((40 : Int) < es.length)
  rotate_left
  · exact tells26_great3 p q xs ys c d e r es f t k w hx hy he g1 g2 g3
  have l1 : xs.length ≤ 60 := by have := of_decide_eq_false g1; omega
  have l2 : ys.length ≤ 60 := by have := of_decide_eq_false g2; omega
  have l3 : es.length ≤ 40 := by have := of_decide_eq_false g3; omega
  refine tells26_some p q xs ys c d e r es f t k w hx hy he g1 g2 g3 (stepH xs e).1 (runH xs es).1 (ofX xs k) _ _ _ (runH xs es).2.1 (stepH xs e).2 (runH xs es).2.2 (ownHas xs t) (rightH xs) (decide (xs = ys)) (ownI xs t) (Lib.hid rfl) (Lib.hid rfl) (Lib.hid rfl) ?_
    (Lib.hid fun W s => step_g s rfl (by omega) rfl rfl rfl) (Lib.hid fun W s => rstep_g s (by omega) hc hrx hev rfl rfl rfl)
    (Lib.hid fun W s s' => run_g s s' rfl rfl (by omega) rfl rfl rfl rfl) (Lib.hid fun W s s' => rrun_g s s' (by omega) hc hrx hre rfl rfl rfl rfl)
    (Lib.hid fun W s => owner_any t p xs c W s (by omega)) (Lib.hid fun W s => rowner_any t p xs c W s (by omega))
    (Lib.hid fun W s => righth_any p xs c W s (by omega)) (Lib.hid fun W s => rrighth_any p xs c W s (by omega) hrx)
    (Lib.hid fun W s => oft_g s (by omega) rfl rfl) (Lib.hid fun W s => roft_g s (by omega) rfl rfl)
    (Lib.hid fun W s s' => ideal_same_any p q xs ys c d W s s' (by omega) (by omega)) (Lib.hid fun W s s' => same_H p q xs ys c d W s s' (by omega) (by omega))
  have := step_len xs e
  have := runH_len es xs
  have := ofX_len k xs
  refine ⟨by omega, by omega, by omega⟩

set_option maxRecDepth 100000 in
theorem idealTells_lifted (os : Os) (started : os.Started) (H : Type) (enc : TypeId × Value → H) :
    ReturnsInHanded {} Try.checked os 8 .any (Rows.idealTellsSpec.pre6 enc Try.prog Try.f8 Rows.idealTellsRow.domain false) (Rows.idealTellsSpec.post enc Try.prog Try.f8 false true false false) := by
  refine law_lift 4 ownKn started (by kernel_rfl) Try.func8 (ChangeSpec.witness6 (enc := enc) (C := Try.checked) false ⟨#[], #[.slice none 0 0, .slice none 0 0, .agg #[.int .u8 0, .int .i64 0, .int .u32 0, .int .u32 0, .int .u16 0, .int .u16 0], .slice none 0 0, tu 0 0 0 0, .int .i64 0], []⟩ 8 (by kernel_rfl) (by kernel_rfl) (by kernel_rfl) (by kernel_rfl)) laidOut rfl (by kernel_rfl) Try.underlying4 ?_ (by kernel_rfl) ?_
  · intro ds h
    match ds, h with
    | [d0, d1, d2, d3, d4, d5], _ => rfl
  · intro W base args ds p hval hA hlt
    have hval' : ∀ (j : Nat) t v, Try.f8.params[j]? = some t → args[j]? = some v → Value.okWide Try.prog W .any base t v := hval
    have hA' : DataW.TrodAll enc Try.prog W 0 (fun _ => true) true Try.f8.params.toList args.toList ds p := hA
    rw [Try.params8] at hA' hval'
    obtain ⟨v0, vs0, d0, ds0, p0, q0, hargs, rfl, rfl, h0, r0⟩ := trodAll_cons hA'
    obtain ⟨v1, vs1, d1, ds1, p1, q1, rfl, rfl, rfl, h1, r1⟩ := trodAll_cons r0
    obtain ⟨v2, vs2, d2, ds2, p2, q2, rfl, rfl, rfl, h2, r2⟩ := trodAll_cons r1
    obtain ⟨v3, vs3, d3, ds3, p3, q3, rfl, rfl, rfl, h3, r3⟩ := trodAll_cons r2
    obtain ⟨v4, vs4, d4, ds4, p4, q4, rfl, rfl, rfl, h4, r4⟩ := trodAll_cons r3
    obtain ⟨v5, vs5, d5, ds5, p5, q5, rfl, rfl, rfl, h5, r5⟩ := trodAll_cons r4
    obtain ⟨rfl, rfl, rfl⟩ := trodAll_nil r5
    obtain rfl : args = #[v0, v1, v2, v3, v4, v5] := by cases args; simp_all
    obtain ⟨p_, xs, c_, rfl, hs1, hc1, hr1⟩ := open_H (hval' 0 _ v0 rfl rfl) h0
    obtain ⟨q_, ys, d_, rfl, hs2, hc2, hr2⟩ := open_H (hval' 1 _ v1 rfl rfl) h1
    obtain ⟨e, rfl, he_⟩ := open_ev (hval' 2 _ v2 rfl rfl) h2
    obtain ⟨r_, es, f_, rfl, hs4, hc4, hr4⟩ := open_E (hval' 3 _ v3 rfl rfl) h3
    obtain ⟨t, rfl, ht_⟩ := open_tu (hval' 4 _ v4 rfl rfl) h4
    obtain ⟨k, rfl, _, _, w_k⟩ := open_int Try.underlying3 (hval' 5 _ v5 rfl rfl) h5
    exact tells26_walk p_ q_ xs ys c_ d_ e r_ es f_ t k W hs1 hs2 hs4 hc1 hr1 hr4 he_

theorem idealTells_holds : Rows.IdealTellsSaid :=
  OpenClaim.holds_of_wide 8 Try.f8 rfl rfl rfl rfl rfl rfl rfl ⟨rfl, rfl, rfl, rfl, rfl⟩ rfl rfl rfl rfl rfl (by kernel_rfl) Try.func8 (by kernel_rfl)
    (of_decide_eq_true (by kernel_rfl)) (by unfold Func.isWrapper; first | (rw [if_pos (by decide +kernel)]; kernel_rfl) | (rw [if_neg (by decide +kernel)]; exact ⟨rfl, rfl⟩))
    (fun os started H enc _ => idealTells_lifted os started H enc)
#print axioms idealTells_holds

end Go.Proofs.Ytookffaojlkfaaa
