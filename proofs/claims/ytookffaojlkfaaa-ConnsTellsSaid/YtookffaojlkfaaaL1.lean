/- ConnsTells. -/
import Derived.Test.YtookffaojlkfaaaL0
import Derived.Test.YtookffaojlkfaaaRows
set_option linter.unusedSimpArgs false
set_option linter.unusedVariables false
namespace Go.Proofs.Ytookffaojlkfaaa
open Go.ChangeShapes Go.WideShapes Go.ChangeAt Go.RowKit

attribute [local go_sem] beq_self_eq_true bne_self_eq_false
set_option maxRecDepth 100000 in
set_option maxHeartbeats 16000000 in
theorem tells_some (t : Tu) (now bucket idle : Int) (p : Option Addr) (xs : List Co) (c : Nat) (w : World) (hs : SlC w p xs) (hc : xs.length ≤ c) (hr : ∀ x ∈ xs, TuR x.t) (hrt : TuR t) (hid : idle ≤ 9223372036854775807) (hgd : decide ((60 : Int) < xs.length) = false)
    (A T C G L O V : List Co) (a tn cn gn ln on vn : Nat) (er : Int) (ok : Bool) (k : Nat) (fo rb : Bool)
    (HA : Hid (A.length = a)) (HT : Hid (T.length = tn)) (HC : Hid (C.length = cn)) (HG : Hid (G.length = gn)) (HL : Hid (L.length = ln)) (HO : Hid (O.length = on)) (HW : Hid (V.length = vn)) (b1 : a ≤ 1000 ∧ tn ≤ 1000 ∧ cn ≤ 1000 ∧ gn ≤ 1000 ∧ ln ≤ 1000 ∧ on ≤ 1000 ∧ vn ≤ 1000)
    (wA : Hid (∀ W, SlC W p xs → Calls Try.prog 15 #[.slice p xs.length c, tu t.a t.b t.c t.d, .int .i64 now] W (GetsC A a (.int .i64 er) W))) (rA : Hid (∀ W, SlC W p xs → Calls Try.prog 16 #[.slice p xs.length c, tu t.a t.b t.c t.d, .int .i64 now] W (GetsC A a (.int .i64 er) W)))
    (wT : Hid (∀ W, SlC W p xs → Calls Try.prog 17 #[.slice p xs.length c, tu t.a t.b t.c t.d, .int .i64 now] W (GetsC T tn (.bool ok) W))) (rT : Hid (∀ W, SlC W p xs → Calls Try.prog 18 #[.slice p xs.length c, tu t.a t.b t.c t.d, .int .i64 now] W (GetsC T tn (.bool ok) W)))
    (wC : Hid (∀ W, SlC W p xs → Calls Try.prog 19 #[.slice p xs.length c, tu t.a t.b t.c t.d] W (GetsC C cn (.bool ok) W))) (rC : Hid (∀ W, SlC W p xs → Calls Try.prog 20 #[.slice p xs.length c, tu t.a t.b t.c t.d] W (GetsC C cn (.bool ok) W)))
    (wI : Hid (∀ W, SlC W p xs → Calls Try.prog 21 #[.slice p xs.length c, .int .i64 idle, .int .i64 now] W (TwoG G L gn ln W))) (rI : Hid (∀ W, SlC W p xs → Calls Try.prog 22 #[.slice p xs.length c, .int .i64 idle, .int .i64 now] W (TwoG G L gn ln W)))
    (wF : Hid (∀ W, SlC W p xs → Calls Try.prog 24 #[.slice p xs.length c, tu t.a t.b t.c t.d] W fun e w' => e = .returned (.tuple #[.int .i64 k, .bool fo]) ∧ Ext W w')) (rF : Hid (∀ W, SlC W p xs → Calls Try.prog 25 #[.slice p xs.length c, tu t.a t.b t.c t.d] W fun e w' => e = .returned (.tuple #[.int .i64 k, .bool fo]) ∧ Ext W w'))
    (wR : Hid (∀ W, SlC W p xs → Calls Try.prog 26 #[.slice p xs.length c] W fun e w' => e = .returned (.bool rb) ∧ Ext W w')) (rR : Hid (∀ W, SlC W p xs → Calls Try.prog 27 #[.slice p xs.length c] W fun e w' => e = .returned (.bool rb) ∧ Ext W w'))
    (wO : Hid (∀ W, SlC W p xs → Calls Try.prog 30 #[.slice p xs.length c, .int .i64 bucket] W (OneG O on W))) (rO : Hid (∀ W, SlC W p xs → Calls Try.prog 31 #[.slice p xs.length c, .int .i64 bucket] W (OneG O on W)))
    (wW : Hid (∀ W, SlC W p xs → Calls Try.prog 32 #[.slice p xs.length c, .int .i64 bucket] W (OneG V vn W))) (rW : Hid (∀ W, SlC W p xs → Calls Try.prog 33 #[.slice p xs.length c, .int .i64 bucket] W (OneG V vn W))) :
    Calls Try.prog 3 #[.slice p xs.length c, tu t.a t.b t.c t.d, .int .i64 now, .int .i64 bucket, .int .i64 idle] w fun e w' => e = .returned (.bool true) ∧ Ext w w' := by
  obtain ⟨b1, b2, b3, b4, b5, b6, b7⟩ := b1
  go_enter Try.func3, Try.ntmps3
  go_upto_region 1 with (fail)
  obtain ⟨W0, hW⟩ : ∃ W0, w.alloc (.cells #[.int .u32 t.a, .int .u32 t.b, .int .u16 t.c, .int .u16 t.d] 26) = W0 := ⟨_, rfl⟩
  have E : Ext w W0 := by rw [← hW]; exact Ext.al (Ext.rf _) _
  have ht : TuAt W0 w.heap.size t := by rw [← hW]; unfold TuAt; simp [go_sem, Lt]
  have s := hs.ext E
  rw [hW]
  clear hW hs
  go_upto_region 3 with ((go_at_call 13; (with_reducible refine (great_any p xs.length c _).mono ?_); rintro e W7 ⟨rfl, rfl⟩))
  obtain ⟨d0, d1, d2, d3⟩ := ht.cells
  have lB : Lt w.heap.size _ := ht.2
  go_upto_region 4 with (go_at_call 15; go_must (with_reducible refine (wA.out _ s).mono ?_); rintro e W1 ⟨p1, c1, rfl, s1, g⟩; replace E := E.tr g; replace s := s.ext g; replace ht := ht.ext g)
  clear g d0 d1 d2 d3 lB
  obtain ⟨d0, d1, d2, d3⟩ := ht.cells
  have lB : Lt w.heap.size _ := ht.2
  go_upto_region 5 with (go_at_call 16; go_must (with_reducible refine (rA.out _ s).mono ?_); rintro e W1 ⟨p2, c2, rfl, s2, g⟩; replace E := E.tr g; replace s := s.ext g; replace s1 := s1.ext g; replace ht := ht.ext g)
  clear g d0 d1 d2 d3 lB
  obtain ⟨d0, d1, d2, d3⟩ := ht.cells
  have lB : Lt w.heap.size _ := ht.2
  go_upto_region 6 with (go_at_call 17; go_must (with_reducible refine (wT.out _ s).mono ?_); rintro e W1 ⟨p3, c3, rfl, s3, g⟩; replace E := E.tr g; replace s := s.ext g; replace s1 := s1.ext g; replace s2 := s2.ext g; replace ht := ht.ext g)
  clear g d0 d1 d2 d3 lB
  obtain ⟨d0, d1, d2, d3⟩ := ht.cells
  have lB : Lt w.heap.size _ := ht.2
  go_upto_region 7 with (go_at_call 18; go_must (with_reducible refine (rT.out _ s).mono ?_); rintro e W1 ⟨p4, c4, rfl, s4, g⟩; replace E := E.tr g; replace s := s.ext g; replace s1 := s1.ext g; replace s2 := s2.ext g; replace s3 := s3.ext g; replace ht := ht.ext g)
  clear g d0 d1 d2 d3 lB
  obtain ⟨d0, d1, d2, d3⟩ := ht.cells
  have lB : Lt w.heap.size _ := ht.2
  go_upto_region 8 with (go_at_call 19; go_must (with_reducible refine (wC.out _ s).mono ?_); rintro e W1 ⟨p5, c5, rfl, s5, g⟩; replace E := E.tr g; replace s := s.ext g; replace s1 := s1.ext g; replace s2 := s2.ext g; replace s3 := s3.ext g; replace s4 := s4.ext g; replace ht := ht.ext g)
  clear g d0 d1 d2 d3 lB
  obtain ⟨d0, d1, d2, d3⟩ := ht.cells
  have lB : Lt w.heap.size _ := ht.2
  go_upto_region 9 with (go_at_call 20; go_must (with_reducible refine (rC.out _ s).mono ?_); rintro e W1 ⟨p6, c6, rfl, s6, g⟩; replace E := E.tr g; replace s := s.ext g; replace s1 := s1.ext g; replace s2 := s2.ext g; replace s3 := s3.ext g; replace s4 := s4.ext g; replace s5 := s5.ext g; replace ht := ht.ext g)
  clear g d0 d1 d2 d3 lB
  obtain ⟨d0, d1, d2, d3⟩ := ht.cells
  have lB : Lt w.heap.size _ := ht.2
  go_upto_region 10 with (go_at_call 21; go_must (with_reducible refine (wI.out _ s).mono ?_); rintro e W1 ⟨p7, c7, q7, e7, rfl, s7, r7, g⟩; replace E := E.tr g; replace s := s.ext g; replace s1 := s1.ext g; replace s2 := s2.ext g; replace s3 := s3.ext g; replace s4 := s4.ext g; replace s5 := s5.ext g; replace s6 := s6.ext g; replace ht := ht.ext g)
  clear g d0 d1 d2 d3 lB
  obtain ⟨d0, d1, d2, d3⟩ := ht.cells
  have lB : Lt w.heap.size _ := ht.2
  go_upto_region 11 with (go_at_call 22; go_must (with_reducible refine (rI.out _ s).mono ?_); rintro e W1 ⟨p8, c8, q8, e8, rfl, s8, r8, g⟩; replace E := E.tr g; replace s := s.ext g; replace s1 := s1.ext g; replace s2 := s2.ext g; replace s3 := s3.ext g; replace s4 := s4.ext g; replace s5 := s5.ext g; replace s6 := s6.ext g; replace s7 := s7.ext g; replace r7 := r7.ext g; replace ht := ht.ext g)
  clear g d0 d1 d2 d3 lB
  obtain ⟨d0, d1, d2, d3⟩ := ht.cells
  have lB : Lt w.heap.size _ := ht.2
  go_upto_region 13 with (go_at_call 23; (first | (with_reducible refine (same_g s1 s2 HA.out (by omega)).mono ?_) | (with_reducible refine (same_g s3 s4 HT.out (by omega)).mono ?_) | (with_reducible refine (same_g s5 s6 HC.out (by omega)).mono ?_) | (with_reducible refine (same_g s7 s8 HG.out (by omega)).mono ?_) | (with_reducible refine (same_g r7 r8 HL.out (by omega)).mono ?_)); rintro e W1 ⟨rfl, g⟩; replace E := E.tr g; replace s := s.ext g; replace s1 := s1.ext g; replace s2 := s2.ext g; replace s3 := s3.ext g; replace s4 := s4.ext g; replace s5 := s5.ext g; replace s6 := s6.ext g; replace s7 := s7.ext g; replace r7 := r7.ext g; replace s8 := s8.ext g; replace r8 := r8.ext g; replace ht := ht.ext g; clear g)
  clear s1 s2 s3 s4 s5 s6 s7 s8 r7 r8 d0 d1 d2 d3 lB
  obtain ⟨d0, d1, d2, d3⟩ := ht.cells
  have lB : Lt w.heap.size _ := ht.2
  go_upto_region 14 with (go_at_call 24; go_must (with_reducible refine (wF.out _ s).mono ?_); rintro e W1 ⟨rfl, g⟩; replace E := E.tr g; replace s := s.ext g; replace ht := ht.ext g)
  clear g d0 d1 d2 d3 lB
  obtain ⟨d0, d1, d2, d3⟩ := ht.cells
  have lB : Lt w.heap.size _ := ht.2
  go_upto_region 15 with (go_at_call 25; go_must (with_reducible refine (rF.out _ s).mono ?_); rintro e W1 ⟨rfl, g⟩; replace E := E.tr g; replace s := s.ext g; replace ht := ht.ext g)
  clear g d0 d1 d2 d3 lB
  obtain ⟨d0, d1, d2, d3⟩ := ht.cells
  have lB : Lt w.heap.size _ := ht.2
  go_wp2_with (first | (go_at_call 26; (with_reducible refine (wR.out _ s).mono ?_); rintro e W1 ⟨rfl, g⟩; replace E := E.tr g; replace s := s.ext g; clear g) | (go_at_call 27; (with_reducible refine (rR.out _ s).mono ?_); rintro e W1 ⟨rfl, g⟩; replace E := E.tr g; replace s := s.ext g; clear g) | (go_at_call 28; (with_reducible refine (room_any p xs.length c _).mono ?_); rintro e W1 ⟨rfl, rfl⟩) | (go_at_call 29; (with_reducible refine (rroom_any p xs.length c _).mono ?_); rintro e W1 ⟨rfl, rfl⟩) | (go_at_call 30; (with_reducible refine (wO.out _ s).mono ?_); rintro e W1 ⟨p9, c9, rfl, s9, g⟩; replace E := E.tr g; replace s := s.ext g; clear g) | (go_at_call 31; (with_reducible refine (rO.out _ s).mono ?_); rintro e W1 ⟨q9, e9, rfl, r9, g⟩; replace E := E.tr g; replace s := s.ext g; replace s9 := s9.ext g; clear g) | (go_at_call 32; (with_reducible refine (wW.out _ s).mono ?_); rintro e W1 ⟨p10, c10, rfl, s10, g⟩; replace E := E.tr g; replace s := s.ext g; clear g) | (go_at_call 33; (with_reducible refine (rW.out _ s).mono ?_); rintro e W1 ⟨q10, e10, rfl, r10, g⟩; replace E := E.tr g; replace s := s.ext g; replace s10 := s10.ext g; clear g) | (go_at_call 23; (first | (with_reducible refine (same_g s10 r10 HW.out (by omega)).mono ?_) | (with_reducible refine (same_g s9 r9 HO.out (by omega)).mono ?_)); rintro e W1 ⟨rfl, g⟩; replace E := E.tr g; replace s := s.ext g; clear g) | (go_at_call 14; (with_reducible refine (wakes_any _).mono ?_); rintro e WZ ⟨rfl, gZ⟩))
  go_ret
  exact ⟨rfl, E.tr gZ⟩

set_option maxRecDepth 100000 in
set_option maxHeartbeats 4000000 in
theorem tells_great (t : Tu) (now bucket idle : Int) (p : Option Addr) (xs : List Co) (c : Nat) (w : World) (hs : SlC w p xs) (hc : xs.length ≤ c) (hr : ∀ x ∈ xs, TuR x.t) (hgd : decide ((60 : Int) < xs.length) = true) :
    Calls Try.prog 3 #[.slice p xs.length c, tu t.a t.b t.c t.d, .int .i64 now, .int .i64 bucket, .int .i64 idle] w fun e w' => e = .returned (.bool true) ∧ Ext w w' := by
  go_enter Try.func3, Try.ntmps3
  go_upto_region 1 with (fail)
  obtain ⟨W0, hW⟩ : ∃ W0, w.alloc (.cells #[.int .u32 t.a, .int .u32 t.b, .int .u16 t.c, .int .u16 t.d] 26) = W0 := ⟨_, rfl⟩
  have E : Ext w W0 := by rw [← hW]; exact Ext.al (Ext.rf _) _
  have ht : TuAt W0 w.heap.size t := by rw [← hW]; unfold TuAt; simp [go_sem, Lt]
  have s := hs.ext E
  rw [hW]
  clear hW hs
  go_wp2_with (first | (go_at_call 13; (with_reducible refine (great_any p xs.length c _).mono ?_); rintro e W7 ⟨rfl, rfl⟩) | (go_at_call 14; (with_reducible refine (wakes_any _).mono ?_); rintro e WZ ⟨rfl, gZ⟩))
  go_ret
  exact ⟨rfl, E.tr gZ⟩
theorem tells_walk (t : Tu) (now bucket idle : Int) (p : Option Addr) (xs : List Co) (c : Nat) (w : World) (hs : SlC w p xs) (hc : xs.length ≤ c) (hr : ∀ x ∈ xs, TuR x.t) (hrt : TuR t) (hid : idle ≤ 9223372036854775807) :
    Calls Try.prog 3 #[.slice p xs.length c, tu t.a t.b t.c t.d, .int .i64 now, .int .i64 bucket, .int .i64 idle] w fun e w' => e = .returned (.bool true) ∧ Ext w w' := by
  cases hg : decide ((60 : Int) < xs.length)
  rotate_left
  · exact tells_great t now bucket idle p xs c w hs hc hr hg
  have hl : xs.length ≤ 60 := by have := of_decide_eq_false hg; omega
  have hl' : xs.length ≤ 1000 := by omega
  refine tells_some t now bucket idle p xs c w hs hc hr hrt hid hg (addX xs t now) (withX (touchF now) xs t) (withX (fun xs k => xs.eraseIdx k) xs t) (xs.filter (idleB idle now)) (xs.filter fun x => !idleB idle now x) (xs.filter (inB bucket)) (xs.filter fun x => !inB bucket x)
    _ _ _ _ _ _ _ (addE xs t now) (withOk xs t) (atC xs t) (okC xs t) (rightC xs) (Lib.hid rfl) (Lib.hid rfl) (Lib.hid rfl) (Lib.hid rfl) (Lib.hid rfl) (Lib.hid rfl) (Lib.hid rfl) ?_
    (Lib.hid fun W s => add_g s rfl hl' rfl rfl rfl) (Lib.hid fun W s => radd_g s hl' hc hr hrt rfl rfl rfl) (Lib.hid fun W s => touch_g s rfl hl' rfl rfl rfl) (Lib.hid fun W s => rtouch_g s hl' hc hr hrt rfl rfl rfl)
    (Lib.hid fun W s => close_g s rfl hl' rfl rfl rfl) (Lib.hid fun W s => rclose_g s hl' hc hr hrt rfl rfl rfl) (Lib.hid fun W s => idle_g s rfl hl' hid rfl rfl rfl rfl) (Lib.hid fun W s => ridle_g s hl' hid rfl rfl rfl rfl)
    (Lib.hid fun W s => find_g s rfl hl' rfl rfl) (Lib.hid fun W s => rfind_any t p xs c W s hl' hr hrt) (Lib.hid fun W s => right_g s rfl hl' rfl) (Lib.hid fun W s => rright_any p xs c W s hl' hr)
    (Lib.hid fun W s => of_g s rfl hl' hr rfl rfl) (Lib.hid fun W s => rof_g s hl' hr rfl rfl) (Lib.hid fun W s => wo_g s rfl hl' hr rfl rfl) (Lib.hid fun W s => rwo_g s hl' hr rfl rfl)
  have f := fun q : Co → Bool => List.length_filter_le q xs
  have := addX_len xs t now
  have := touchX_len xs t now
  have := closeX_len xs t
  refine ⟨by omega, by omega, by omega, ?_, ?_, ?_, ?_⟩
  · have := f (idleB idle now); omega
  · have := f (fun x => !idleB idle now x); omega
  · have := f (inB bucket); omega
  · have := f (fun x => !inB bucket x); omega

set_option maxRecDepth 100000 in
theorem connsTells_lifted (os : Os) (started : os.Started) (H : Type) (enc : TypeId × Value → H) :
    ReturnsInHanded {} Try.checked os 3 .any (Rows.connsTellsSpec.pre6 enc Try.prog Try.f3 Rows.connsTellsRow.domain false) (Rows.connsTellsSpec.post enc Try.prog Try.f3 false true false false) := by
  refine law_lift 4 ownKn started (by kernel_rfl) Try.func3 (ChangeSpec.witness6 (enc := enc) (C := Try.checked) false ⟨#[], #[.slice none 0 0, tu 0 0 0 0, .int .i64 0, .int .i64 0, .int .i64 0], []⟩ 8 (by kernel_rfl) (by kernel_rfl) (by kernel_rfl) (by kernel_rfl)) laidOut rfl (by kernel_rfl) Try.underlying4 ?_ (by kernel_rfl) ?_
  · intro ds h
    match ds, h with
    | [d0, d1, d2, d3, d4], _ => rfl
  · intro W base args ds p hval hA hlt
    have hval' : ∀ (j : Nat) t v, Try.f3.params[j]? = some t → args[j]? = some v → Value.okWide Try.prog W .any base t v := hval
    have hA' : DataW.TrodAll enc Try.prog W 0 (fun _ => true) true Try.f3.params.toList args.toList ds p := hA
    rw [Try.params3] at hA' hval'
    obtain ⟨v0, vs0, d0, ds0, p0, q0, hargs, rfl, rfl, h0, r0⟩ := trodAll_cons hA'
    obtain ⟨v1, vs1, d1, ds1, p1, q1, rfl, rfl, rfl, h1, r1⟩ := trodAll_cons r0
    obtain ⟨v2, vs2, d2, ds2, p2, q2, rfl, rfl, rfl, h2, r2⟩ := trodAll_cons r1
    obtain ⟨v3, vs3, d3, ds3, p3, q3, rfl, rfl, rfl, h3, r3⟩ := trodAll_cons r2
    obtain ⟨v4, vs4, d4, ds4, p4, q4, rfl, rfl, rfl, h4, r4⟩ := trodAll_cons r3
    obtain ⟨rfl, rfl, rfl⟩ := trodAll_nil r4
    obtain rfl : args = #[v0, v1, v2, v3, v4] := by cases args; simp_all
    obtain ⟨p_, xs, c_, rfl, hs_, hc_, hr_⟩ := open_C (hval' 0 _ v0 rfl rfl) h0
    obtain ⟨t, rfl, ht_⟩ := open_tu (hval' 1 _ v1 rfl rfl) h1
    obtain ⟨now, rfl, _, _, w_now⟩ := open_int Try.underlying3 (hval' 2 _ v2 rfl rfl) h2
    obtain ⟨bucket, rfl, _, _, w_bucket⟩ := open_int Try.underlying3 (hval' 3 _ v3 rfl rfl) h3
    obtain ⟨idle, rfl, _, _, w_idle⟩ := open_int Try.underlying3 (hval' 4 _ v4 rfl rfl) h4
    exact tells_walk t now bucket idle p_ xs c_ W hs_ hc_ hr_ ht_ (i64_of w_idle).2

theorem connsTells_holds : Rows.ConnsTellsSaid :=
  OpenClaim.holds_of_wide 3 Try.f3 rfl rfl rfl rfl rfl rfl rfl ⟨rfl, rfl, rfl, rfl, rfl⟩ rfl rfl rfl rfl rfl (by kernel_rfl) Try.func3 (by kernel_rfl)
    (of_decide_eq_true (by kernel_rfl)) (by unfold Func.isWrapper; first | (rw [if_pos (by decide +kernel)]; kernel_rfl) | (rw [if_neg (by decide +kernel)]; exact ⟨rfl, rfl⟩))
    (fun os started H enc _ => connsTells_lifted os started H enc)
#print axioms connsTells_holds

end Go.Proofs.Ytookffaojlkfaaa
