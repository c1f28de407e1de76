/- ConnsAdds. -/
import Derived.Test.YtookffaojlkfaaaL0
import Derived.Test.YtookffaojlkfaaaPC
import Derived.Test.YtookffaojlkfaaaRows
set_option linter.unusedSimpArgs false
set_option linter.unusedVariables false
namespace Go.Proofs.Ytookffaojlkfaaa
open Go.ChangeShapes Go.WideShapes Go.ChangeAt Go.RowKit

attribute [local go_sem] beq_self_eq_true bne_self_eq_false

set_option maxRecDepth 100000 in
set_option maxHeartbeats 4000000 in
theorem adds_great (t : Tu) (now : Int) (p : Option Addr) (xs : List Co) (c : Nat) (w : World) (hs : SlC w p xs) (hc : xs.length ≤ c) (hr : ∀ x ∈ xs, TuR x.t) (hgd : decide ((60 : Int) < xs.length) = true) :
    Calls Try.prog 4 #[.slice p xs.length c, tu t.a t.b t.c t.d, .int .i64 now] w fun e w' => e = .returned (.bool true) ∧ Ext w w' := by
  go_enter Try.func4, Try.ntmps4
  go_upto_region 1 with (fail)
  obtain ⟨W0, hW⟩ : ∃ W0, w.alloc (.cells #[.int .u32 t.a, .int .u32 t.b, .int .u16 t.c, .int .u16 t.d] 26) = W0 := ⟨_, rfl⟩
  have E : Ext w W0 := by rw [← hW]; exact Ext.al (Ext.rf _) _
  have ht : TuAt W0 w.heap.size t := by rw [← hW]; unfold TuAt; simp [go_sem, Lt]
  have s := hs.ext E
  rw [hW]
  clear hW hs
  go_wp2_with (first | (go_at_call 13; (with_reducible refine (great_any p xs.length c _).mono ?_); rintro e W7 ⟨rfl, rfl⟩) | (go_at_call 14; (with_reducible refine (wakes_any _).mono ?_); rintro e WZ ⟨rfl, gZ⟩))
  go_ret
  exact ⟨rfl, E.tr gZ⟩
set_option maxRecDepth 100000 in
set_option maxHeartbeats 4000000 in
theorem adds_wrong (t : Tu) (now : Int) (p : Option Addr) (xs : List Co) (c : Nat) (w : World) (hs : SlC w p xs) (hc : xs.length ≤ c) (hr : ∀ x ∈ xs, TuR x.t) (hl : xs.length ≤ 60) (hrr : rightC xs = false) (hgd : decide ((60 : Int) < xs.length) = false) :
    Calls Try.prog 4 #[.slice p xs.length c, tu t.a t.b t.c t.d, .int .i64 now] w fun e w' => e = .returned (.bool true) ∧ Ext w w' := by
  go_enter Try.func4, Try.ntmps4
  go_upto_region 1 with (fail)
  obtain ⟨W0, hW⟩ : ∃ W0, w.alloc (.cells #[.int .u32 t.a, .int .u32 t.b, .int .u16 t.c, .int .u16 t.d] 26) = W0 := ⟨_, rfl⟩
  have E : Ext w W0 := by rw [← hW]; exact Ext.al (Ext.rf _) _
  have ht : TuAt W0 w.heap.size t := by rw [← hW]; unfold TuAt; simp [go_sem, Lt]
  have s := hs.ext E
  rw [hW]
  clear hW hs
  go_wp2_with (first | (go_at_call 13; (with_reducible refine (great_any p xs.length c _).mono ?_); rintro e W7 ⟨rfl, rfl⟩) | (go_at_call 27; (with_reducible refine (rright_any p xs c _ s (by omega) hr).mono ?_); rw [hrr]; rintro e W5 ⟨rfl, g5⟩; replace E := E.tr g5; replace s := s.ext g5; replace ht := ht.ext g5) | (go_at_call 14; (with_reducible refine (wakes_any _).mono ?_); rintro e WZ ⟨rfl, gZ⟩))
  go_ret
  exact ⟨rfl, E.tr gZ⟩

set_option maxRecDepth 100000 in
set_option maxHeartbeats 16000000 in
theorem adds_no1 (t : Tu) (now : Int) (p : Option Addr) (xs : List Co) (c : Nat) (w : World) (hs : SlC w p xs) (hc : xs.length ≤ c) (hr : ∀ x ∈ xs, TuR x.t) (hl : xs.length ≤ 60) (hrr : rightC xs = true) (hgd : decide ((60 : Int) < xs.length) = false) (er : Int) (k : Nat) (hk : atC xs t = k) (hne : ((er : Int) == 0) = false) (hne2 : ((er : Int) != 0) = true) (HA : Hid (addX xs t now = xs)) (HER : Hid (addE xs t now = er)) (hok : okC xs t = true)
    (HTH : Hid ((xs.any fun x => eqT x.t t) = true)) :
    Calls Try.prog 4 #[.slice p xs.length c, tu t.a t.b t.c t.d, .int .i64 now] w fun e w' => e = .returned (.bool true) ∧ Ext w w' := by
  go_enter Try.func4, Try.ntmps4
  go_upto_region 1 with (fail)
  obtain ⟨W0, hW⟩ : ∃ W0, w.alloc (.cells #[.int .u32 t.a, .int .u32 t.b, .int .u16 t.c, .int .u16 t.d] 26) = W0 := ⟨_, rfl⟩
  have E : Ext w W0 := by rw [← hW]; exact Ext.al (Ext.rf _) _
  have ht : TuAt W0 w.heap.size t := by rw [← hW]; unfold TuAt; simp [go_sem, Lt]
  have s := hs.ext E
  rw [hW]
  clear hW hs
  go_upto_region 3 with (first | (go_at_call 13; (with_reducible refine (great_any p xs.length c _).mono ?_); rintro e W7 ⟨rfl, rfl⟩) | (go_at_call 27; (with_reducible refine (rright_any p xs c _ s (by omega) hr).mono ?_); rw [hrr]; rintro e W5 ⟨rfl, g5⟩; replace E := E.tr g5; replace s := s.ext g5; replace ht := ht.ext g5))
  clear g5
  obtain ⟨d0, d1, d2, d3⟩ := ht.cells
  have lB : Lt w.heap.size _ := ht.2
  have HSS := Lib.hid s
  have HTT := Lib.hid ht
  have HE := Lib.hid E
  obtain ⟨Wb, hWb⟩ : ∃ Wb, W5 = Wb := ⟨_, rfl⟩
  rw [hWb] at s ht E d0 d1 d2 d3 lB HSS HTT HE ⊢
  clear hWb s ht E d0 d1 d2 d3 lB
  go_wp2
  go_loopw [7, 8] (fun v a wr => ∃ q : Nat, q ≤ xs.length ∧ a = .int .i64 q ∧ v = .bool ((xs.take q).any fun x => eqT x.t t) ∧ Ext Wb wr) (fun _ a _ => xs.length - (intOf a).toNat)
  case atStart => exact ⟨0, Nat.zero_le _, rfl, rfl, Ext.rf _⟩
  case round =>
    obtain ⟨q, hq, rfl, rfl, hE⟩ := hrel
    by_cases hlt : q < xs.length
    · have hil : (q : Int) < xs.length := by omega
      obtain ⟨b, off, rfl, lb, c0, c1, c2, c3, c4, c5⟩ := (HSS.out.ext hE) q hlt
      obtain ⟨x, hx⟩ : ∃ x, xs[q] = x := ⟨_, rfl⟩
      have hS : (xs.take (q + 1)).any (fun x => eqT x.t t) = ((xs.take q).any (fun x => eqT x.t t) || eqT x.t t) := by
        rw [List.take_succ_eq_append_getElem hlt, hx, List.any_append]; simp
      rw [hx] at c0 c1 c2 c3 c4 c5
      have lbb : Lt b wr := lb
      have hT := HTT.out.ext hE
      obtain ⟨d0, d1, d2, d3⟩ := hT.cells
      have lB : Lt w.heap.size wr := hT.2
      clear hT lb hx
      cases hany : (xs.take q).any fun x => eqT x.t t
      · rw [hany, Bool.false_or] at hS
        have HN := Lib.hid hS
        clear hS hany
        go_upto_region 7 with (fail)
        refine wp_region_later (by kernel_rfl) (by kernel_rfl) ?_; (repeat (go_big_quiet_step (fail))); refine wpQuiet_nil ?_; intro d
        have hd := later_ext d
        go_wp2
        go_roundw
        case rel => exact ⟨q + 1, by omega, by go_num, by rw [HN.out]; rfl, hE.tr hd⟩
        case measure => simp [intOf]; omega
      · rw [hany, Bool.true_or] at hS
        have HN := Lib.hid hS
        clear hS hany
        go_upto_region 7 with (fail)
        refine wp_region_later (by kernel_rfl) (by kernel_rfl) ?_; (repeat (go_big_quiet_step (fail))); refine wpQuiet_nil ?_; intro d
        have hd := later_ext d
        go_wp2
        go_roundw
        case rel => exact ⟨q + 1, by omega, by go_num, by rw [HN.out], hE.tr hd⟩
        case measure => simp [intOf]; omega
    · have hil : ¬ ((q : Int) < xs.length) := by omega
      have hth : ((xs.take q).any fun x => eqT x.t t) = true := by rw [List.take_of_length_le (by omega)]; exact HTH.out
      rw [hth]
      have E := HE.out.tr hE
      have s := HSS.out.ext hE
      have ht := HTT.out.ext hE
      obtain ⟨d0, d1, d2, d3⟩ := ht.cells
      have lB : Lt w.heap.size wr := ht.2
      clear hth hE HE HSS HTT
      go_upto_region 9 with (go_at_call 24; go_must (with_reducible refine (find_g s rfl (by omega) hk hok).mono ?_); rintro e W1 ⟨rfl, g⟩; replace E := E.tr g; replace s := s.ext g; replace ht := ht.ext g)
      clear g d0 d1 d2 d3 lB
      obtain ⟨d0, d1, d2, d3⟩ := ht.cells
      have lB : Lt w.heap.size _ := ht.2
      go_upto_region 10 with (go_at_call 15; go_must (with_reducible refine (add_g s rfl (by omega) HA.out rfl HER.out).mono ?_); rintro e W1 ⟨p1, c1, rfl, s1, g⟩; replace E := E.tr g; replace s := s.ext g)
      clear g d0 d1 d2 d3 lB ht
      go_wp2_with (first | (go_at_call 23; (with_reducible refine (same_g s1 s rfl (by omega)).mono ?_); rintro e W1 ⟨rfl, g⟩; replace E := E.tr g; clear g) | (go_at_call 14; (with_reducible refine (wakes_any _).mono ?_); rintro e WZ ⟨rfl, gZ⟩))
      go_ret
      exact ⟨rfl, E.tr gZ⟩

set_option maxRecDepth 100000 in
set_option maxHeartbeats 16000000 in
theorem adds_no2 (t : Tu) (now : Int) (p : Option Addr) (xs : List Co) (c : Nat) (w : World) (hs : SlC w p xs) (hc : xs.length ≤ c) (hr : ∀ x ∈ xs, TuR x.t) (hl : xs.length ≤ 60) (hrr : rightC xs = true) (hgd : decide ((60 : Int) < xs.length) = false) (er : Int) (k : Nat) (hk : atC xs t = k) (hne : ((er : Int) == 0) = false) (hne2 : ((er : Int) != 0) = true) (HA : Hid (addX xs t now = xs)) (HER : Hid (addE xs t now = er)) (hok : okC xs t = false) (h32 : decide ((xs.length : Int) < 32) = false)
    (HTH : Hid ((xs.any fun x => eqT x.t t) = false)) :
    Calls Try.prog 4 #[.slice p xs.length c, tu t.a t.b t.c t.d, .int .i64 now] w fun e w' => e = .returned (.bool true) ∧ Ext w w' := by
  go_enter Try.func4, Try.ntmps4
  go_upto_region 1 with (fail)
  obtain ⟨W0, hW⟩ : ∃ W0, w.alloc (.cells #[.int .u32 t.a, .int .u32 t.b, .int .u16 t.c, .int .u16 t.d] 26) = W0 := ⟨_, rfl⟩
  have E : Ext w W0 := by rw [← hW]; exact Ext.al (Ext.rf _) _
  have ht : TuAt W0 w.heap.size t := by rw [← hW]; unfold TuAt; simp [go_sem, Lt]
  have s := hs.ext E
  rw [hW]
  clear hW hs
  go_upto_region 3 with (first | (go_at_call 13; (with_reducible refine (great_any p xs.length c _).mono ?_); rintro e W7 ⟨rfl, rfl⟩) | (go_at_call 27; (with_reducible refine (rright_any p xs c _ s (by omega) hr).mono ?_); rw [hrr]; rintro e W5 ⟨rfl, g5⟩; replace E := E.tr g5; replace s := s.ext g5; replace ht := ht.ext g5))
  clear g5
  obtain ⟨d0, d1, d2, d3⟩ := ht.cells
  have lB : Lt w.heap.size _ := ht.2
  have HSS := Lib.hid s
  have HTT := Lib.hid ht
  have HE := Lib.hid E
  obtain ⟨Wb, hWb⟩ : ∃ Wb, W5 = Wb := ⟨_, rfl⟩
  rw [hWb] at s ht E d0 d1 d2 d3 lB HSS HTT HE ⊢
  clear hWb s ht E d0 d1 d2 d3 lB
  go_wp2
  go_loopw [7, 8] (fun v a wr => ∃ q : Nat, q ≤ xs.length ∧ a = .int .i64 q ∧ v = .bool ((xs.take q).any fun x => eqT x.t t) ∧ Ext Wb wr) (fun _ a _ => xs.length - (intOf a).toNat)
  case atStart => exact ⟨0, Nat.zero_le _, rfl, rfl, Ext.rf _⟩
  case round =>
    obtain ⟨q, hq, rfl, rfl, hE⟩ := hrel
    by_cases hlt : q < xs.length
    · have hil : (q : Int) < xs.length := by omega
      obtain ⟨b, off, rfl, lb, c0, c1, c2, c3, c4, c5⟩ := (HSS.out.ext hE) q hlt
      obtain ⟨x, hx⟩ : ∃ x, xs[q] = x := ⟨_, rfl⟩
      have hS : (xs.take (q + 1)).any (fun x => eqT x.t t) = ((xs.take q).any (fun x => eqT x.t t) || eqT x.t t) := by
        rw [List.take_succ_eq_append_getElem hlt, hx, List.any_append]; simp
      rw [hx] at c0 c1 c2 c3 c4 c5
      have lbb : Lt b wr := lb
      have hT := HTT.out.ext hE
      obtain ⟨d0, d1, d2, d3⟩ := hT.cells
      have lB : Lt w.heap.size wr := hT.2
      clear hT lb hx
      cases hany : (xs.take q).any fun x => eqT x.t t
      · rw [hany, Bool.false_or] at hS
        have HN := Lib.hid hS
        clear hS hany
        go_upto_region 7 with (fail)
        refine wp_region_later (by kernel_rfl) (by kernel_rfl) ?_; (repeat (go_big_quiet_step (fail))); refine wpQuiet_nil ?_; intro d
        have hd := later_ext d
        go_wp2
        go_roundw
        case rel => exact ⟨q + 1, by omega, by go_num, by rw [HN.out]; rfl, hE.tr hd⟩
        case measure => simp [intOf]; omega
      · rw [hany, Bool.true_or] at hS
        have HN := Lib.hid hS
        clear hS hany
        go_upto_region 7 with (fail)
        refine wp_region_later (by kernel_rfl) (by kernel_rfl) ?_; (repeat (go_big_quiet_step (fail))); refine wpQuiet_nil ?_; intro d
        have hd := later_ext d
        go_wp2
        go_roundw
        case rel => exact ⟨q + 1, by omega, by go_num, by rw [HN.out], hE.tr hd⟩
        case measure => simp [intOf]; omega
    · have hil : ¬ ((q : Int) < xs.length) := by omega
      have hth : ((xs.take q).any fun x => eqT x.t t) = false := by rw [List.take_of_length_le (by omega)]; exact HTH.out
      rw [hth]
      have E := HE.out.tr hE
      have s := HSS.out.ext hE
      have ht := HTT.out.ext hE
      obtain ⟨d0, d1, d2, d3⟩ := ht.cells
      have lB : Lt w.heap.size wr := ht.2
      clear hth hE HE HSS HTT
      go_upto_region 9 with (go_at_call 24; go_must (with_reducible refine (find_g s rfl (by omega) hk hok).mono ?_); rintro e W1 ⟨rfl, g⟩; replace E := E.tr g; replace s := s.ext g; replace ht := ht.ext g)
      clear g d0 d1 d2 d3 lB
      obtain ⟨d0, d1, d2, d3⟩ := ht.cells
      have lB : Lt w.heap.size _ := ht.2
      go_upto_region 10 with (go_at_call 15; go_must (with_reducible refine (add_g s rfl (by omega) HA.out rfl HER.out).mono ?_); rintro e W1 ⟨p1, c1, rfl, s1, g⟩; replace E := E.tr g; replace s := s.ext g)
      clear g d0 d1 d2 d3 lB ht
      go_wp2_with (first | (go_at_call 23; (with_reducible refine (same_g s1 s rfl (by omega)).mono ?_); rintro e W1 ⟨rfl, g⟩; replace E := E.tr g; clear g) | (go_at_call 14; (with_reducible refine (wakes_any _).mono ?_); rintro e WZ ⟨rfl, gZ⟩))
      go_ret
      exact ⟨rfl, E.tr gZ⟩

set_option maxRecDepth 100000 in
set_option maxHeartbeats 16000000 in
theorem adds_no3 (t : Tu) (now : Int) (p : Option Addr) (xs : List Co) (c : Nat) (w : World) (hs : SlC w p xs) (hc : xs.length ≤ c) (hr : ∀ x ∈ xs, TuR x.t) (hl : xs.length ≤ 60) (hrr : rightC xs = true) (hgd : decide ((60 : Int) < xs.length) = false) (er : Int) (k : Nat) (hk : atC xs t = k) (hne : ((er : Int) == 0) = false) (hne2 : ((er : Int) != 0) = true) (HA : Hid (addX xs t now = xs)) (HER : Hid (addE xs t now = er)) (hok : okC xs t = false) (h32 : decide ((xs.length : Int) < 32) = true) (h0 : decide (0 ≤ now) = false)
    (HTH : Hid ((xs.any fun x => eqT x.t t) = false)) :
    Calls Try.prog 4 #[.slice p xs.length c, tu t.a t.b t.c t.d, .int .i64 now] w fun e w' => e = .returned (.bool true) ∧ Ext w w' := by
  go_enter Try.func4, Try.ntmps4
  go_upto_region 1 with (fail)
  obtain ⟨W0, hW⟩ : ∃ W0, w.alloc (.cells #[.int .u32 t.a, .int .u32 t.b, .int .u16 t.c, .int .u16 t.d] 26) = W0 := ⟨_, rfl⟩
  have E : Ext w W0 := by rw [← hW]; exact Ext.al (Ext.rf _) _
  have ht : TuAt W0 w.heap.size t := by rw [← hW]; unfold TuAt; simp [go_sem, Lt]
  have s := hs.ext E
  rw [hW]
  clear hW hs
  go_upto_region 3 with (first | (go_at_call 13; (with_reducible refine (great_any p xs.length c _).mono ?_); rintro e W7 ⟨rfl, rfl⟩) | (go_at_call 27; (with_reducible refine (rright_any p xs c _ s (by omega) hr).mono ?_); rw [hrr]; rintro e W5 ⟨rfl, g5⟩; replace E := E.tr g5; replace s := s.ext g5; replace ht := ht.ext g5))
  clear g5
  obtain ⟨d0, d1, d2, d3⟩ := ht.cells
  have lB : Lt w.heap.size _ := ht.2
  have HSS := Lib.hid s
  have HTT := Lib.hid ht
  have HE := Lib.hid E
  obtain ⟨Wb, hWb⟩ : ∃ Wb, W5 = Wb := ⟨_, rfl⟩
  rw [hWb] at s ht E d0 d1 d2 d3 lB HSS HTT HE ⊢
  clear hWb s ht E d0 d1 d2 d3 lB
  go_wp2
  go_loopw [7, 8] (fun v a wr => ∃ q : Nat, q ≤ xs.length ∧ a = .int .i64 q ∧ v = .bool ((xs.take q).any fun x => eqT x.t t) ∧ Ext Wb wr) (fun _ a _ => xs.length - (intOf a).toNat)
  case atStart => exact ⟨0, Nat.zero_le _, rfl, rfl, Ext.rf _⟩
  case round =>
    obtain ⟨q, hq, rfl, rfl, hE⟩ := hrel
    by_cases hlt : q < xs.length
    · have hil : (q : Int) < xs.length := by omega
      obtain ⟨b, off, rfl, lb, c0, c1, c2, c3, c4, c5⟩ := (HSS.out.ext hE) q hlt
      obtain ⟨x, hx⟩ : ∃ x, xs[q] = x := ⟨_, rfl⟩
      have hS : (xs.take (q + 1)).any (fun x => eqT x.t t) = ((xs.take q).any (fun x => eqT x.t t) || eqT x.t t) := by
        rw [List.take_succ_eq_append_getElem hlt, hx, List.any_append]; simp
      rw [hx] at c0 c1 c2 c3 c4 c5
      have lbb : Lt b wr := lb
      have hT := HTT.out.ext hE
      obtain ⟨d0, d1, d2, d3⟩ := hT.cells
      have lB : Lt w.heap.size wr := hT.2
      clear hT lb hx
      cases hany : (xs.take q).any fun x => eqT x.t t
      · rw [hany, Bool.false_or] at hS
        have HN := Lib.hid hS
        clear hS hany
        go_upto_region 7 with (fail)
        refine wp_region_later (by kernel_rfl) (by kernel_rfl) ?_; (repeat (go_big_quiet_step (fail))); refine wpQuiet_nil ?_; intro d
        have hd := later_ext d
        go_wp2
        go_roundw
        case rel => exact ⟨q + 1, by omega, by go_num, by rw [HN.out]; rfl, hE.tr hd⟩
        case measure => simp [intOf]; omega
      · rw [hany, Bool.true_or] at hS
        have HN := Lib.hid hS
        clear hS hany
        go_upto_region 7 with (fail)
        refine wp_region_later (by kernel_rfl) (by kernel_rfl) ?_; (repeat (go_big_quiet_step (fail))); refine wpQuiet_nil ?_; intro d
        have hd := later_ext d
        go_wp2
        go_roundw
        case rel => exact ⟨q + 1, by omega, by go_num, by rw [HN.out], hE.tr hd⟩
        case measure => simp [intOf]; omega
    · have hil : ¬ ((q : Int) < xs.length) := by omega
      have hth : ((xs.take q).any fun x => eqT x.t t) = false := by rw [List.take_of_length_le (by omega)]; exact HTH.out
      rw [hth]
      have E := HE.out.tr hE
      have s := HSS.out.ext hE
      have ht := HTT.out.ext hE
      obtain ⟨d0, d1, d2, d3⟩ := ht.cells
      have lB : Lt w.heap.size wr := ht.2
      clear hth hE HE HSS HTT
      go_upto_region 9 with (go_at_call 24; go_must (with_reducible refine (find_g s rfl (by omega) hk hok).mono ?_); rintro e W1 ⟨rfl, g⟩; replace E := E.tr g; replace s := s.ext g; replace ht := ht.ext g)
      clear g d0 d1 d2 d3 lB
      obtain ⟨d0, d1, d2, d3⟩ := ht.cells
      have lB : Lt w.heap.size _ := ht.2
      go_upto_region 10 with (go_at_call 15; go_must (with_reducible refine (add_g s rfl (by omega) HA.out rfl HER.out).mono ?_); rintro e W1 ⟨p1, c1, rfl, s1, g⟩; replace E := E.tr g; replace s := s.ext g)
      clear g d0 d1 d2 d3 lB ht
      go_wp2_with (first | (go_at_call 23; (with_reducible refine (same_g s1 s rfl (by omega)).mono ?_); rintro e W1 ⟨rfl, g⟩; replace E := E.tr g; clear g) | (go_at_call 14; (with_reducible refine (wakes_any _).mono ?_); rintro e WZ ⟨rfl, gZ⟩))
      go_ret
      exact ⟨rfl, E.tr gZ⟩

set_option maxRecDepth 100000 in
set_option maxHeartbeats 16000000 in
theorem adds_no4 (t : Tu) (now : Int) (p : Option Addr) (xs : List Co) (c : Nat) (w : World) (hs : SlC w p xs) (hc : xs.length ≤ c) (hr : ∀ x ∈ xs, TuR x.t) (hl : xs.length ≤ 60) (hrr : rightC xs = true) (hgd : decide ((60 : Int) < xs.length) = false) (er : Int) (k : Nat) (hk : atC xs t = k) (hne : ((er : Int) == 0) = false) (hne2 : ((er : Int) != 0) = true) (HA : Hid (addX xs t now = xs)) (HER : Hid (addE xs t now = er)) (hok : okC xs t = false) (h32 : decide ((xs.length : Int) < 32) = true) (h0 : decide (0 ≤ now) = true) (hm : decide (now ≤ 1099511627776) = false)
    (HTH : Hid ((xs.any fun x => eqT x.t t) = false)) :
    Calls Try.prog 4 #[.slice p xs.length c, tu t.a t.b t.c t.d, .int .i64 now] w fun e w' => e = .returned (.bool true) ∧ Ext w w' := by
  go_enter Try.func4, Try.ntmps4
  go_upto_region 1 with (fail)
  obtain ⟨W0, hW⟩ : ∃ W0, w.alloc (.cells #[.int .u32 t.a, .int .u32 t.b, .int .u16 t.c, .int .u16 t.d] 26) = W0 := ⟨_, rfl⟩
  have E : Ext w W0 := by rw [← hW]; exact Ext.al (Ext.rf _) _
  have ht : TuAt W0 w.heap.size t := by rw [← hW]; unfold TuAt; simp [go_sem, Lt]
  have s := hs.ext E
  rw [hW]
  clear hW hs
  go_upto_region 3 with (first | (go_at_call 13; (with_reducible refine (great_any p xs.length c _).mono ?_); rintro e W7 ⟨rfl, rfl⟩) | (go_at_call 27; (with_reducible refine (rright_any p xs c _ s (by omega) hr).mono ?_); rw [hrr]; rintro e W5 ⟨rfl, g5⟩; replace E := E.tr g5; replace s := s.ext g5; replace ht := ht.ext g5))
  clear g5
  obtain ⟨d0, d1, d2, d3⟩ := ht.cells
  have lB : Lt w.heap.size _ := ht.2
  have HSS := Lib.hid s
  have HTT := Lib.hid ht
  have HE := Lib.hid E
  obtain ⟨Wb, hWb⟩ : ∃ Wb, W5 = Wb := ⟨_, rfl⟩
  rw [hWb] at s ht E d0 d1 d2 d3 lB HSS HTT HE ⊢
  clear hWb s ht E d0 d1 d2 d3 lB
  go_wp2
  go_loopw [7, 8] (fun v a wr => ∃ q : Nat, q ≤ xs.length ∧ a = .int .i64 q ∧ v = .bool ((xs.take q).any fun x => eqT x.t t) ∧ Ext Wb wr) (fun _ a _ => xs.length - (intOf a).toNat)
  case atStart => exact ⟨0, Nat.zero_le _, rfl, rfl, Ext.rf _⟩
  case round =>
    obtain ⟨q, hq, rfl, rfl, hE⟩ := hrel
    by_cases hlt : q < xs.length
    · have hil : (q : Int) < xs.length := by omega
      obtain ⟨b, off, rfl, lb, c0, c1, c2, c3, c4, c5⟩ := (HSS.out.ext hE) q hlt
      obtain ⟨x, hx⟩ : ∃ x, xs[q] = x := ⟨_, rfl⟩
      have hS : (xs.take (q + 1)).any (fun x => eqT x.t t) = ((xs.take q).any (fun x => eqT x.t t) || eqT x.t t) := by
        rw [List.take_succ_eq_append_getElem hlt, hx, List.any_append]; simp
      rw [hx] at c0 c1 c2 c3 c4 c5
      have lbb : Lt b wr := lb
      have hT := HTT.out.ext hE
      obtain ⟨d0, d1, d2, d3⟩ := hT.cells
      have lB : Lt w.heap.size wr := hT.2
      clear hT lb hx
      cases hany : (xs.take q).any fun x => eqT x.t t
      · rw [hany, Bool.false_or] at hS
        have HN := Lib.hid hS
        clear hS hany
        go_upto_region 7 with (fail)
        refine wp_region_later (by kernel_rfl) (by kernel_rfl) ?_; (repeat (go_big_quiet_step (fail))); refine wpQuiet_nil ?_; intro d
        have hd := later_ext d
        go_wp2
        go_roundw
        case rel => exact ⟨q + 1, by omega, by go_num, by rw [HN.out]; rfl, hE.tr hd⟩
        case measure => simp [intOf]; omega
      · rw [hany, Bool.true_or] at hS
        have HN := Lib.hid hS
        clear hS hany
        go_upto_region 7 with (fail)
        refine wp_region_later (by kernel_rfl) (by kernel_rfl) ?_; (repeat (go_big_quiet_step (fail))); refine wpQuiet_nil ?_; intro d
        have hd := later_ext d
        go_wp2
        go_roundw
        case rel => exact ⟨q + 1, by omega, by go_num, by rw [HN.out], hE.tr hd⟩
        case measure => simp [intOf]; omega
    · have hil : ¬ ((q : Int) < xs.length) := by omega
      have hth : ((xs.take q).any fun x => eqT x.t t) = false := by rw [List.take_of_length_le (by omega)]; exact HTH.out
      rw [hth]
      have E := HE.out.tr hE
      have s := HSS.out.ext hE
      have ht := HTT.out.ext hE
      obtain ⟨d0, d1, d2, d3⟩ := ht.cells
      have lB : Lt w.heap.size wr := ht.2
      clear hth hE HE HSS HTT
      go_upto_region 9 with (go_at_call 24; go_must (with_reducible refine (find_g s rfl (by omega) hk hok).mono ?_); rintro e W1 ⟨rfl, g⟩; replace E := E.tr g; replace s := s.ext g; replace ht := ht.ext g)
      clear g d0 d1 d2 d3 lB
      obtain ⟨d0, d1, d2, d3⟩ := ht.cells
      have lB : Lt w.heap.size _ := ht.2
      go_upto_region 10 with (go_at_call 15; go_must (with_reducible refine (add_g s rfl (by omega) HA.out rfl HER.out).mono ?_); rintro e W1 ⟨p1, c1, rfl, s1, g⟩; replace E := E.tr g; replace s := s.ext g)
      clear g d0 d1 d2 d3 lB ht
      go_wp2_with (first | (go_at_call 23; (with_reducible refine (same_g s1 s rfl (by omega)).mono ?_); rintro e W1 ⟨rfl, g⟩; replace E := E.tr g; clear g) | (go_at_call 14; (with_reducible refine (wakes_any _).mono ?_); rintro e WZ ⟨rfl, gZ⟩))
      go_ret
      exact ⟨rfl, E.tr gZ⟩

set_option maxRecDepth 100000 in
set_option maxHeartbeats 16000000 in
theorem adds_yes (t : Tu) (now : Int) (p : Option Addr) (xs : List Co) (c : Nat) (w : World) (hs : SlC w p xs) (hc : xs.length ≤ c) (hr : ∀ x ∈ xs, TuR x.t) (hl : xs.length ≤ 60) (hrr : rightC xs = true) (hgd : decide ((60 : Int) < xs.length) = false) (O : List Co) (k : Nat) (hk : atC xs t = k) (hok : okC xs t = false) (HKL : Hid (k ≤ xs.length)) (h32 : decide ((xs.length : Int) < 32) = true) (h0 : decide (0 ≤ now) = true) (hm : decide (now ≤ 1099511627776) = true) (HA : Hid (addX xs t now = O)) (HER : Hid (addE xs t now = 0)) (HON : Hid (O.length = xs.length + 1)) (HG : Hid (O[k]? = some (newC t now))) (HOK : Hid (atC O t = k)) (HOO : Hid (okC O t = true)) (HCX : Hid (withX (fun xs k => xs.eraseIdx k) O t = xs)) (HCW : Hid (withOk O t = true)) (HRO : Hid (rightC O = true))
    (HTH : Hid ((xs.any fun x => eqT x.t t) = false)) :
    Calls Try.prog 4 #[.slice p xs.length c, tu t.a t.b t.c t.d, .int .i64 now] w fun e w' => e = .returned (.bool true) ∧ Ext w w' := by
  go_enter Try.func4, Try.ntmps4
  go_upto_region 1 with (fail)
  obtain ⟨W0, hW⟩ : ∃ W0, w.alloc (.cells #[.int .u32 t.a, .int .u32 t.b, .int .u16 t.c, .int .u16 t.d] 26) = W0 := ⟨_, rfl⟩
  have E : Ext w W0 := by rw [← hW]; exact Ext.al (Ext.rf _) _
  have ht : TuAt W0 w.heap.size t := by rw [← hW]; unfold TuAt; simp [go_sem, Lt]
  have s := hs.ext E
  rw [hW]
  clear hW hs
  go_upto_region 3 with (first | (go_at_call 13; (with_reducible refine (great_any p xs.length c _).mono ?_); rintro e W7 ⟨rfl, rfl⟩) | (go_at_call 27; (with_reducible refine (rright_any p xs c _ s (by omega) hr).mono ?_); rw [hrr]; rintro e W5 ⟨rfl, g5⟩; replace E := E.tr g5; replace s := s.ext g5; replace ht := ht.ext g5))
  clear g5
  obtain ⟨d0, d1, d2, d3⟩ := ht.cells
  have lB : Lt w.heap.size _ := ht.2
  have HSS := Lib.hid s
  have HTT := Lib.hid ht
  have HE := Lib.hid E
  obtain ⟨Wb, hWb⟩ : ∃ Wb, W5 = Wb := ⟨_, rfl⟩
  rw [hWb] at s ht E d0 d1 d2 d3 lB HSS HTT HE ⊢
  clear hWb s ht E d0 d1 d2 d3 lB
  go_wp2
  go_loopw [7, 8] (fun v a wr => ∃ q : Nat, q ≤ xs.length ∧ a = .int .i64 q ∧ v = .bool ((xs.take q).any fun x => eqT x.t t) ∧ Ext Wb wr) (fun _ a _ => xs.length - (intOf a).toNat)
  case atStart => exact ⟨0, Nat.zero_le _, rfl, rfl, Ext.rf _⟩
  case round =>
    obtain ⟨q, hq, rfl, rfl, hE⟩ := hrel
    by_cases hlt : q < xs.length
    · have hil : (q : Int) < xs.length := by omega
      obtain ⟨b, off, rfl, lb, c0, c1, c2, c3, c4, c5⟩ := (HSS.out.ext hE) q hlt
      obtain ⟨x, hx⟩ : ∃ x, xs[q] = x := ⟨_, rfl⟩
      have hS : (xs.take (q + 1)).any (fun x => eqT x.t t) = ((xs.take q).any (fun x => eqT x.t t) || eqT x.t t) := by
        rw [List.take_succ_eq_append_getElem hlt, hx, List.any_append]; simp
      rw [hx] at c0 c1 c2 c3 c4 c5
      have lbb : Lt b wr := lb
      have hT := HTT.out.ext hE
      obtain ⟨d0, d1, d2, d3⟩ := hT.cells
      have lB : Lt w.heap.size wr := hT.2
      clear hT lb hx
      cases hany : (xs.take q).any fun x => eqT x.t t
      · rw [hany, Bool.false_or] at hS
        have HN := Lib.hid hS
        clear hS hany
        go_upto_region 7 with (fail)
        refine wp_region_later (by kernel_rfl) (by kernel_rfl) ?_; (repeat (go_big_quiet_step (fail))); refine wpQuiet_nil ?_; intro d
        have hd := later_ext d
        go_wp2
        go_roundw
        case rel => exact ⟨q + 1, by omega, by go_num, by rw [HN.out]; rfl, hE.tr hd⟩
        case measure => simp [intOf]; omega
      · rw [hany, Bool.true_or] at hS
        have HN := Lib.hid hS
        clear hS hany
        go_upto_region 7 with (fail)
        refine wp_region_later (by kernel_rfl) (by kernel_rfl) ?_; (repeat (go_big_quiet_step (fail))); refine wpQuiet_nil ?_; intro d
        have hd := later_ext d
        go_wp2
        go_roundw
        case rel => exact ⟨q + 1, by omega, by go_num, by rw [HN.out], hE.tr hd⟩
        case measure => simp [intOf]; omega
    · have hil : ¬ ((q : Int) < xs.length) := by omega
      have hth : ((xs.take q).any fun x => eqT x.t t) = false := by rw [List.take_of_length_le (by omega)]; exact HTH.out
      rw [hth]
      have E := HE.out.tr hE
      have s := HSS.out.ext hE
      have ht := HTT.out.ext hE
      obtain ⟨d0, d1, d2, d3⟩ := ht.cells
      have lB : Lt w.heap.size wr := ht.2
      clear hth hE HE HSS HTT
      go_upto_region 9 with (go_at_call 24; go_must (with_reducible refine (find_g s rfl (by omega) hk hok).mono ?_); rintro e W1 ⟨rfl, g⟩; replace E := E.tr g; replace s := s.ext g; replace ht := ht.ext g)
      clear g d0 d1 d2 d3 lB
      obtain ⟨d0, d1, d2, d3⟩ := ht.cells
      have lB : Lt w.heap.size _ := ht.2
      go_upto_region 10 with (go_at_call 15; go_must (with_reducible refine (add_g s rfl (by omega) HA.out HON.out HER.out).mono ?_); rintro e W1 ⟨p1, c1, rfl, s1, g⟩; replace E := E.tr g; replace s := s.ext g; replace ht := ht.ext g)
      clear g d0 d1 d2 d3 lB
      obtain ⟨d0, d1, d2, d3⟩ := ht.cells
      have lB : Lt w.heap.size _ := ht.2
      go_upto_region 15 with (go_at_call 24; go_must (with_reducible refine (find_g s1 HON.out (by rw [HON.out]; omega) HOK.out HOO.out).mono ?_); rintro e W1 ⟨rfl, g⟩; replace E := E.tr g; replace s := s.ext g; replace s1 := s1.ext g; replace ht := ht.ext g)
      clear g d0 d1 d2 d3 lB
      obtain ⟨d0, d1, d2, d3⟩ := ht.cells
      have lB : Lt w.heap.size _ := ht.2
      go_upto_region 16 with (go_at_call 19; go_must (with_reducible refine (close_g s1 HON.out (by rw [HON.out]; omega) HCX.out rfl HCW.out).mono ?_); rintro e W1 ⟨p2, c2, rfl, s2, g⟩; replace E := E.tr g; replace s := s.ext g; replace s1 := s1.ext g; replace ht := ht.ext g)
      clear g d0 d1 d2 d3 lB
      obtain ⟨d0, d1, d2, d3⟩ := ht.cells
      have lB : Lt w.heap.size _ := ht.2
      have HS := Lib.hid s
      have HS1 := Lib.hid s1
      have HS2 := Lib.hid s2
      have hkn := HKL.out
      have hOl := HON.out
      obtain ⟨b1, o1, rfl, lb1, y0, y1, y2, y3, y4, y5⟩ := s1 k (by omega)
      have hge : O[k]'(by omega) = newC t now := by have := HG.out; rw [List.getElem?_eq_getElem (by omega)] at this; exact Option.some.inj this
      rw [hge] at y0 y1 y2 y3 y4 y5
      change W1.cell? _ = some (.int .u32 t.a) at y0
      change W1.cell? _ = some (.int .u32 t.b) at y1
      change W1.cell? _ = some (.int .u16 t.c) at y2
      change W1.cell? _ = some (.int .u16 t.d) at y3
      change W1.cell? _ = some (.int .i64 now) at y4
      change W1.cell? _ = some (.int .i64 now) at y5
      have lbb : Lt b1 W1 := lb1
      have hkn1 : (k : Int) ≤ (xs.length : Int) := by omega
      have hkn2 : (k : Int) < (xs.length : Int) + 1 := by omega
      have hkn3 : k < xs.length + 1 := by omega
      have hk0 : (0 : Int) ≤ (k : Nat) := by omega
      have hw1 : IntKind.i64.wrap ((xs.length : Int) + 1) = ((xs.length + 1 : Nat) : Int) := by rw [IntKind.wrap_i64]; omega
      clear s s1 s2 lb1 hge ht hOl
      refine wp_region_later (by kernel_rfl) (by kernel_rfl) ?_; (repeat (go_big_quiet_step (first | (go_at_call 26; exact calls_later (right_g (HS1.out.ext (later_ext _)) HON.out (by rw [HON.out]; omega) HRO.out)) | (go_at_call 23; exact calls_later (same_g (HS2.out.ext (later_ext _)) (HS.out.ext (later_ext _)) rfl (by omega))) | (go_at_call 14; exact calls_later (wakes_any _))))); refine wpQuiet_nil ?_; intro d
      have hd := later_ext d
      go_wp2
      go_ret
      exact ⟨rfl, E.tr hd⟩

theorem adds_walk (t : Tu) (now : Int) (p : Option Addr) (xs : List Co) (c : Nat) (w : World) (hs : SlC w p xs) (hc : xs.length ≤ c) (hr : ∀ x ∈ xs, TuR x.t) (hrt : TuR t) :
    Calls Try.prog 4 #[.slice p xs.length c, tu t.a t.b t.c t.d, .int .i64 now] w fun e w' => e = .returned (.bool true) ∧ Ext w w' := by
  cases hg : decide ((60 : Int) < xs.length)
  rotate_left
  · exact adds_great t now p xs c w hs hc hr hg
  have hl : xs.length ≤ 60 := by have := of_decide_eq_false hg; omega
  cases hrr : rightC xs
  · exact adds_wrong t now p xs c w hs hc hr hl hrr hg
  have hE : addE xs t now = if addB xs now = true then 2 else if okC xs t = true then 201 else if (xs.length : Int) < 32 then 0 else 150 := rfl
  have hB : addB xs now = (!rightC xs || decide (now < 0) || decide (1099511627776 < now)) := rfl
  have hX : addX xs t now = if addE xs t now = 0 then insAt xs (atC xs t) (newC t now) else xs := rfl
  have hT := ok_there hrr t
  cases hok : okC xs t
  rotate_left
  · have hne : addE xs t now ≠ 0 := by rw [hE, hok]; split <;> simp
    rw [if_neg hne] at hX
    exact adds_no1 t now p xs c w hs hc hr hl hrr hg (addE xs t now) (atC xs t) rfl (by simpa using hne) (by simpa using hne) (Lib.hid hX) (Lib.hid rfl) hok (Lib.hid (by rw [← hT, hok]))
  · have hth : (xs.any fun x => eqT x.t t) = false := by rw [← hT, hok]
    by_cases h32 : (xs.length : Int) < 32
    rotate_left
    · have hne : addE xs t now ≠ 0 := by rw [hE, hok]; split <;> simp [h32]
      rw [if_neg hne] at hX
      exact adds_no2 t now p xs c w hs hc hr hl hrr hg (addE xs t now) (atC xs t) rfl (by simpa using hne) (by simpa using hne) (Lib.hid hX) (Lib.hid rfl) hok (decide_eq_false h32) (Lib.hid hth)
    by_cases h0 : 0 ≤ now
    rotate_left
    · have hne : addE xs t now ≠ 0 := by
        rw [hE, hB, hrr, decide_eq_true (show now < 0 by omega)]; simp
      rw [if_neg hne] at hX
      exact adds_no3 t now p xs c w hs hc hr hl hrr hg (addE xs t now) (atC xs t) rfl (by simpa using hne) (by simpa using hne) (Lib.hid hX) (Lib.hid rfl) hok (decide_eq_true h32) (decide_eq_false h0) (Lib.hid hth)
    by_cases hm : now ≤ 1099511627776
    rotate_left
    · have hne : addE xs t now ≠ 0 := by
        rw [hE, hB, hrr, decide_eq_true (show 1099511627776 < now by omega)]; simp
      rw [if_neg hne] at hX
      exact adds_no4 t now p xs c w hs hc hr hl hrr hg (addE xs t now) (atC xs t) rfl (by simpa using hne) (by simpa using hne) (Lib.hid hX) (Lib.hid rfl) hok (decide_eq_true h32) (decide_eq_true h0) (decide_eq_false hm) (Lib.hid hth)
    have he0 : addE xs t now = 0 := by
      rw [hE, hB, hrr, hok, decide_eq_false (show ¬ now < 0 by omega), decide_eq_false (show ¬ 1099511627776 < now by omega)]
      simp [h32]
    rw [if_pos he0] at hX
    have hro := add_right (t := t) (now := now) hrr (by omega) h0 hm hok
    have hga : (insAt xs (atC xs t) (newC t now))[atC xs t]? = some (newC t now) := add_at
    obtain ⟨ha, hoo⟩ := at_iff hro hga (show (newC t now).t = t from rfl)
    exact adds_yes t now p xs c w hs hc hr hl hrr hg (insAt xs (atC xs t) (newC t now)) (atC xs t) rfl hok (Lib.hid (at_le xs t)) (decide_eq_true h32) (decide_eq_true h0) (decide_eq_true hm) (Lib.hid hX) (Lib.hid he0) (Lib.hid (insAt_len _ _ _)) (Lib.hid hga) (Lib.hid ha) (Lib.hid hoo)
      (Lib.hid (by unfold withX withOk; rw [hoo, hro, ha]; exact insAt_erase _ _ _ (at_le xs t))) (Lib.hid (by unfold withOk; rw [hoo, hro]; rfl)) (Lib.hid hro) (Lib.hid hth)

set_option maxRecDepth 100000 in
theorem connsAdds_lifted (os : Os) (started : os.Started) (H : Type) (enc : TypeId × Value → H) :
    ReturnsInHanded {} Try.checked os 4 .any (Rows.connsAddsSpec.pre6 enc Try.prog Try.f4 Rows.connsAddsRow.domain false) (Rows.connsAddsSpec.post enc Try.prog Try.f4 false true false false) := by
  refine law_lift 4 ownKn started (by kernel_rfl) Try.func4 (ChangeSpec.witness6 (enc := enc) (C := Try.checked) false ⟨#[], #[.slice none 0 0, tu 0 0 0 0, .int .i64 0], []⟩ 8 (by kernel_rfl) (by kernel_rfl) (by kernel_rfl) (by kernel_rfl)) laidOut rfl (by kernel_rfl) Try.underlying4 ?_ (by kernel_rfl) ?_
  · intro ds h
    match ds, h with
    | [d0, d1, d2], _ => rfl
  · intro W base args ds p hval hA hlt
    have hval' : ∀ (j : Nat) t v, Try.f4.params[j]? = some t → args[j]? = some v → Value.okWide Try.prog W .any base t v := hval
    have hA' : DataW.TrodAll enc Try.prog W 0 (fun _ => true) true Try.f4.params.toList args.toList ds p := hA
    rw [Try.params4] at hA' hval'
    obtain ⟨v0, vs0, d0, ds0, p0, q0, hargs, rfl, rfl, h0, r0⟩ := trodAll_cons hA'
    obtain ⟨v1, vs1, d1, ds1, p1, q1, rfl, rfl, rfl, h1, r1⟩ := trodAll_cons r0
    obtain ⟨v2, vs2, d2, ds2, p2, q2, rfl, rfl, rfl, h2, r2⟩ := trodAll_cons r1
    obtain ⟨rfl, rfl, rfl⟩ := trodAll_nil r2
    obtain rfl : args = #[v0, v1, v2] := by cases args; simp_all
    obtain ⟨p_, xs, c_, rfl, hs_, hc_, hr_⟩ := open_C (hval' 0 _ v0 rfl rfl) h0
    obtain ⟨t, rfl, ht_⟩ := open_tu (hval' 1 _ v1 rfl rfl) h1
    obtain ⟨now, rfl, _, _, w_now⟩ := open_int Try.underlying3 (hval' 2 _ v2 rfl rfl) h2
    exact adds_walk t now p_ xs c_ W hs_ hc_ hr_ ht_

theorem connsAdds_holds : Rows.ConnsAddsSaid :=
  OpenClaim.holds_of_wide 4 Try.f4 rfl rfl rfl rfl rfl rfl rfl ⟨rfl, rfl, rfl, rfl, rfl⟩ rfl rfl rfl rfl rfl (by kernel_rfl) Try.func4 (by kernel_rfl)
    (of_decide_eq_true (by kernel_rfl)) (by unfold Func.isWrapper; first | (rw [if_pos (by decide +kernel)]; kernel_rfl) | (rw [if_neg (by decide +kernel)]; exact ⟨rfl, rfl⟩))
    (fun os started H enc _ => connsAdds_lifted os started H enc)
#print axioms connsAdds_holds

end Go.Proofs.Ytookffaojlkfaaa
