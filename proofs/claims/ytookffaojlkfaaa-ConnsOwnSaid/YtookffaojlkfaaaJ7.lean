/- The document's Add. -/
import Derived.Test.YtookffaojlkfaaaJ6
set_option linter.unusedSimpArgs false
set_option linter.unusedVariables false
namespace Go.Proofs.Ytookffaojlkfaaa
open Go.RowKit

def SchAd (ops : Array Oper) : Prop := Region.noSelect ops = true ∧ takesB ops 16 [0, 1, 2, 4, 5, 6, 7, 10, 11, 12] [] = true ∧ Region.ready .any ops (don 16 [12, 11, 10, 7, 6, 5, 4, 2, 1, 0]) = [3, 8] ∧ Region.ready .any ops (don 16 [3, 12, 11, 10, 7, 6, 5, 4, 2, 1, 0]) = [8] ∧ Region.ready .any ops (don 16 [8, 12, 11, 10, 7, 6, 5, 4, 2, 1, 0]) = [3] ∧ don 16 [3, 8, 12, 11, 10, 7, 6, 5, 4, 2, 1, 0] = don 16 [8, 3, 12, 11, 10, 7, 6, 5, 4, 2, 1, 0] ∧ Region.ready .any ops (don 16 [8, 3, 12, 11, 10, 7, 6, 5, 4, 2, 1, 0]) = [9] ∧ Region.ready .any ops (don 16 [9, 8, 3, 12, 11, 10, 7, 6, 5, 4, 2, 1, 0]) = [13] ∧ takesB ops 16 [14, 15] [13, 9, 8, 3, 12, 11, 10, 7, 6, 5, 4, 2, 1, 0] = true ∧ Region.ready .any ops (don 16 [15, 14, 13, 9, 8, 3, 12, 11, 10, 7, 6, 5, 4, 2, 1, 0]) = []
theorem schAd : SchAd ((Try.f16.body.bind (findR 8)).getD #[]) := ⟨by kernel_rfl, by kernel_rfl, by kernel_rfl, by kernel_rfl, by kernel_rfl, by kernel_rfl, by kernel_rfl, by kernel_rfl, by kernel_rfl, by kernel_rfl⟩
theorem SlC.one {w : World} {b : Nat} {x : Co} (h : w.heap[b]? = some (.cells #[.int .u32 x.t.a, .int .u32 x.t.b, .int .u16 x.t.c, .int .u16 x.t.d, .int .i64 x.s, .int .i64 x.l] 43)) : SlC w (some ⟨b, 0, none⟩) [x] := fun k hk => by
  obtain rfl : k = 0 := by simpa using hk
  have hb := (Array.getElem?_eq_some_iff.1 h).1
  have e : rowD w b = #[.int .u32 x.t.a, .int .u32 x.t.b, .int .u16 x.t.c, .int .u16 x.t.d, .int .i64 x.s, .int .i64 x.l] := by unfold rowD; rw [h]
  refine ⟨b, 0, rfl, hb, ?_, ?_, ?_, ?_, ?_, ?_⟩ <;> rw [cell_rowD, e] <;> rfl
/-- A call, and a row that is made: in either order. -/
theorem forkM {P : Program} {ops : Array Oper} {C : Nat → Prop} {R : Value → World → Prop} {Q : Act → World → Prop} {N i j : Nat} {d : List Nat} {oi oj : Oper} {f : FuncId} {xa : Array Value} {fuel : Nat} {a : Act} {w : World} {V : Nat → Value} {o : Obj}
    (r0 : Region.ready .any ops (don N d) = [i, j]) (r1 : Region.ready .any ops (don N (i :: d)) = [j]) (r2 : Region.ready .any ops (don N (j :: d)) = [i]) (hdd : don N (i :: j :: d) = don N (j :: i :: d)) (hi : ops[i]? = some oi) (hj : ops[j]? = some oj) (wi : ∀ T, Region.wanted oi T = true) (wj : ∀ T, Region.wanted oj T = true)
    (ei : ∀ w', (execOp a.eval oi).run P w' = .ok (.enter f xa) w') (ei' : ∀ v w', (execOp (a.put oj.dst v).eval oi).run P w' = .ok (.enter f xa) w')
    (ej : ∀ w' : World, (execOp a.eval oj).run P w' = .ok (.value (V w'.heap.size)) (w'.alloc o)) (ej' : ∀ v (w' : World), (execOp (a.put oi.dst v).eval oj).run P w' = .ok (.value (V w'.heap.size)) (w'.alloc o))
    (ci : ∀ w', Ext w w' → Calls P f xa w' fun e w'' => ∃ v, e = .returned v ∧ R v w'' ∧ Ext w' w'') (s1 : ∀ v w1 w2, R v w1 → Ext w1 w2 → R v w2)
    (hpc : ∀ v1 v2, (a.put oi.dst v1).put oj.dst v2 = (a.put oj.dst v2).put oi.dst v1)
    (H : ∀ v1 b w', Ext w w' → R v1 w' → w'.heap[b]? = some o → wpAnyK C P .any ops Q fuel (don N (j :: i :: d)) ((a.put oi.dst v1).put oj.dst (V b)) w') : wpAnyK C P .any ops Q (fuel + 2) (don N d) a w := by
  refine forkD r0 ?_ ?_
  · refine callD (R := R) hi (wi _) (ei w) (ci w (Ext.rf _)) fun v1 w1 h3 h2 => ?_
    have hE := Ext.al (Ext.rf w1) o
    refine soleD r1 (makeD hj (wj _) (ej' v1 w1) (Mv.of_ext hE) ?_)
    exact H v1 w1.heap.size _ (h3.tr hE) (s1 _ _ _ h2 hE) (World.alloc_heap_new _ _)
  · have hE := Ext.al (Ext.rf w) o
    refine makeD hj (wj _) (ej w) (Mv.of_ext hE) ?_
    refine soleD r2 (callD (R := R) hi (wi _) (ei' _ _) (ci _ hE) fun v1 w2 g3 g2 => ?_)
    rw [hdd, ← hpc]
    exact H v1 w.heap.size w2 (hE.tr g3) g2 ((g3.block _ (by simp)).trans (World.alloc_heap_new _ _))
theorem bldC_run {t : Tu} {now : Int} (ρ : Operand → Value) (dst : Option Tmp) (x : Operand) (ty : TypeId) (pos : String) (after : Array Edge) (g : Option (Nat × Bool)) (hx : ρ x = .agg #[.int .u32 t.a, .int .u32 t.b, .int .u16 t.c, .int .u16 t.d, .int .i64 now, .int .i64 now]) (w : World) :
    (execOp ρ ⟨dst, .buildSlice 22 1 #[(0, x)], ty, pos, after, g⟩).run Try.prog w = .ok (.value (.slice (some ⟨w.heap.size, 0, none⟩) 1 1)) (w.alloc (.cells #[.int .u32 t.a, .int .u32 t.b, .int .u16 t.c, .int .u16 t.d, .int .i64 now, .int .i64 now] 43)) := by
  simp only [execOp]
  go_simp
set_option maxRecDepth 100000 in
set_option maxHeartbeats 8000000 in
theorem radd_any (t : Tu) (now : Int) (p : Option Addr) (xs : List Co) (c : Nat) (w : World) (hs : SlC w p xs) (hl : xs.length ≤ 1000) (hc : xs.length ≤ c) (hr : ∀ x ∈ xs, TuR x.t) (hrt : TuR t) :
    Calls Try.prog 16 #[.slice p xs.length c, tu t.a t.b t.c t.d, .int .i64 now] w fun e w' => ∃ v, e = .returned (.tuple #[v, .int .i64 (addE xs t now)]) ∧ w'.ownsRow w.heap.size 43 6 v (addX xs t now).length (flC (addX xs t now)) ∧ Ext w w' := by
  have HRR := Lib.hid hr
  have HRT := Lib.hid hrt
  clear hr hrt
  go_enter Try.func16, Try.ntmps16
  go_upto_region 1 with (fail)
  obtain ⟨W0, hW⟩ : ∃ W0, w.alloc (.cells #[.int .u32 t.a, .int .u32 t.b, .int .u16 t.c, .int .u16 t.d] 26) = W0 := ⟨_, rfl⟩
  have g0 : Ext w W0 := by rw [← hW]; exact Ext.al (Ext.rf _) _
  have ht : TuAt W0 w.heap.size t := by rw [← hW]; unfold TuAt; simp [go_sem, Lt]
  have s0 := hs.ext g0
  have hsz : w.heap.size ≤ W0.heap.size := g0.size
  have HS0 := Lib.hid hs
  rw [hW]
  clear hW hs
  obtain ⟨d0, d1, d2, d3⟩ := ht.cells
  have lB : Lt w.heap.size W0 := ht.2
  go_upto_region 2 with (go_at_call 25; go_must (with_reducible refine (rfind_any t p xs c _ s0 hl HRR.out HRT.out).mono ?_); rintro e W2 ⟨rfl, g2⟩)
  have s2 := s0.ext g2
  have e2 := g0.tr g2
  have ht2 := ht.ext g2
  have hb2 := e2.size
  clear d0 d1 d2 d3 lB ht s0 g0 g2 hsz
  have hE : addE xs t now = if addB xs now = true then 2 else if okC xs t = true then 201 else if (xs.length : Int) < 32 then 0 else 150 := rfl
  have hB : addB xs now = (!rightC xs || decide (now < 0) || decide (1099511627776 < now)) := rfl
  have hX : addX xs t now = if addE xs t now = 0 then insAt xs (atC xs t) (newC t now) else xs := rfl
  have dn0 : ∀ (k : Int) v W3 W4, k ≠ 0 → Ext W2 W3 → W4.ownsRow W3.heap.size 43 6 v xs.length (flC xs) → Ext W3 W4 → addE xs t now = k → ∃ v', (Ending.returned (.tuple #[v, .int .i64 k])) = .returned (.tuple #[v', .int .i64 (addE xs t now)]) ∧ W4.ownsRow w.heap.size 43 6 v' (addX xs t now).length (flC (addX xs t now)) ∧ Ext w W4 := by
    intro k v W3 W4 hk g3 ho g4 h
    rw [h, if_neg hk] at hX
    exact ⟨v, by rw [h], by rw [hX]; exact ownsRow_le ho (Nat.le_trans hb2 g3.size), (e2.tr g3).tr g4⟩
  have DN := Lib.hid dn0
  clear dn0
  cases hr : rightC xs
  · have HE := Lib.hid (show addE xs t now = 2 by rw [hE, hB, hr]; rfl)
    clear hE hB hX
    go_wp2_with (first | (go_at_call 27; (with_reducible refine (rright_any p xs c _ s2 hl HRR.out).mono ?_); rw [hr]; rintro e W3 ⟨rfl, g3⟩; have s9 := Lib.hid (s2.ext g3)) | (go_at_call 54; (with_reducible refine (own_C p xs c _ s9.out hl).mono ?_); rintro e W4 ⟨v, rfl, ho, g4⟩; have HW := Lib.hid ho; clear ho))
    exact bodyPost_ret (v := .tuple #[v, .int .i64 2]) (by simp [results, Try.results16, go_sem]) rfl (DN.out 2 v W3 W4 (by omega) g3 HW.out g4 HE.out)
  by_cases h1 : now < 0
  · have HE := Lib.hid (show addE xs t now = 2 by rw [hE, hB, hr, decide_eq_true h1]; rfl)
    clear hE hB hX
    go_wp2_with (first | (go_at_call 27; (with_reducible refine (rright_any p xs c _ s2 hl HRR.out).mono ?_); rw [hr]; rintro e W3 ⟨rfl, g3⟩; have s9 := Lib.hid (s2.ext g3)) | (go_at_call 54; (with_reducible refine (own_C p xs c _ s9.out hl).mono ?_); rintro e W4 ⟨v, rfl, ho, g4⟩; have HW := Lib.hid ho; clear ho))
    exact bodyPost_ret (v := .tuple #[v, .int .i64 2]) (by simp [results, Try.results16, go_sem]) rfl (DN.out 2 v W3 W4 (by omega) g3 HW.out g4 HE.out)
  by_cases h2 : 1099511627776 < now
  · have HE := Lib.hid (show addE xs t now = 2 by rw [hE, hB, hr, decide_eq_true h2]; simp)
    clear hE hB hX
    go_wp2_with (first | (go_at_call 27; (with_reducible refine (rright_any p xs c _ s2 hl HRR.out).mono ?_); rw [hr]; rintro e W3 ⟨rfl, g3⟩; have s9 := Lib.hid (s2.ext g3)) | (go_at_call 54; (with_reducible refine (own_C p xs c _ s9.out hl).mono ?_); rintro e W4 ⟨v, rfl, ho, g4⟩; have HW := Lib.hid ho; clear ho))
    exact bodyPost_ret (v := .tuple #[v, .int .i64 2]) (by simp [results, Try.results16, go_sem]) rfl (DN.out 2 v W3 W4 (by omega) g3 HW.out g4 HE.out)
  rw [hr, decide_eq_false h1, decide_eq_false h2] at hB
  rw [hB] at hE
  simp only [Bool.not_true, Bool.or_false, Bool.false_eq_true, if_false] at hE
  cases hok : okC xs t
  rotate_left
  · have HE := Lib.hid (show addE xs t now = 201 by rw [hE, hok]; rfl)
    clear hE hB hX
    go_wp2_with (first | (go_at_call 27; (with_reducible refine (rright_any p xs c _ s2 hl HRR.out).mono ?_); rw [hr]; rintro e W3 ⟨rfl, g3⟩; have s9 := Lib.hid (s2.ext g3)) | (go_at_call 54; (with_reducible refine (own_C p xs c _ s9.out hl).mono ?_); rintro e W4 ⟨v, rfl, ho, g4⟩; have HW := Lib.hid ho; clear ho))
    exact bodyPost_ret (v := .tuple #[v, .int .i64 201]) (by simp [results, Try.results16, go_sem]) rfl (DN.out 201 v W3 W4 (by omega) g3 HW.out g4 HE.out)
  rw [hok] at hE
  simp only [Bool.false_eq_true, if_false] at hE
  by_cases h3 : (xs.length : Int) < 32
  rotate_left
  · have HE := Lib.hid (show addE xs t now = 150 by rw [hE, if_neg h3])
    have hd3 : decide ((xs.length : Int) < 32) = false := decide_eq_false h3
    clear h3
    clear hE hB hX
    go_wp2_with (first | (go_at_call 27; (with_reducible refine (rright_any p xs c _ s2 hl HRR.out).mono ?_); rw [hr]; rintro e W3 ⟨rfl, g3⟩; have s9 := Lib.hid (s2.ext g3)) | (go_at_call 54; (with_reducible refine (own_C p xs c _ s9.out hl).mono ?_); rintro e W4 ⟨v, rfl, ho, g4⟩; have HW := Lib.hid ho; clear ho) | (go_at_call 29; (with_reducible refine (rroom_any p xs.length c _).mono ?_); rintro e W7 ⟨rfl, rfl⟩))
    exact bodyPost_ret (v := .tuple #[v, .int .i64 150]) (by simp [results, Try.results16, go_sem]) rfl (DN.out 150 v W3 W4 (by omega) g3 HW.out g4 HE.out)
  have hd3 : decide ((xs.length : Int) < 32) = true := decide_eq_true h3
  rw [if_pos h3] at hE
  clear h3
  rw [hE, if_pos rfl] at hX
  have HE := Lib.hid hE
  have HX := Lib.hid hX
  have hat := at_le xs t
  clear hE hB hX DN
  obtain ⟨k, hk⟩ : ∃ k, atC xs t = k := ⟨_, rfl⟩
  rw [hk] at HX hat ⊢
  clear hk
  go_upto_region 8 with (first | (go_at_call 27; (with_reducible refine (rright_any p xs c _ s2 hl HRR.out).mono ?_); rw [hr]; rintro e W3 ⟨rfl, g3⟩) | (go_at_call 29; (with_reducible refine (rroom_any p xs.length c _).mono ?_); rintro e W7 ⟨rfl, rfl⟩))
  refine wp_region_K (fun k => w.heap.size + 1 ≤ k) (by kernel_rfl) ?_
  obtain ⟨W5, hW5⟩ : ∃ W5, W3.drew = W5 := ⟨_, rfl⟩
  have g5 : Ext W3 W5 := by rw [← hW5]; exact Ext.dr (Ext.rf _)
  rw [hW5]
  clear hW5
  have s5 := (s2.ext g3).ext g5
  have t5 := (ht2.ext g3).ext g5
  have e5 := e2.tr (g3.tr g5)
  have hb5 : w.heap.size + 1 ≤ W5.heap.size := t5.2
  refine withK (N := 16) (R := SchAd) (E := ((Try.f16.body.bind (findR 8)).getD #[])) (by kernel_rfl) schAd (by kernel_rfl) fun hS => ?_
  have hT := hS.2.1
  obtain ⟨q, c2, sq0, hq⟩ := hi_run HS0.out (k := k) hat hc
  refine takeD (N := 16) (k := 0) (v := .slice p xs.length c) hS.1 hT rfl (by kernel_rfl) (fun _ _ => by kernel_rfl) fun hT => ?_
  refine takeD (N := 16) (k := 1) (v := .int .i64 (k : Nat)) hS.1 hT rfl (by kernel_rfl) (fun _ _ => by kernel_rfl) fun hT => ?_
  refine takeD (N := 16) (k := 2) (v := .slice p k c) hS.1 hT rfl (by kernel_rfl) (fun w' _ => lo_run hat hc (fun e => by subst e; have := s5.nil_of; subst this; exact .inr (by simpa using hat)) _ _ _ _ _ _ _ _ (by kernel_rfl) (by kernel_rfl) w') fun hT => ?_
  refine takeD (N := 16) (k := 4) (v := (tu t.a t.b t.c t.d)) hS.1 hT rfl (by kernel_rfl) (ldT_run t5 (by omega) _ _ _ _ _ _ _ (by kernel_rfl)) fun hT => ?_
  refine takeD (N := 16) (k := 5) (v := .int .i64 now) hS.1 hT rfl (by kernel_rfl) (fun _ _ => by kernel_rfl) fun hT => ?_
  refine takeD (N := 16) (k := 6) (v := .int .i64 now) hS.1 hT rfl (by kernel_rfl) (fun _ _ => by kernel_rfl) fun hT => ?_
  refine takeD (N := 16) (k := 7) (v := .agg #[.int .u32 t.a, .int .u32 t.b, .int .u16 t.c, .int .u16 t.d, .int .i64 now, .int .i64 now]) hS.1 hT rfl (by kernel_rfl) (fun _ _ => by kernel_rfl) fun hT => ?_
  refine takeD (N := 16) (k := 10) (v := .slice p xs.length c) hS.1 hT rfl (by kernel_rfl) (fun _ _ => by kernel_rfl) fun hT => ?_
  refine takeD (N := 16) (k := 11) (v := .int .i64 (k : Nat)) hS.1 hT rfl (by kernel_rfl) (fun _ _ => by kernel_rfl) fun hT => ?_
  refine takeD (N := 16) (k := 12) (v := .slice q (xs.drop k).length c2) hS.1 hT rfl (by kernel_rfl) (fun w' _ => hq _ _ _ _ _ _ _ _ (by kernel_rfl) (by kernel_rfl) w') fun hT => ?_
  refine forkM (R := fun v w' => w'.ownsRow (w.heap.size + 1) 43 6 v k (flC (xs.take k))) (V := fun b => .slice (some ⟨b, 0, none⟩) 1 1) (o := .cells #[.int .u32 t.a, .int .u32 t.b, .int .u16 t.c, .int .u16 t.d, .int .i64 now, .int .i64 now] 43) hS.2.2.1 hS.2.2.2.1 hS.2.2.2.2.1 hS.2.2.2.2.2.1 rfl rfl (fun _ => rfl) (fun _ => rfl) (fun _ => by kernel_rfl) (fun _ _ => by kernel_rfl)
    (fun w' => bldC_run (t := t) (now := now) _ _ _ _ _ _ _ (by kernel_rfl) w') (fun _ w' => bldC_run (t := t) (now := now) _ _ _ _ _ _ _ (by kernel_rfl) w')
    (fun w' e => (own_take p xs k c w' (s5.ext e) hat hl).mono fun e2 w'' ⟨v, h1, h2, h3⟩ => ⟨v, h1, ownsRow_le h2 (Nat.le_trans hb5 e.size), h3⟩) (fun v w1 w2 h e => own_ext h e) (fun _ _ => by kernel_rfl) ?_
  intro v1 bx W6 g6 o6 hbx
  have sx : SlC W6 (some ⟨bx, 0, none⟩) [newC t now] := SlC.one hbx
  have hb6 := Nat.le_trans hb5 g6.size
  refine soleD hS.2.2.2.2.2.2.1 (appDC (v1 := v1) (q := some ⟨bx, 0, none⟩) (ys := [newC t now]) (c2 := 1) rfl (by kernel_rfl) (by kernel_rfl) o6 sx (by simp; omega) hb6 fun v7 W7 gr7 m7 o7 => ?_)
  have sq7 : SlC W7 q (xs.drop k) := sq0.ext (Mv.ext_of (e5.tr g6) m7 (fun k h => by omega))
  refine soleD hS.2.2.2.2.2.2.2.1 (appDC (v1 := v7) (q := q) (ys := xs.drop k) (c2 := c2) rfl (by kernel_rfl) (by kernel_rfl) o7 sq7 (by simp; omega) (Nat.le_trans hb6 m7.size) fun v8 W8 gr8 m8 o8 => ?_)
  have hT := hS.2.2.2.2.2.2.2.2.1
  refine takeD (N := 16) (k := 14) (v := v8) hS.1 hT rfl (by kernel_rfl) (fun _ _ => by kernel_rfl) fun hT => ?_
  refine takeD (N := 16) (k := 15) (v := .int .i64 0) hS.1 hT rfl (by kernel_rfl) (fun _ _ => by kernel_rfl) fun hT => ?_
  refine doneK hS.2.2.2.2.2.2.2.2.2 ?_
  have E8 : Ext w W8 := Mv.ext_of (e5.tr g6) (m7.trans m8) (fun k h => by omega)
  have HF := Lib.hid (show k + [newC t now].length + (xs.drop k).length = (insAt xs k (newC t now)).length ∧ flC (xs.take k) ++ flC [newC t now] ++ flC (xs.drop k) = flC (insAt xs k (newC t now)) by
    refine ⟨by rw [insAt_len, List.length_drop]; simp; omega, ?_⟩
    unfold insAt flC; simp)
  have HO8 := Lib.hid (ownsRow_le o8 (Nat.le_succ w.heap.size))
  clear hS hT o6 o7 o8 m7 m8 gr7 gr8
  go_simp
  go_wp2
  exact bodyPost_ret (v := .tuple #[v8, .int .i64 0]) (by simp [results, Try.results16, go_sem]) rfl ⟨v8, by rw [HE.out], by rw [HX.out, ← HF.out.1, ← HF.out.2]; exact HO8.out, E8⟩

end Go.Proofs.Ytookffaojlkfaaa
