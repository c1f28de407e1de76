/- The document's Close. -/
import Derived.Test.YtookffaojlkfaaaJL
set_option linter.unusedSimpArgs false
set_option linter.unusedVariables false
namespace Go.Proofs.Ytookffaojlkfaaa
open Go.RowKit

def SchCl (ops : Array Oper) : Prop := Region.noSelect ops = true ∧ takesB ops 11 [0, 1, 2, 4, 5, 6, 7] [] = true ∧ Region.ready .any ops (don 11 [7, 6, 5, 4, 2, 1, 0]) = [3] ∧ Region.ready .any ops (don 11 [3, 7, 6, 5, 4, 2, 1, 0]) = [8] ∧ takesB ops 11 [9, 10] [8, 3, 7, 6, 5, 4, 2, 1, 0] = true ∧ Region.ready .any ops (don 11 [10, 9, 8, 3, 7, 6, 5, 4, 2, 1, 0]) = []
theorem schCl : SchCl ((Try.f20.body.bind (findR 4)).getD #[]) := ⟨by kernel_rfl, by kernel_rfl, by kernel_rfl, by kernel_rfl, by kernel_rfl, by kernel_rfl⟩
theorem add1_run {k : Nat} (hk : k ≤ 2000) (ρ : Operand → Value) (dst : Option Tmp) (x : Operand) (ty : TypeId) (pos : String) (after : Array Edge) (g : Option (Nat × Bool)) (hx : ρ x = .int .i64 (k : Nat)) (h1 : ρ (.const (.int .i64 1)) = .int .i64 1) (w : World) :
    (execOp ρ ⟨dst, .binOp .add 3 x (.const (.int .i64 1)) 3, ty, pos, after, g⟩).run Try.prog w = .ok (.value (.int .i64 ((k + 1 : Nat) : Int))) w := by
  have hw : IntKind.i64.wrap ((k : Int) + 1) = (k : Int) + 1 := by rw [IntKind.wrap_i64]; omega
  simp only [execOp, hx, h1]
  go_simp
theorem own_take (p : Option Addr) (xs : List Co) (k c : Nat) (w : World) (hs : SlC w p xs) (hk : k ≤ xs.length) (hl : xs.length ≤ 1000) :
    Calls Try.prog 54 #[.slice p k c] w fun e w' => ∃ v, e = .returned v ∧ w'.ownsRow w.heap.size 43 6 v k (flC (xs.take k)) ∧ Ext w w' := by
  have e : (xs.take k).length = k := by rw [List.length_take]; omega
  have h := own_C p (xs.take k) c w (hs.take k) (by omega)
  rw [e] at h
  exact h
set_option maxRecDepth 100000 in
set_option maxHeartbeats 8000000 in
theorem rclose_any (t : Tu) (p : Option Addr) (xs : List Co) (c : Nat) (w : World) (hs : SlC w p xs) (hl : xs.length ≤ 1000) (hc : xs.length ≤ c) (hr : ∀ x ∈ xs, TuR x.t) (hrt : TuR t) :
    Calls Try.prog 20 #[.slice p xs.length c, tu t.a t.b t.c t.d] w fun e w' => ∃ v, e = .returned (.tuple #[v, .bool (withOk xs t)]) ∧ w'.ownsRow w.heap.size 43 6 v (withX (fun xs k => xs.eraseIdx k) xs t).length (flC (withX (fun xs k => xs.eraseIdx k) xs t)) ∧ Ext w w' := by
  have HRR := Lib.hid hr
  have HRT := Lib.hid hrt
  clear hr hrt
  go_enter Try.func20, Try.ntmps20
  go_upto_region 1 with (fail)
  obtain ⟨W0, hW⟩ : ∃ W0, w.alloc (.cells #[.int .u32 t.a, .int .u32 t.b, .int .u16 t.c, .int .u16 t.d] 26) = W0 := ⟨_, rfl⟩
  have g0 : Ext w W0 := by rw [← hW]; exact Ext.al (Ext.rf _) _
  have ht : TuAt W0 w.heap.size t := by rw [← hW]; unfold TuAt; simp [go_sem, Lt]
  have s0 := hs.ext g0
  have hsz : w.heap.size ≤ W0.heap.size := g0.size
  have HS0 := Lib.hid hs
  rw [hW]
  clear hW hs
  obtain ⟨d0, d1, d2, d3⟩ := ht.cells
  have lB : Lt w.heap.size W0 := ht.2
  go_upto_region 2 with (go_at_call 25; go_must (with_reducible refine (rfind_any t p xs c _ s0 hl HRR.out HRT.out).mono ?_); rintro e W2 ⟨rfl, g2⟩)
  have s2 := s0.ext g2
  have e2 := g0.tr g2
  have hb2 := e2.size
  clear d0 d1 d2 d3 lB ht s0 g0 g2 hsz
  have hX : withX (fun xs k => xs.eraseIdx k) xs t = if withOk xs t = true then xs.eraseIdx (atC xs t) else xs := rfl
  have hO : withOk xs t = (okC xs t && rightC xs) := rfl
  cases hrr : rightC xs
  · rw [hrr, Bool.and_false] at hO
    rw [hO, if_neg (by simp)] at hX
    have HO := Lib.hid hO
    have HX := Lib.hid hX
    clear hO hX
    go_wp2_with (first | (go_at_call 27; (with_reducible refine (rright_any p xs c _ s2 hl HRR.out).mono ?_); rw [hrr]; rintro e W3 ⟨rfl, g3⟩) | (go_at_call 54; (with_reducible refine (own_C p xs c _ (s2.ext g3) hl).mono ?_); rintro e W4 ⟨v, rfl, ho, g4⟩; have HW := Lib.hid ho; clear ho))
    exact bodyPost_ret (v := .tuple #[v, .bool false]) (by simp [results, Try.results20, go_sem]) rfl ⟨v, by rw [HO.out], by rw [HX.out]; exact ownsRow_le HW.out (Nat.le_trans hb2 g3.size), (e2.tr g3).tr g4⟩
  · rw [hrr, Bool.and_true] at hO
    cases hok : okC xs t
    · rw [hok] at hO
      rw [hO, if_neg (by simp)] at hX
      have HO := Lib.hid hO
      have HX := Lib.hid hX
      clear hO hX
      go_wp2_with (first | (go_at_call 27; (with_reducible refine (rright_any p xs c _ s2 hl HRR.out).mono ?_); rw [hrr]; rintro e W3 ⟨rfl, g3⟩) | (go_at_call 54; (with_reducible refine (own_C p xs c _ (s2.ext g3) hl).mono ?_); rintro e W4 ⟨v, rfl, ho, g4⟩; have HW := Lib.hid ho; clear ho))
      exact bodyPost_ret (v := .tuple #[v, .bool false]) (by simp [results, Try.results20, go_sem]) rfl ⟨v, by rw [HO.out], by rw [HX.out]; exact ownsRow_le HW.out (Nat.le_trans hb2 g3.size), (e2.tr g3).tr g4⟩
    · rw [hok] at hO
      rw [hO, if_pos rfl] at hX
      have hat := okC_lt hok
      have HO := Lib.hid hO
      have HX := Lib.hid hX
      clear hO hX
      obtain ⟨k, hk⟩ : ∃ k, atC xs t = k := ⟨_, rfl⟩
      rw [hk] at HX hat ⊢
      clear hk
      go_upto_region 4 with (go_at_call 27; (with_reducible refine (rright_any p xs c _ s2 hl HRR.out).mono ?_); rw [hrr]; rintro e W3 ⟨rfl, g3⟩)
      refine wp_region_K (fun k => w.heap.size ≤ k) (by kernel_rfl) ?_
      obtain ⟨W5, hW5⟩ : ∃ W5, W3.drew = W5 := ⟨_, rfl⟩
      have g5 : Ext W3 W5 := by rw [← hW5]; exact Ext.dr (Ext.rf _)
      rw [hW5]
      clear hW5
      have s5 := (s2.ext g3).ext g5
      have hb5 : w.heap.size ≤ W5.heap.size := (e2.tr (g3.tr g5)).size
      refine withK (N := 11) (R := SchCl) (E := ((Try.f20.body.bind (findR 4)).getD #[])) (by kernel_rfl) schCl (by kernel_rfl) fun hS => ?_
      have hT := hS.2.1
      refine takeD (N := 11) (k := 0) (v := .slice p xs.length c) hS.1 hT rfl (by kernel_rfl) (fun _ _ => by kernel_rfl) fun hT => ?_
      refine takeD (N := 11) (k := 1) (v := .int .i64 (k : Nat)) hS.1 hT rfl (by kernel_rfl) (fun _ _ => by kernel_rfl) fun hT => ?_
      refine takeD (N := 11) (k := 2) (v := .slice p k c) hS.1 hT rfl (by kernel_rfl) (fun w' _ => lo_run (by omega) hc (fun e => by subst e; have := s5.nil_of; subst this; exact (by simp at hat)) _ _ _ _ _ _ _ _ (by kernel_rfl) (by kernel_rfl) w') fun hT => ?_
      refine takeD (N := 11) (k := 4) (v := .slice p xs.length c) hS.1 hT rfl (by kernel_rfl) (fun _ _ => by kernel_rfl) fun hT => ?_
      refine takeD (N := 11) (k := 5) (v := .int .i64 (k : Nat)) hS.1 hT rfl (by kernel_rfl) (fun _ _ => by kernel_rfl) fun hT => ?_
      refine takeD (N := 11) (k := 6) (v := .int .i64 ((k + 1 : Nat) : Int)) hS.1 hT rfl (by kernel_rfl) (fun w' _ => add1_run (by omega) _ _ _ _ _ _ _ (by kernel_rfl) rfl w') fun hT => ?_
      obtain ⟨q, c2, sq, hq⟩ := hi_run s5 (k := k + 1) (by omega) hc
      refine takeD (N := 11) (k := 7) (v := .slice q (xs.drop (k + 1)).length c2) hS.1 hT rfl (by kernel_rfl) (fun w' _ => hq _ _ _ _ _ _ _ _ (by kernel_rfl) (by kernel_rfl) w') fun hT => ?_
      refine soleD hS.2.2.1 (callD (R := fun v w' => w'.ownsRow W5.heap.size 43 6 v k (flC (xs.take k))) rfl rfl (by kernel_rfl) ((own_take p xs k c W5 s5 (by omega) hl).mono fun e w' ⟨v, h1, h2, h3⟩ => ⟨v, h1, h2, h3⟩) fun v1 W6 g6 o6 => ?_)
      refine soleD hS.2.2.2.1 (appDC (v1 := v1) (q := q) (ys := xs.drop (k + 1)) (c2 := c2) rfl (by kernel_rfl) (by kernel_rfl) (ownsRow_le o6 hb5) (sq.ext g6) (by rw [List.length_drop]; omega) (Nat.le_trans hb5 g6.size) fun v7 W7 gr m7 o7 => ?_)
      have hT := hS.2.2.2.2.1
      refine takeD (N := 11) (k := 9) (v := v7) hS.1 hT rfl (by kernel_rfl) (fun _ _ => by kernel_rfl) fun hT => ?_
      refine takeD (N := 11) (k := 10) (v := .bool true) hS.1 hT rfl (by kernel_rfl) (fun _ _ => by kernel_rfl) fun hT => ?_
      refine doneK hS.2.2.2.2.2 ?_
      have E7 : Ext w W7 := Mv.ext_of ((e2.tr (g3.tr g5)).tr g6) m7 (fun k h => h)
      have HF := Lib.hid (show k + (xs.drop (k + 1)).length = (xs.eraseIdx k).length ∧ flC (xs.take k) ++ flC (xs.drop (k + 1)) = flC (xs.eraseIdx k) by
        refine ⟨by rw [List.length_drop, List.length_eraseIdx_of_lt hat]; omega, ?_⟩
        rw [List.eraseIdx_eq_take_drop_succ]; unfold flC; rw [List.flatMap_append])
      have HO7 := Lib.hid o7
      clear hS hT o7 m7 gr
      go_simp
      go_wp2
      exact bodyPost_ret (v := .tuple #[v7, .bool true]) (by simp [results, Try.results20, go_sem]) rfl ⟨v7, by rw [HO.out], by rw [HX.out, ← HF.out.1, ← HF.out.2]; exact HO7.out, E7⟩

end Go.Proofs.Ytookffaojlkfaaa
