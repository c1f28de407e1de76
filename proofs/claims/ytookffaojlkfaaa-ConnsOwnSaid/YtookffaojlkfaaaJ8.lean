/- The document's Touch. -/
import Derived.Test.YtookffaojlkfaaaJ7
import Derived.Test.YtookffaojlkfaaaC11
set_option linter.unusedSimpArgs false
set_option linter.unusedVariables false
namespace Go.Proofs.Ytookffaojlkfaaa
open Go.RowKit

set_option maxRecDepth 100000 in
set_option maxHeartbeats 8000000 in
theorem rtouch_any (t : Tu) (now : Int) (p : Option Addr) (xs : List Co) (c : Nat) (w : World) (hs : SlC w p xs) (hl : xs.length ≤ 1000) (hc : xs.length ≤ c) (hr : ∀ x ∈ xs, TuR x.t) (hrt : TuR t) :
    Calls Try.prog 18 #[.slice p xs.length c, tu t.a t.b t.c t.d, .int .i64 now] w fun e w' => ∃ v, e = .returned (.tuple #[v, .bool (withOk xs t)]) ∧ w'.ownsRow w.heap.size 43 6 v (withX (touchF now) xs t).length (flC (withX (touchF now) xs t)) ∧ Ext w w' := by
  have HRR := Lib.hid hr
  have HRT := Lib.hid hrt
  clear hr hrt
  go_enter Try.func18, Try.ntmps18
  go_upto_region 1 with (fail)
  obtain ⟨W0, hW⟩ : ∃ W0, w.alloc (.cells #[.int .u32 t.a, .int .u32 t.b, .int .u16 t.c, .int .u16 t.d] 26) = W0 := ⟨_, rfl⟩
  have g0 : Ext w W0 := by rw [← hW]; exact Ext.al (Ext.rf _) _
  have ht : TuAt W0 w.heap.size t := by rw [← hW]; unfold TuAt; simp [go_sem, Lt]
  have s0 := hs.ext g0
  have hsz : w.heap.size ≤ W0.heap.size := g0.size
  have HS0 := Lib.hid hs
  rw [hW]
  clear hW hs
  obtain ⟨d0, d1, d2, d3⟩ := ht.cells
  have lB : Lt w.heap.size W0 := ht.2
  go_upto_region 2 with (go_at_call 54; (with_reducible refine (own_C p xs c _ s0 hl).mono ?_); rintro e W1 ⟨v, rfl, ho, g1⟩)
  have ht := ht.ext g1
  have e1 := g0.tr g1
  have ho : W1.ownsRow w.heap.size 43 6 v xs.length (flC xs) := ownsRow_le ho hsz
  have s1 := s0.ext g1
  have HO := Lib.hid ho
  obtain ⟨d0, d1, d2, d3⟩ := ht.cells
  have lB : Lt w.heap.size W1 := ht.2
  clear ho s0 g0 g1 hsz
  go_upto_region 3 with (go_at_call 25; go_must (with_reducible refine (rfind_any t p xs c _ s1 hl HRR.out HRT.out).mono ?_); rintro e W2 ⟨rfl, g2⟩)
  have s2 := s1.ext g2
  have e2 := e1.tr g2
  have HW := Lib.hid (own_ext HO.out g2)
  clear s1 e1 d0 d1 d2 d3 lB g2 HO ht
  have hX : withX (touchF now) xs t = if withOk xs t = true then touchF now xs (atC xs t) else xs := rfl
  have hO : withOk xs t = (okC xs t && rightC xs) := rfl
  cases hrr : rightC xs
  · rw [hrr, Bool.and_false] at hO
    rw [hO, if_neg (by simp)] at hX
    have HO := Lib.hid hO
    have HX := Lib.hid hX
    clear hO hX
    go_wp2_with ((go_at_call 27; (with_reducible refine (rright_any p xs c _ s2 hl HRR.out).mono ?_); rw [hrr]; rintro e W3 ⟨rfl, g3⟩))
    exact bodyPost_ret (v := .tuple #[v, .bool false]) (by simp [results, Try.results18, go_sem]) rfl ⟨v, by rw [HO.out], by rw [HX.out]; exact own_ext HW.out g3, e2.tr g3⟩
  · rw [hrr, Bool.and_true] at hO
    cases hok : okC xs t
    · rw [hok] at hO
      rw [hO, if_neg (by simp)] at hX
      have HO := Lib.hid hO
      have HX := Lib.hid hX
      clear hO hX
      go_wp2_with ((go_at_call 27; (with_reducible refine (rright_any p xs c _ s2 hl HRR.out).mono ?_); rw [hrr]; rintro e W3 ⟨rfl, g3⟩))
      exact bodyPost_ret (v := .tuple #[v, .bool false]) (by simp [results, Try.results18, go_sem]) rfl ⟨v, by rw [HO.out], by rw [HX.out]; exact own_ext HW.out g3, e2.tr g3⟩
    · rw [hok] at hO
      rw [hO, if_pos rfl] at hX
      have hk := okC_lt hok
      have HO := Lib.hid hO
      have HX := Lib.hid hX
      clear hO hX
      obtain ⟨k, hke⟩ : ∃ k, atC xs t = k := ⟨_, rfl⟩
      rw [hke] at HX hk ⊢
      clear hke
      go_upto_region 5 with ((go_at_call 27; (with_reducible refine (rright_any p xs c _ s2 hl HRR.out).mono ?_); rw [hrr]; rintro e W3 ⟨rfl, g3⟩))
      have ho := own_ext HW.out g3
      have hb : w.heap.size ≤ w.heap.size := Nat.le_refl _
      obtain ⟨g, cap, rfl, hg, hgl, hfz, hc1⟩ : ∃ g cap, v = .slice (some ⟨g, 0, none⟩) xs.length cap ∧ w.heap.size ≤ g ∧ g < W3.heap.size ∧ frzD W3 g = (0, 0) ∧ xs.length ≤ cap := by
        rcases ho.2 with ⟨_, h0⟩ | ⟨g, cap, cur, rfl, h1, hgb, h2, h3, h4, h5⟩
        · omega
        · exact ⟨g, cap, rfl, h1, (Array.getElem?_eq_some_iff.1 hgb).1, by unfold frzD; rw [hgb], h2⟩
      obtain ⟨p1, c1, e1, _, s1⟩ := SlC.own ho
      cases e1
      obtain ⟨b, off, e3, _, c0, c1', c2, c3, c4, c5⟩ := s1 k hk
      cases e3
      obtain ⟨x, hx⟩ : ∃ x, xs[k] = x := ⟨_, rfl⟩
      rw [hx, Nat.zero_add] at c5
      have hxl : x.l ≤ 1099511627776 := by
        have h9 := (rightC_iff xs).1 hrr
        refine Int.not_lt.1 fun hlt => h9.2 k hk ⟨x, by rw [List.getElem?_eq_getElem hk, hx], .inl ?_⟩
        unfold wrongC; simp [hlt]
      have HOO := Lib.hid ho
      have HXX := Lib.hid hx
      have hkl : (k : Int) < xs.length := by omega
      have lg : Lt g W3 := hgl
      have hf5 := frozen_of_frz hfz (k * 6 + 5)
      have HT := Lib.hid (show touchF now xs k = xs.set k { x with l := max x.l (min now 1099511627776) } by unfold touchF; rw [List.getElem?_eq_getElem hk, hx])
      have HXL := Lib.hid hxl
      clear ho s1 hx c0 c1' c2 c3 c4 hfz hxl hb HW
      go_wp2
      all_goals
        refine bodyPost_ret (v := .tuple #[.slice (some ⟨g, 0, none⟩) xs.length cap, .bool true]) (by simp [results, Try.results18, go_sem]) rfl ⟨_, by rw [HO.out], ?_, Ext.st _ hg (e2.tr g3)⟩
        rw [HX.out, HT.out, List.length_set, ← flC_set xs k x _ hk HXX.out]
        have hxl := HXL.out
        first
          | rw [show max x.l (min now 1099511627776) = now by omega]; exact own_set HOO.out _ _
          | rw [show max x.l (min now 1099511627776) = x.l by omega]; exact own_set HOO.out _ _
          | rw [show max x.l (min now 1099511627776) = 1099511627776 by omega]; exact own_set HOO.out _ _

end Go.Proofs.Ytookffaojlkfaaa
