/- Connections: Touch. -/
import Derived.Test.YtookffaojlkfaaaC10
set_option linter.unusedSimpArgs false
set_option linter.unusedVariables false
namespace Go.Proofs.Ytookffaojlkfaaa
open Go.RowKit

theorem own_set {w : World} {base : Nat} {e : TypeId} {size n cap g : Nat} {xs : List Value} (h : w.ownsRow base e size (.slice (some ⟨g, 0, none⟩) n cap) n xs) (i : Nat) (u : Value) :
    (w.setCell ⟨g, i, none⟩ u).ownsRow base e size (.slice (some ⟨g, 0, none⟩) n cap) n (xs.set i u) := by
  refine ⟨by rw [List.length_set]; exact h.1, ?_⟩
  rcases h.2 with ⟨h0, _⟩ | ⟨g', cap', cur, e1, hb, hgb, h1, h2, h3, h4⟩
  · cases h0
  · cases e1
    refine .inr ⟨g, cap, cur.setIfInBounds i u, rfl, hb, ?_, h1, h2, by simpa using h3, ?_⟩
    · simp only [World.setCell]
      rw [Array.getElem?_modify, if_pos rfl, hgb]; rfl
    · rw [Array.toList_setIfInBounds, List.take_set, h4]
theorem flC_set (xs : List Co) (k : Nat) (x : Co) (y : Int) (hk : k < xs.length) (hx : xs[k] = x) : (flC xs).set (k * 6 + 5) (.int .i64 y) = flC (xs.set k { x with l := y }) := by
  refine List.ext_getElem? fun j => ?_
  by_cases hj : j < xs.length * 6
  · have hq : j / 6 < xs.length := by omega
    have e : j / 6 * 6 + j % 6 = j := by omega
    have h6 : j % 6 < 6 := Nat.mod_lt _ (by omega)
    have g1 := flC_get xs (j / 6) (j % 6) hq h6
    have g2 := flC_get (xs.set k { x with l := y }) (j / 6) (j % 6) (by simpa using hq) h6
    rw [e] at g1 g2
    rw [g2, List.getElem?_set, List.getElem_set, g1]
    have hlen : (flC xs).length = xs.length * 6 := flC_len xs
    by_cases hkq : k = j / 6
    · subst hkq
      rw [if_pos rfl]
      rw [hx]
      by_cases h5 : j % 6 = 5
      · rw [if_pos (by omega), if_pos (by omega), h5]; rfl
      · rw [if_neg (by omega)]
        generalize j % 6 = r at *
        obtain rfl | rfl | rfl | rfl | rfl : r = 0 ∨ r = 1 ∨ r = 2 ∨ r = 3 ∨ r = 4 := by omega
        all_goals rfl
    · rw [if_neg hkq, if_neg (by omega)]
  · rw [List.getElem?_eq_none (by rw [List.length_set, flC_len]; omega), List.getElem?_eq_none (by rw [flC_len, List.length_set]; omega)]
def touchF (now : Int) (xs : List Co) (k : Nat) : List Co := match xs[k]? with | some x => xs.set k { x with l := max x.l (min now 1099511627776) } | none => xs
theorem enters_touch : ∀ args w, (callFunc 56 args).run Try.prog w = .ok (.enter 56 args) w := enters_of Try.func56 (by kernel_rfl) rfl
set_option maxRecDepth 20000 in
set_option maxHeartbeats 4000000 in
theorem touch1_any (now : Int) (bn : Nat) (W0 : World) (ln : Lt bn W0) (hn : W0.cell? ⟨bn, 0, none⟩ = some (.int .i64 now)) : DoesC 56 #[.pointer (some ⟨bn, 0, none⟩)] (touchF now) W0 := by
  intro base W v xs k hE hb hl ho hk
  have hcn := (hE.cell (p := ⟨bn, 0, none⟩) ln).trans hn
  have lnW : Lt bn W := Nat.lt_of_lt_of_le ln hE.size
  obtain ⟨g, cap, rfl, hg, hgl, hfz, hc1⟩ : ∃ g cap, v = .slice (some ⟨g, 0, none⟩) xs.length cap ∧ base ≤ g ∧ g < W.heap.size ∧ frzD W g = (0, 0) ∧ xs.length ≤ cap := by
    rcases ho.2 with ⟨_, h0⟩ | ⟨g, cap, cur, rfl, h1, hgb, h2, h3, h4, h5⟩
    · omega
    · exact ⟨g, cap, rfl, h1, (Array.getElem?_eq_some_iff.1 hgb).1, by unfold frzD; rw [hgb], h2⟩
  obtain ⟨p1, c1, e1, _, s1⟩ := SlC.own ho
  cases e1
  obtain ⟨b, off, e2, _, c0, c1', c2, c3, c4, c5⟩ := s1 k hk
  cases e2
  obtain ⟨x, hx⟩ : ∃ x, xs[k] = x := ⟨_, rfl⟩
  rw [hx, Nat.zero_add] at c5
  have HO := Lib.hid ho
  have HX := Lib.hid hx
  have hkl : (k : Int) < xs.length := by omega
  have lg : Lt g W := hgl
  have hf5 := frozen_of_frz hfz (k * 6 + 5)
  have hne : ¬ bn = g := by unfold Lt at ln; omega
  have HT := Lib.hid (show touchF now xs k = xs.set k { x with l := max x.l (min now 1099511627776) } by unfold touchF; rw [List.getElem?_eq_getElem hk, hx])
  clear ho s1 hx c0 c1' c2 c3 c4 hfz
  rw [show (#[Value.slice (some ⟨g, 0, none⟩) xs.length cap, Value.int .i64 (k : Nat)] ++ #[Value.pointer (some ⟨bn, 0, none⟩)] : Array Value) = #[.slice (some ⟨g, 0, none⟩) xs.length cap, .int .i64 (k : Nat), .pointer (some ⟨bn, 0, none⟩)] from rfl]
  go_enter Try.func56, Try.ntmps56
  go_wp2_with (fail)
  go_region
  generalize hz : (if 1099511627776 < now then 1099511627776 else now) = z
  generalize hy : (if x.l < z then z else x.l) = y
  have hzm : min now 1099511627776 = z := by rw [← hz]; split <;> omega
  have hmax : max x.l (min now 1099511627776) = y := by rw [hzm, ← hy]; split <;> omega
  have HM := Lib.hid hmax
  clear hy hmax hz hzm
  go_wp2
  go_ret
  refine ⟨_, rfl, ?_, Mv.dr (Mv.st _ (.inl hg) (Mv.refl _ _))⟩
  show (W.setCell ⟨g, k * 6 + 5, none⟩ (.int .i64 y)).ownsRow base 43 6 (.slice (some ⟨g, 0, none⟩) xs.length cap) (touchF now xs k).length (flC (touchF now xs k))
  rw [HT.out, HM.out, List.length_set, ← flC_set xs k x y hk HX.out]
  exact own_set HO.out _ _
set_option maxRecDepth 20000 in
set_option maxHeartbeats 2000000 in
theorem touch_any (t : Tu) (now : Int) (p : Option Addr) (xs : List Co) (c : Nat) (w : World) (hs : SlC w p xs) (hl : xs.length ≤ 1000) :
    Calls Try.prog 17 #[.slice p xs.length c, tu t.a t.b t.c t.d, .int .i64 now] w fun e w' => ∃ v, e = .returned (.tuple #[v, .bool (withOk xs t)]) ∧ w'.ownsRow w.heap.size 43 6 v (withX (touchF now) xs t).length (flC (withX (touchF now) xs t)) ∧ Ext w w' := by
  go_enter Try.func17, Try.ntmps17
  go_upto_region 1 with (fail)
  obtain ⟨W0, hW⟩ : ∃ W0, (w.alloc (.cells #[.int .u32 t.a, .int .u32 t.b, .int .u16 t.c, .int .u16 t.d] 26)).alloc (.cells #[.int .i64 now] 3) = W0 := ⟨_, rfl⟩
  rw [hW]
  have g0 : Ext w W0 := by rw [← hW]; exact Ext.al (Ext.al (Ext.rf _) _) _
  have ht : TuAt W0 w.heap.size t := by rw [← hW]; unfold TuAt; simp [go_sem, Lt]; try omega
  have cn : W0.cell? ⟨w.heap.size + 1, 0, none⟩ = some (.int .i64 now) := by rw [← hW]; simp [go_sem]
  have ln : Lt (w.heap.size + 1) W0 := by rw [← hW]; simp [Lt]; try omega
  have s0 := hs.ext g0
  have hsz : w.heap.size ≤ W0.heap.size := g0.size
  obtain ⟨d0, d1, d2, d3⟩ := ht.cells
  have lB : Lt w.heap.size W0 := ht.2
  have HD := Lib.hid (touch1_any now (w.heap.size + 1) W0 ln cn)
  clear hW hs ht
  go_wp2_with (go_at_call 55; go_must (with_reducible refine (with_any 56 #[.pointer (some ⟨w.heap.size + 1, 0, none⟩)] enters_touch (touchF now) t p xs c _ s0 hl HD.out).mono ?_); rintro e w' ⟨v, rfl, ho, g1⟩; have HO := Lib.hid ho; clear ho)
  exact bodyPost_ret (v := .tuple #[v, .bool (withOk xs t)]) (by simp [results, Try.results17, go_sem]) rfl ⟨v, rfl, ownsRow_le HO.out hsz, g0.tr g1⟩

end Go.Proofs.Ytookffaojlkfaaa
