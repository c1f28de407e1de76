/- ConnsOwn. -/
import Derived.Test.YtookffaojlkfaaaL0
import Derived.Test.YtookffaojlkfaaaRows
set_option linter.unusedSimpArgs false
set_option linter.unusedVariables false
namespace Go.Proofs.Ytookffaojlkfaaa
open Go.ChangeShapes Go.WideShapes Go.ChangeAt Go.RowKit

attribute [local go_sem] beq_self_eq_true bne_self_eq_false

/-- A row of one's own, in which may be written. -/
def RowOk (W : World) (base lim : Nat) (v : Value) : Prop := ∃ p n c, v = .slice p n c ∧ n ≤ 1000 ∧ ∀ j, j < n → ∃ g u, p = some ⟨g, 0, none⟩ ∧ base ≤ g ∧ g < lim ∧ lim ≤ W.heap.size ∧ W.cell? ⟨g, j * 6 + 4, none⟩ = some u ∧ frzD W g = (0, 0)
theorem RowOk.ext {W W' : World} {base lim : Nat} {v : Value} (h : RowOk W base lim v) (e : Ext W W') : RowOk W' base lim v := by
  obtain ⟨p, n, c, h1, h2, h3⟩ := h
  refine ⟨p, n, c, h1, h2, fun j hj => ?_⟩
  obtain ⟨g, u, a1, a2, a3, a4, a5, a6⟩ := h3 j hj
  have hg : g < W.heap.size := Nat.lt_of_lt_of_le a3 a4
  exact ⟨g, u, a1, a2, a3, Nat.le_trans a4 e.size, (e.cell (p := ⟨g, _, none⟩) hg).trans a5, by unfold frzD; rw [e.block _ hg]; exact a6⟩
theorem RowOk.mono {W : World} {base lim b' l' : Nat} {v : Value} (h : RowOk W base lim v) (hb : b' ≤ base) (hl : lim ≤ l') (hw : l' ≤ W.heap.size) : RowOk W b' l' v := by
  obtain ⟨p, n, c, h1, h2, h3⟩ := h
  refine ⟨p, n, c, h1, h2, fun j hj => ?_⟩
  obtain ⟨g, u, a1, a2, a3, a4, a5, a6⟩ := h3 j hj
  exact ⟨g, u, a1, Nat.le_trans hb a2, Nat.lt_of_lt_of_le a3 hl, hw, a5, a6⟩
theorem RowOk.set {W : World} {base lim b i : Nat} {v x : Value} (h : RowOk W base lim v) : RowOk (W.setCell ⟨b, i, none⟩ x) base lim v := by
  obtain ⟨p, n, c, h1, h2, h3⟩ := h
  refine ⟨p, n, c, h1, h2, fun j hj => ?_⟩
  obtain ⟨g, u, a1, a2, a3, a4, a5, a6⟩ := h3 j hj
  have hs : ∃ u', (W.setCell ⟨b, i, none⟩ x).cell? ⟨g, j * 6 + 4, none⟩ = some u' := by
    rw [cell_rowD, rowD_setCell]
    rw [cell_rowD] at a5
    split
    · rename_i e
      rw [e] at a5
      rw [Array.getElem?_setIfInBounds]
      split
      · split
        · exact ⟨_, rfl⟩
        · rename_i e1 e2
          rw [← e1, Array.getElem?_eq_none (by omega)] at a5
          cases a5
      · exact ⟨_, a5⟩
    · exact ⟨_, a5⟩
  obtain ⟨u', hu⟩ := hs
  exact ⟨g, u', a1, a2, a3, by simpa [World.setCell] using a4, hu, by rw [frzD_setCell]; exact a6⟩
def RowO (W : World) (base : Nat) (v : Value) : Prop := RowOk W base W.heap.size v
theorem RowO.ext {W W' : World} {base : Nat} {v : Value} (h : RowO W base v) (e : Ext W W') : RowO W' base v := (RowOk.ext h e).mono (Nat.le_refl _) e.size (Nat.le_refl _)
theorem RowO.le {W : World} {base b' : Nat} {v : Value} (h : RowO W base v) (e : b' ≤ base) : RowO W b' v := RowOk.mono h e (Nat.le_refl _) (Nat.le_refl _)
theorem row_of {W : World} {base : Nat} {v : Value} {xs : List Co} (h : W.ownsRow base 43 6 v xs.length (flC xs)) (hl : xs.length ≤ 1000) : RowO W base v := by
  obtain ⟨p, c, rfl, -, hs⟩ := SlC.own h
  refine ⟨p, xs.length, c, rfl, hl, fun j hj => ?_⟩
  obtain ⟨b, off, rfl, hb, -, -, -, -, c4, -⟩ := hs j hj
  rcases h.2 with ⟨e, h0⟩ | ⟨g, cap, cur, e, hg, hgb, -⟩
  · omega
  · cases e
    exact ⟨_, _, rfl, hg, hb, Nat.le_refl _, by rw [Nat.zero_add] at c4; exact c4, by unfold frzD; rw [hgb]⟩
def GetsO (W : World) (e : Ending) (w' : World) : Prop := ∃ q n k x, e = .returned (.tuple #[.slice q n k, x]) ∧ RowO w' W.heap.size (.slice q n k) ∧ Ext W w'
def GetsO2 (W : World) (e : Ending) (w' : World) : Prop := ∃ q n k q2 n2 k2, e = .returned (.tuple #[.slice q n k, .slice q2 n2 k2]) ∧ RowO w' W.heap.size (.slice q n k) ∧ RowO w' W.heap.size (.slice q2 n2 k2) ∧ Ext W w'
def GetsO1 (W : World) (e : Ending) (w' : World) : Prop := ∃ q n k, e = .returned (.slice q n k) ∧ RowO w' W.heap.size (.slice q n k) ∧ Ext W w'
def OwnI (Wc : World) (BA : Nat) (vs : List Value) (W : World) : Prop := rowD W BA = vs.toArray ∧ Lt BA W ∧ (∀ v, v ∈ vs → RowOk W Wc.heap.size BA v) ∧ Ext Wc W
theorem OwnI.row {Wc W : World} {BA : Nat} {vs : List Value} (h : OwnI Wc BA vs W) {i : Nat} (hi : i < vs.length) : ∃ q n k, vs[i]? = some (.slice q n k) ∧ n ≤ 1000 ∧ ∀ j, j < n → ∃ g u, q = some ⟨g, 0, none⟩ ∧ Wc.heap.size ≤ g ∧ g < BA ∧ BA ≤ W.heap.size ∧ W.cell? ⟨g, j * 6 + 4, none⟩ = some u ∧ frzD W g = (0, 0) := by
  obtain ⟨p, n, c, e, h2, h3⟩ := h.2.2.1 _ (List.getElem_mem hi)
  exact ⟨p, n, c, by rw [List.getElem?_eq_getElem hi, e], h2, h3⟩
theorem OwnI.cell {Wc W : World} {BA : Nat} {vs : List Value} (h : OwnI Wc BA vs W) {i : Nat} {v : Value} (hi : i < vs.length) (hv : vs[i]? = some v) : W.cell? ⟨BA, i, none⟩ = some v := by
  rw [cell_rowD, h.1]
  simpa using hv
theorem OwnI.set {Wc W : World} {BA : Nat} {vs : List Value} (h : OwnI Wc BA vs W) {g i : Nat} {x : Value} (h1 : Wc.heap.size ≤ g) (h2 : g < BA) : OwnI Wc BA vs (W.setCell ⟨g, i, none⟩ x) := by
  refine ⟨?_, by rw [Lt_setCell]; exact h.2.1, fun v hv => (h.2.2.1 v hv).set, Ext.st _ h1 h.2.2.2⟩
  rw [rowD_setCell, if_neg (by omega)]
  exact h.1
theorem row_sl {W : World} {base : Nat} {v : Value} {xs : List Co} (h : W.ownsRow base 43 6 v xs.length (flC xs)) (hl : xs.length ≤ 1000) : ∃ q n k, v = .slice q n k ∧ RowO W base (.slice q n k) := by
  obtain ⟨p, c, rfl, -, -⟩ := SlC.own h
  exact ⟨_, _, _, rfl, row_of h hl⟩
theorem add_o (t : Tu) (now : Int) (p : Option Addr) (xs : List Co) (c : Nat) (W : World) (hs : SlC W p xs) {m : Nat} (hl : xs.length ≤ 60) (hm : xs.length = m) : Calls Try.prog 15 #[.slice p m c, tu t.a t.b t.c t.d, .int .i64 now] W (GetsO W) := by
  subst hm
  exact (add_any t now p xs c W hs (by omega)).mono fun e w' ⟨v, h1, h2, h3⟩ => by
    obtain ⟨q, n, k, rfl, hr⟩ := row_sl h2 (by have := addX_len xs t now; omega)
    exact ⟨q, n, k, _, h1, hr, h3⟩
theorem touch_o (t : Tu) (now : Int) (p : Option Addr) (xs : List Co) (c : Nat) (W : World) (hs : SlC W p xs) {m : Nat} (hl : xs.length ≤ 60) (hm : xs.length = m) : Calls Try.prog 17 #[.slice p m c, tu t.a t.b t.c t.d, .int .i64 now] W (GetsO W) := by
  subst hm
  exact (touch_any t now p xs c W hs (by omega)).mono fun e w' ⟨v, h1, h2, h3⟩ => by
    obtain ⟨q, n, k, rfl, hr⟩ := row_sl h2 (by have := touchX_len xs t now; omega)
    exact ⟨q, n, k, _, h1, hr, h3⟩
theorem close_o (t : Tu) (p : Option Addr) (xs : List Co) (c : Nat) (W : World) (hs : SlC W p xs) {m : Nat} (hl : xs.length ≤ 60) (hm : xs.length = m) : Calls Try.prog 19 #[.slice p m c, tu t.a t.b t.c t.d] W (GetsO W) := by
  subst hm
  exact (close_any t p xs c W hs (by omega)).mono fun e w' ⟨v, h1, h2, h3⟩ => by
    obtain ⟨q, n, k, rfl, hr⟩ := row_sl h2 (by have := closeX_len xs t; omega)
    exact ⟨q, n, k, _, h1, hr, h3⟩
theorem idle_o (now : Int) (p : Option Addr) (xs : List Co) (c : Nat) (W : World) (hs : SlC W p xs) {m : Nat} (hl : xs.length ≤ 60) (hm : xs.length = m) : Calls Try.prog 21 #[.slice p m c, .int .i64 0, .int .i64 now] W (GetsO2 W) := by
  subst hm
  exact (idle_any p xs c 0 now W hs (by omega) (by omega) _ _ _ rfl rfl rfl).mono fun e w' ⟨v1, v2, h1, ⟨o1, o2, _⟩, h3⟩ => by
    obtain ⟨q, n, k, rfl, hr⟩ := row_sl o1 (Nat.le_trans (List.length_filter_le _ _) (by omega))
    obtain ⟨q2, n2, k2, rfl, hr2⟩ := row_sl o2 (Nat.le_trans (List.length_filter_le _ _) (by omega))
    exact ⟨q, n, k, q2, n2, k2, h1, hr, hr2, h3⟩
theorem of_o (k : Int) (p : Option Addr) (xs : List Co) (c : Nat) (W : World) (hs : SlC W p xs) {m : Nat} (hl : xs.length ≤ 60) (hm : xs.length = m) (hr : ∀ x ∈ xs, TuR x.t) : Calls Try.prog 30 #[.slice p m c, .int .i64 k] W (GetsO1 W) := by
  subst hm
  exact (cof_any p xs c k W hs (by omega) hr).mono fun e w' ⟨v, h1, o1, h3⟩ => by
    obtain ⟨q, n, k, rfl, hr⟩ := row_sl o1 (Nat.le_trans (List.length_filter_le _ _) (by omega))
    exact ⟨q, n, k, h1, hr, h3⟩
theorem wo_o (k : Int) (p : Option Addr) (xs : List Co) (c : Nat) (W : World) (hs : SlC W p xs) {m : Nat} (hl : xs.length ≤ 60) (hm : xs.length = m) (hr : ∀ x ∈ xs, TuR x.t) : Calls Try.prog 32 #[.slice p m c, .int .i64 k] W (GetsO1 W) := by
  subst hm
  exact (cwo_any p xs c k W hs (by omega) hr).mono fun e w' ⟨v, h1, o1, h3⟩ => by
    obtain ⟨q, n, k, rfl, hr⟩ := row_sl o1 (Nat.le_trans (List.length_filter_le _ _) (by omega))
    exact ⟨q, n, k, h1, hr, h3⟩
set_option maxRecDepth 100000 in
set_option maxHeartbeats 4000000 in
theorem own_great (t : Tu) (now bucket : Int) (p : Option Addr) (xs : List Co) (c : Nat) (w : World) (hs : SlC w p xs) (hc : xs.length ≤ c) (hr : ∀ x ∈ xs, TuR x.t) (hgd : decide ((60 : Int) < xs.length) = true) :
    Calls Try.prog 7 #[.slice p xs.length c, tu t.a t.b t.c t.d, .int .i64 now, .int .i64 bucket] w fun e w' => e = .returned (.bool true) ∧ Ext w w' := by
  go_enter Try.func7, Try.ntmps7
  go_upto_region 1 with (fail)
  obtain ⟨W0, hW⟩ : ∃ W0, w.alloc (.cells #[.int .u32 t.a, .int .u32 t.b, .int .u16 t.c, .int .u16 t.d] 26) = W0 := ⟨_, rfl⟩
  have E : Ext w W0 := by rw [← hW]; exact Ext.al (Ext.rf _) _
  have ht : TuAt W0 w.heap.size t := by rw [← hW]; unfold TuAt; simp [go_sem, Lt]
  have s := hs.ext E
  rw [hW]
  clear hW hs
  go_wp2_with (first | (go_at_call 13; (with_reducible refine (great_any p xs.length c _).mono ?_); rintro e W7 ⟨rfl, rfl⟩) | (go_at_call 14; (with_reducible refine (wakes_any _).mono ?_); rintro e WZ ⟨rfl, gZ⟩))
  go_ret
  exact ⟨rfl, E.tr gZ⟩

set_option maxRecDepth 100000 in
set_option maxHeartbeats 16000000 in
theorem own_some (t : Tu) (now bucket : Int) (p : Option Addr) (xs : List Co) (c : Nat) (w : World) (hs : SlC w p xs) (hc : xs.length ≤ c) (hr : ∀ x ∈ xs, TuR x.t) (hl : xs.length ≤ 60) (hgd : decide ((60 : Int) < xs.length) = false) (a : Addr) (hpa : p = some a) :
    Calls Try.prog 7 #[.slice p xs.length c, tu t.a t.b t.c t.d, .int .i64 now, .int .i64 bucket] w fun e w' => e = .returned (.bool true) ∧ Ext w w' := by
  obtain ⟨i0, hi, hz0, hz1, hz2⟩ := info_parts info_C
  have HRR := Lib.hid hr
  clear hr
  subst hpa
  go_enter Try.func7, Try.ntmps7
  go_upto_region 1 with (fail)
  obtain ⟨W0, hW⟩ : ∃ W0, w.alloc (.cells #[.int .u32 t.a, .int .u32 t.b, .int .u16 t.c, .int .u16 t.d] 26) = W0 := ⟨_, rfl⟩
  have E : Ext w W0 := by rw [← hW]; exact Ext.al (Ext.rf _) _
  have ht : TuAt W0 w.heap.size t := by rw [← hW]; unfold TuAt; simp [go_sem, Lt]
  have s := hs.ext E
  rw [hW]
  clear hW hs
  go_upto_region 3 with ((go_at_call 13; (with_reducible refine (great_any (some a) xs.length c _).mono ?_); rintro e W7 ⟨rfl, rfl⟩))
  have HN := Lib.hid (s.news (a := a) (Ext.al (Ext.rf W0) (.cells #[] 43)))
  have HO := Lib.hid (own0_C W0)
  go_upto_region 4 with (at_builtin; go_must (refine wpList_append_own _ rfl _ _ 22 rfl W0.heap.size 43 i0 (.agg #[.int .u32 0, .int .u32 0, .int .u16 0, .int .u16 0, .int .i64 0, .int .i64 0]) 6 32 Try.underlying22 hi hz0 hz1 hz2 rfl (by decide) _ _ _ rfl HO.out a xs.length c (flC xs) rfl (by simp [flC_len]) HN.out (flC_one xs) (by unfold maxLen; omega) (by omega) (by simp) ?_); intro v' Wc hown' hgrow _; have HOW := Lib.hid hown'; have HG := Lib.hid hgrow; clear hown' hgrow)
  have g : Ext W0 Wc := Mv.ext (C := fun k => k = W0.heap.size) ((Mv.al _ (Mv.refl _ _)).trans (Mv.of_grown HG.out fun r e => .inl (by have e' : some W0.heap.size = some r := e; injection e' with h; exact h.symm))) (fun k hk e => by omega)
  have ho := HOW.out
  rw [Nat.zero_add, List.nil_append] at ho
  obtain ⟨pw, cw, rfl, -, sw⟩ := SlC.own ho
  clear ho HOW HG HN HO
  have E := E.tr g
  have s := s.ext g
  have ht := ht.ext g
  have HSC := Lib.hid s
  have HSW := Lib.hid sw
  have HEC := Lib.hid E
  have EW := Ext.rf Wc
  have hbw := Nat.le_refl Wc.heap.size
  obtain ⟨d0, d1, d2, d3⟩ := ht.cells
  have lB : Lt w.heap.size _ := ht.2
  clear g E sw
  go_upto_region 5 with (go_at_call 15; go_must (with_reducible refine (add_o t now (some a) xs c _ s hl rfl).mono ?_); rintro e W1 ⟨q1, n1, k1, x1, rfl, r1, g⟩; replace EW := EW.tr g; replace s := s.ext g; replace ht := ht.ext g)
  replace r1 := r1.le (b' := Wc.heap.size) (hbw)
  have hbw := Nat.le_trans hbw g.size
  clear g d0 d1 d2 d3 lB
  obtain ⟨d0, d1, d2, d3⟩ := ht.cells
  have lB : Lt w.heap.size _ := ht.2
  go_upto_region 6 with (go_at_call 17; go_must (with_reducible refine (touch_o t now (some a) xs c _ s hl rfl).mono ?_); rintro e W1 ⟨q2, n2, k2, x2, rfl, r2, g⟩; replace EW := EW.tr g; replace s := s.ext g; replace ht := ht.ext g; replace r1 := r1.ext g)
  replace r2 := r2.le (b' := Wc.heap.size) (hbw)
  have hbw := Nat.le_trans hbw g.size
  clear g d0 d1 d2 d3 lB
  obtain ⟨d0, d1, d2, d3⟩ := ht.cells
  have lB : Lt w.heap.size _ := ht.2
  go_upto_region 7 with (go_at_call 19; go_must (with_reducible refine (close_o t (some a) xs c _ s hl rfl).mono ?_); rintro e W1 ⟨q3, n3, k3, x3, rfl, r3, g⟩; replace EW := EW.tr g; replace s := s.ext g; replace ht := ht.ext g; replace r1 := r1.ext g; replace r2 := r2.ext g)
  replace r3 := r3.le (b' := Wc.heap.size) (hbw)
  have hbw := Nat.le_trans hbw g.size
  clear g d0 d1 d2 d3 lB
  obtain ⟨d0, d1, d2, d3⟩ := ht.cells
  have lB : Lt w.heap.size _ := ht.2
  go_upto_region 8 with (go_at_call 21; go_must (with_reducible refine (idle_o now (some a) xs c _ s hl rfl).mono ?_); rintro e W1 ⟨q4, n4, k4, q5, n5, k5, rfl, r4, r5, g⟩; replace EW := EW.tr g; replace s := s.ext g; replace ht := ht.ext g; replace r1 := r1.ext g; replace r2 := r2.ext g; replace r3 := r3.ext g)
  replace r4 := r4.le (b' := Wc.heap.size) (hbw)
  replace r5 := r5.le (b' := Wc.heap.size) (hbw)
  have hbw := Nat.le_trans hbw g.size
  clear g d0 d1 d2 d3 lB
  obtain ⟨d0, d1, d2, d3⟩ := ht.cells
  have lB : Lt w.heap.size _ := ht.2
  go_upto_region 9 with (first | (go_at_call 30; go_must (with_reducible refine (of_o bucket (some a) xs c _ s hl rfl HRR.out).mono ?_); rintro e W1 ⟨q6, n6, k6, rfl, r6, g⟩; replace EW := EW.tr g; replace s := s.ext g; replace ht := ht.ext g; replace r1 := r1.ext g; replace r2 := r2.ext g; replace r3 := r3.ext g; replace r4 := r4.ext g; replace r5 := r5.ext g; replace r6 := r6.le (b' := Wc.heap.size) hbw; replace hbw := Nat.le_trans hbw g.size; clear g) | (go_at_call 32; go_must (with_reducible refine (wo_o bucket (some a) xs c _ s hl rfl HRR.out).mono ?_); rintro e Wx ⟨q7, n7, k7, rfl, r7, g⟩; replace EW := EW.tr g; replace s := s.ext g; replace ht := ht.ext g; replace r1 := r1.ext g; replace r2 := r2.ext g; replace r3 := r3.ext g; replace r4 := r4.ext g; replace r5 := r5.ext g; replace r6 := r6.ext g; replace r7 := r7.le (b' := Wc.heap.size) hbw; replace hbw := Nat.le_trans hbw g.size; clear g))
  obtain ⟨vs, hvs⟩ : ∃ vs, [Value.slice q1 n1 k1, .slice q2 n2 k2, .slice q3 n3 k3, .slice q4 n4 k4, .slice q5 n5 k5, .slice q6 n6 k6, .slice q7 n7 k7] = vs := ⟨_, rfl⟩
  have hlen : vs.length = 7 := by rw [← hvs]; rfl
  obtain ⟨WA, hWA⟩ : ∃ WA, Wx.alloc (.cells #[Value.slice q1 n1 k1, .slice q2 n2 k2, .slice q3 n3 k3, .slice q4 n4 k4, .slice q5 n5 k5, .slice q6 n6 k6, .slice q7 n7 k7] 48) = WA := ⟨_, rfl⟩
  have gA : Ext Wx WA := by rw [← hWA]; exact Ext.al (Ext.rf _) _
  have hI : OwnI Wc Wx.heap.size vs WA := by
    refine ⟨?_, by rw [← hWA]; simp [Lt], ?_, EW.tr gA⟩
    · rw [← hWA, rowD_new, ← hvs]
    · intro v hv
      rw [← hvs] at hv
      simp only [List.mem_cons, List.not_mem_nil, or_false] at hv
      rcases hv with rfl | rfl | rfl | rfl | rfl | rfl | rfl
      · exact RowOk.ext r1 gA
      · exact RowOk.ext r2 gA
      · exact RowOk.ext r3 gA
      · exact RowOk.ext r4 gA
      · exact RowOk.ext r5 gA
      · exact RowOk.ext r6 gA
      · exact RowOk.ext r7 gA
  rw [hWA]
  obtain ⟨BA, hBA⟩ : ∃ BA, Wx.heap.size = BA := ⟨_, rfl⟩
  rw [hBA] at hI ⊢
  clear hWA gA r1 r2 r3 r4 r5 r6 r7 hvs s ht d0 d1 d2 d3 lB hBA EW hbw
  go_wp2
  go_loopw [19, 20] (fun a _ wr => ∃ i : Nat, i ≤ 7 ∧ a = .int .i64 i ∧ OwnI Wc BA vs wr) (fun a _ _ => 7 - (intOf a).toNat)
  case atStart => exact ⟨0, by omega, rfl, hI⟩
  case round =>
    obtain ⟨i, hi7, rfl, hJ⟩ := hrel
    clear hI
    by_cases hlt : i < 7
    · have hil : (i : Int) < 7 := by omega
      obtain ⟨q, n, kk, hv, hn, hrow⟩ := hJ.row (i := i) (by omega)
      have c0 := hJ.cell (by omega) hv
      have lBA : Lt BA wr := hJ.2.1
      have HV := Lib.hid hv
      have HJ := Lib.hid hJ
      clear hv hJ hrow
      go_wp2
      go_loopw [20] (fun a wq => ∃ m : Nat, m ≤ n ∧ a = .int .i64 m ∧ OwnI Wc BA vs wq) (fun a _ => n - (intOf a).toNat)
      case atStart => exact ⟨0, Nat.zero_le _, rfl, HJ.out⟩
      case round =>
        obtain ⟨m, hm, rfl, hJ⟩ := hrel
        clear c0 lBA HJ
        have c0 := hJ.cell (by omega) HV.out
        have lBA := hJ.2.1
        have HJ := Lib.hid hJ
        obtain ⟨q', n', k', hv', -, hrow⟩ := hJ.row (i := i) (by omega)
        rw [HV.out] at hv'
        cases Option.some.inj hv'
        clear hv' hJ
        by_cases hmn : m < n
        · have hml : (m : Int) < n := by omega
          obtain ⟨g, u, rfl, h1, h2, h3, h4, h5⟩ := hrow m hmn
          have hf := frozen_of_frz h5 (m * 6 + 4)
          have lg : Lt g wr := Nat.lt_of_lt_of_le h2 h3
          clear h3 h5 hrow
          go_wp2
          go_roundw
          case rel => exact ⟨m + 1, by omega, by go_num, HJ.out.set h1 h2⟩
          case measure => simp [intOf]; omega
        · have hml : ¬ ((m : Int) < n) := by omega
          clear hrow
          go_wp2
          go_roundw
          case rel => exact ⟨i + 1, by omega, by go_num, HJ.out⟩
          case measure => simp [intOf]; omega
    · have hil : ¬ ((i : Int) < 7) := by omega
      have s := HSC.out.ext hJ.2.2.2
      have sw := HSW.out.ext hJ.2.2.2
      have E := HEC.out.tr hJ.2.2.2
      clear hJ HSC HSW HEC
      go_wp2_with (first | (go_at_call 23; (with_reducible refine (same_g s sw rfl (by omega)).mono ?_); rintro e W1 ⟨rfl, g⟩; replace E := E.tr g; clear g) | (go_at_call 14; (with_reducible refine (wakes_any _).mono ?_); rintro e WZ ⟨rfl, gZ⟩))
      go_ret
      exact ⟨rfl, E.tr gZ⟩

set_option maxRecDepth 100000 in
set_option maxHeartbeats 16000000 in
theorem own_none (t : Tu) (now bucket : Int) (p : Option Addr) (xs : List Co) (c : Nat) (w : World) (hs : SlC w p xs) (hc : xs.length ≤ c) (hr : ∀ x ∈ xs, TuR x.t) (hl : xs.length ≤ 60) (hgd : decide ((60 : Int) < xs.length) = false) (hpa : p = none) :
    Calls Try.prog 7 #[.slice p xs.length c, tu t.a t.b t.c t.d, .int .i64 now, .int .i64 bucket] w fun e w' => e = .returned (.bool true) ∧ Ext w w' := by
  obtain ⟨i0, hi, hz0, hz1, hz2⟩ := info_parts info_C
  have HRR := Lib.hid hr
  clear hr
  subst hpa
  have HZ := Lib.hid (show xs.length = 0 by rw [hs.nil_of]; rfl)
  go_enter Try.func7, Try.ntmps7
  go_upto_region 1 with (fail)
  obtain ⟨W0, hW⟩ : ∃ W0, w.alloc (.cells #[.int .u32 t.a, .int .u32 t.b, .int .u16 t.c, .int .u16 t.d] 26) = W0 := ⟨_, rfl⟩
  have E : Ext w W0 := by rw [← hW]; exact Ext.al (Ext.rf _) _
  have ht : TuAt W0 w.heap.size t := by rw [← hW]; unfold TuAt; simp [go_sem, Lt]
  have s := hs.ext E
  rw [hW]
  clear hW hs
  go_upto_region 3 with ((go_at_call 13; (with_reducible refine (great_any none xs.length c _).mono ?_); rintro e W7 ⟨rfl, rfl⟩))
  have hz := HZ.out
  go_upto_region 4 with (fail)
  obtain ⟨Wc, hWc⟩ : ∃ Wc, W0.alloc (.cells #[] 43) = Wc := ⟨_, rfl⟩
  have g : Ext W0 Wc := by rw [← hWc]; exact Ext.al (Ext.rf _) _
  rw [hWc]
  clear hWc
  obtain ⟨pw, cw, hpw, sw⟩ : ∃ pw cw, (Value.slice (some ⟨W0.heap.size, 0, none⟩) 0 0) = .slice pw 0 cw ∧ SlC Wc pw xs := by
    have h0 := s.nil_of
    subst h0
    exact ⟨_, _, rfl, SlC.nil _ _⟩
  rw [hpw]
  clear hpw
  have E := E.tr g
  have s := s.ext g
  have ht := ht.ext g
  have HSC := Lib.hid s
  have HSW := Lib.hid sw
  have HEC := Lib.hid E
  have EW := Ext.rf Wc
  have hbw := Nat.le_refl Wc.heap.size
  obtain ⟨d0, d1, d2, d3⟩ := ht.cells
  have lB : Lt w.heap.size _ := ht.2
  clear g E sw
  go_upto_region 5 with (go_at_call 15; go_must (with_reducible refine (add_o t now none xs c _ s hl hz).mono ?_); rintro e W1 ⟨q1, n1, k1, x1, rfl, r1, g⟩; replace EW := EW.tr g; replace s := s.ext g; replace ht := ht.ext g)
  replace r1 := r1.le (b' := Wc.heap.size) (hbw)
  have hbw := Nat.le_trans hbw g.size
  clear g d0 d1 d2 d3 lB
  obtain ⟨d0, d1, d2, d3⟩ := ht.cells
  have lB : Lt w.heap.size _ := ht.2
  go_upto_region 6 with (go_at_call 17; go_must (with_reducible refine (touch_o t now none xs c _ s hl hz).mono ?_); rintro e W1 ⟨q2, n2, k2, x2, rfl, r2, g⟩; replace EW := EW.tr g; replace s := s.ext g; replace ht := ht.ext g; replace r1 := r1.ext g)
  replace r2 := r2.le (b' := Wc.heap.size) (hbw)
  have hbw := Nat.le_trans hbw g.size
  clear g d0 d1 d2 d3 lB
  obtain ⟨d0, d1, d2, d3⟩ := ht.cells
  have lB : Lt w.heap.size _ := ht.2
  go_upto_region 7 with (go_at_call 19; go_must (with_reducible refine (close_o t none xs c _ s hl hz).mono ?_); rintro e W1 ⟨q3, n3, k3, x3, rfl, r3, g⟩; replace EW := EW.tr g; replace s := s.ext g; replace ht := ht.ext g; replace r1 := r1.ext g; replace r2 := r2.ext g)
  replace r3 := r3.le (b' := Wc.heap.size) (hbw)
  have hbw := Nat.le_trans hbw g.size
  clear g d0 d1 d2 d3 lB
  obtain ⟨d0, d1, d2, d3⟩ := ht.cells
  have lB : Lt w.heap.size _ := ht.2
  go_upto_region 8 with (go_at_call 21; go_must (with_reducible refine (idle_o now none xs c _ s hl hz).mono ?_); rintro e W1 ⟨q4, n4, k4, q5, n5, k5, rfl, r4, r5, g⟩; replace EW := EW.tr g; replace s := s.ext g; replace ht := ht.ext g; replace r1 := r1.ext g; replace r2 := r2.ext g; replace r3 := r3.ext g)
  replace r4 := r4.le (b' := Wc.heap.size) (hbw)
  replace r5 := r5.le (b' := Wc.heap.size) (hbw)
  have hbw := Nat.le_trans hbw g.size
  clear g d0 d1 d2 d3 lB
  obtain ⟨d0, d1, d2, d3⟩ := ht.cells
  have lB : Lt w.heap.size _ := ht.2
  go_upto_region 9 with (first | (go_at_call 30; go_must (with_reducible refine (of_o bucket none xs c _ s hl hz HRR.out).mono ?_); rintro e W1 ⟨q6, n6, k6, rfl, r6, g⟩; replace EW := EW.tr g; replace s := s.ext g; replace ht := ht.ext g; replace r1 := r1.ext g; replace r2 := r2.ext g; replace r3 := r3.ext g; replace r4 := r4.ext g; replace r5 := r5.ext g; replace r6 := r6.le (b' := Wc.heap.size) hbw; replace hbw := Nat.le_trans hbw g.size; clear g) | (go_at_call 32; go_must (with_reducible refine (wo_o bucket none xs c _ s hl hz HRR.out).mono ?_); rintro e Wx ⟨q7, n7, k7, rfl, r7, g⟩; replace EW := EW.tr g; replace s := s.ext g; replace ht := ht.ext g; replace r1 := r1.ext g; replace r2 := r2.ext g; replace r3 := r3.ext g; replace r4 := r4.ext g; replace r5 := r5.ext g; replace r6 := r6.ext g; replace r7 := r7.le (b' := Wc.heap.size) hbw; replace hbw := Nat.le_trans hbw g.size; clear g))
  obtain ⟨vs, hvs⟩ : ∃ vs, [Value.slice q1 n1 k1, .slice q2 n2 k2, .slice q3 n3 k3, .slice q4 n4 k4, .slice q5 n5 k5, .slice q6 n6 k6, .slice q7 n7 k7] = vs := ⟨_, rfl⟩
  have hlen : vs.length = 7 := by rw [← hvs]; rfl
  obtain ⟨WA, hWA⟩ : ∃ WA, Wx.alloc (.cells #[Value.slice q1 n1 k1, .slice q2 n2 k2, .slice q3 n3 k3, .slice q4 n4 k4, .slice q5 n5 k5, .slice q6 n6 k6, .slice q7 n7 k7] 48) = WA := ⟨_, rfl⟩
  have gA : Ext Wx WA := by rw [← hWA]; exact Ext.al (Ext.rf _) _
  have hI : OwnI Wc Wx.heap.size vs WA := by
    refine ⟨?_, by rw [← hWA]; simp [Lt], ?_, EW.tr gA⟩
    · rw [← hWA, rowD_new, ← hvs]
    · intro v hv
      rw [← hvs] at hv
      simp only [List.mem_cons, List.not_mem_nil, or_false] at hv
      rcases hv with rfl | rfl | rfl | rfl | rfl | rfl | rfl
      · exact RowOk.ext r1 gA
      · exact RowOk.ext r2 gA
      · exact RowOk.ext r3 gA
      · exact RowOk.ext r4 gA
      · exact RowOk.ext r5 gA
      · exact RowOk.ext r6 gA
      · exact RowOk.ext r7 gA
  rw [hWA]
  obtain ⟨BA, hBA⟩ : ∃ BA, Wx.heap.size = BA := ⟨_, rfl⟩
  rw [hBA] at hI ⊢
  clear hz
  clear hWA gA r1 r2 r3 r4 r5 r6 r7 hvs s ht d0 d1 d2 d3 lB hBA EW hbw
  go_wp2
  go_loopw [19, 20] (fun a _ wr => ∃ i : Nat, i ≤ 7 ∧ a = .int .i64 i ∧ OwnI Wc BA vs wr) (fun a _ _ => 7 - (intOf a).toNat)
  case atStart => exact ⟨0, by omega, rfl, hI⟩
  case round =>
    obtain ⟨i, hi7, rfl, hJ⟩ := hrel
    clear hI
    by_cases hlt : i < 7
    · have hil : (i : Int) < 7 := by omega
      obtain ⟨q, n, kk, hv, hn, hrow⟩ := hJ.row (i := i) (by omega)
      have c0 := hJ.cell (by omega) hv
      have lBA : Lt BA wr := hJ.2.1
      have HV := Lib.hid hv
      have HJ := Lib.hid hJ
      clear hv hJ hrow
      go_wp2
      go_loopw [20] (fun a wq => ∃ m : Nat, m ≤ n ∧ a = .int .i64 m ∧ OwnI Wc BA vs wq) (fun a _ => n - (intOf a).toNat)
      case atStart => exact ⟨0, Nat.zero_le _, rfl, HJ.out⟩
      case round =>
        obtain ⟨m, hm, rfl, hJ⟩ := hrel
        clear c0 lBA HJ
        have c0 := hJ.cell (by omega) HV.out
        have lBA := hJ.2.1
        have HJ := Lib.hid hJ
        obtain ⟨q', n', k', hv', -, hrow⟩ := hJ.row (i := i) (by omega)
        rw [HV.out] at hv'
        cases Option.some.inj hv'
        clear hv' hJ
        by_cases hmn : m < n
        · have hml : (m : Int) < n := by omega
          obtain ⟨g, u, rfl, h1, h2, h3, h4, h5⟩ := hrow m hmn
          have hf := frozen_of_frz h5 (m * 6 + 4)
          have lg : Lt g wr := Nat.lt_of_lt_of_le h2 h3
          clear h3 h5 hrow
          go_wp2
          go_roundw
          case rel => exact ⟨m + 1, by omega, by go_num, HJ.out.set h1 h2⟩
          case measure => simp [intOf]; omega
        · have hml : ¬ ((m : Int) < n) := by omega
          clear hrow
          go_wp2
          go_roundw
          case rel => exact ⟨i + 1, by omega, by go_num, HJ.out⟩
          case measure => simp [intOf]; omega
    · have hil : ¬ ((i : Int) < 7) := by omega
      have hz := HZ.out
      have s := HSC.out.ext hJ.2.2.2
      have sw := HSW.out.ext hJ.2.2.2
      have E := HEC.out.tr hJ.2.2.2
      clear hJ HSC HSW HEC
      go_wp2_with (first | (go_at_call 23; (with_reducible refine (same_g s sw hz (by omega)).mono ?_); rintro e W1 ⟨rfl, g⟩; replace E := E.tr g; clear g) | (go_at_call 14; (with_reducible refine (wakes_any _).mono ?_); rintro e WZ ⟨rfl, gZ⟩))
      go_ret
      exact ⟨rfl, E.tr gZ⟩

theorem own_walk (t : Tu) (now bucket : Int) (p : Option Addr) (xs : List Co) (c : Nat) (w : World) (hs : SlC w p xs) (hc : xs.length ≤ c) (hr : ∀ x ∈ xs, TuR x.t) :
    Calls Try.prog 7 #[.slice p xs.length c, tu t.a t.b t.c t.d, .int .i64 now, .int .i64 bucket] w fun e w' => e = .returned (.bool true) ∧ Ext w w' := by
  cases hg : decide ((60 : Int) < xs.length)
  rotate_left
  · exact own_great t now bucket p xs c w hs hc hr hg
  have hl : xs.length ≤ 60 := by have := of_decide_eq_false hg; omega
  cases hp : p with
  | none => exact own_none t now bucket none xs c w (hp ▸ hs) hc hr hl hg rfl
  | some a => exact own_some t now bucket (some a) xs c w (hp ▸ hs) hc hr hl hg a rfl

set_option maxRecDepth 100000 in
theorem connsOwn_lifted (os : Os) (started : os.Started) (H : Type) (enc : TypeId × Value → H) :
    ReturnsInHanded {} Try.checked os 7 .any (Rows.connsOwnSpec.pre6 enc Try.prog Try.f7 Rows.connsOwnRow.domain false) (Rows.connsOwnSpec.post enc Try.prog Try.f7 false true false false) := by
  refine law_lift 4 ownKn started (by kernel_rfl) Try.func7 (ChangeSpec.witness6 (enc := enc) (C := Try.checked) false ⟨#[], #[.slice none 0 0, tu 0 0 0 0, .int .i64 0, .int .i64 0], []⟩ 8 (by kernel_rfl) (by kernel_rfl) (by kernel_rfl) (by kernel_rfl)) laidOut rfl (by kernel_rfl) Try.underlying4 ?_ (by kernel_rfl) ?_
  · intro ds h
    match ds, h with
    | [d0, d1, d2, d3], _ => rfl
  · intro W base args ds p hval hA hlt
    have hval' : ∀ (j : Nat) t v, Try.f7.params[j]? = some t → args[j]? = some v → Value.okWide Try.prog W .any base t v := hval
    have hA' : DataW.TrodAll enc Try.prog W 0 (fun _ => true) true Try.f7.params.toList args.toList ds p := hA
    rw [Try.params7] at hA' hval'
    obtain ⟨v0, vs0, d0, ds0, p0, q0, hargs, rfl, rfl, h0, r0⟩ := trodAll_cons hA'
    obtain ⟨v1, vs1, d1, ds1, p1, q1, rfl, rfl, rfl, h1, r1⟩ := trodAll_cons r0
    obtain ⟨v2, vs2, d2, ds2, p2, q2, rfl, rfl, rfl, h2, r2⟩ := trodAll_cons r1
    obtain ⟨v3, vs3, d3, ds3, p3, q3, rfl, rfl, rfl, h3, r3⟩ := trodAll_cons r2
    obtain ⟨rfl, rfl, rfl⟩ := trodAll_nil r3
    obtain rfl : args = #[v0, v1, v2, v3] := by cases args; simp_all
    obtain ⟨p_, xs, c_, rfl, hs_, hc_, hr_⟩ := open_C (hval' 0 _ v0 rfl rfl) h0
    obtain ⟨t, rfl, ht_⟩ := open_tu (hval' 1 _ v1 rfl rfl) h1
    obtain ⟨now, rfl, _, _, w_now⟩ := open_int Try.underlying3 (hval' 2 _ v2 rfl rfl) h2
    obtain ⟨bucket, rfl, _, _, w_bucket⟩ := open_int Try.underlying3 (hval' 3 _ v3 rfl rfl) h3
    exact own_walk t now bucket p_ xs c_ W hs_ hc_ hr_

theorem connsOwn_holds : Rows.ConnsOwnSaid :=
  OpenClaim.holds_of_wide 7 Try.f7 rfl rfl rfl rfl rfl rfl rfl ⟨rfl, rfl, rfl, rfl, rfl⟩ rfl rfl rfl rfl rfl (by kernel_rfl) Try.func7 (by kernel_rfl)
    (of_decide_eq_true (by kernel_rfl)) (by unfold Func.isWrapper; first | (rw [if_pos (by decide +kernel)]; kernel_rfl) | (rw [if_neg (by decide +kernel)]; exact ⟨rfl, rfl⟩))
    (fun os started H enc _ => connsOwn_lifted os started H enc)
#print axioms connsOwn_holds

end Go.Proofs.Ytookffaojlkfaaa
