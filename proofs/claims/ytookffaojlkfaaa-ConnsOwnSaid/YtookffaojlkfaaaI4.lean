/- The document's buckets; the document's order. -/
import Derived.Test.YtookffaojlkfaaaI3
set_option linter.unusedSimpArgs false
set_option linter.unusedVariables false
namespace Go.Proofs.Ytookffaojlkfaaa
open Go.RowKit

theorem rfold_val2 (n : Int) (h0 : 0 ≤ n) (h1 : n < 256) : bits BinOp.xor IntKind.i64 (wrap64 ((wrap64 n).tdiv 16)) ((wrap64 n).tmod 16) = fold n := by
  refine by256 (fun n => bits BinOp.xor IntKind.i64 (wrap64 ((wrap64 n).tdiv 16)) ((wrap64 n).tmod 16) = fold n) ?_ h0 h1
  kernel_rfl
set_option maxHeartbeats 1000000 in
theorem rsum_any (t : Tu) (hr : TuR t) (w : World) :
    Calls Try.prog 84 #[tu t.a t.b t.c t.d] w fun e w' => e = .returned (.int .u8 (sumT t)) ∧ Ext w w' := by
  have HR := Lib.hid hr
  clear hr
  go_enter Try.func84, Try.ntmps84
  go_wp2_with (first | (go_at_call 90; (with_reducible refine (rBytes_any t HR.out _).mono ?_); rintro e w1 ⟨v, rfl, ho, hE1⟩; obtain ⟨p, c, rfl, hs⟩ := ho.sl (by rw [tb_len]; omega); have HB := Lib.hid hs; have hE0 := Ext.tr (Ext.al (Ext.rf _) _) hE1; clear hs ho) | (go_at_call 109; (with_reducible refine (rgo_any 0 (tb t) _ _ _ HB.out (by rw [tb_len]; omega)).mono ?_); rintro e w2 ⟨rfl, rfl⟩))
  go_ret
  exact ⟨rfl, hE0⟩
set_option maxHeartbeats 1000000 in
theorem rof_any (t : Tu) (hr : TuR t) (w : World) :
    Calls Try.prog 51 #[tu t.a t.b t.c t.d] w fun e w' => e = .returned (.int .i64 (ofT t)) ∧ Ext w w' := by
  have HR := Lib.hid hr
  have HV := Lib.hid (rfold_val2 (sumT t) (sumT_bd t).1 (sumT_bd t).2)
  clear hr
  go_enter Try.func51, Try.ntmps51
  go_wp2_with (go_at_call 84; (with_reducible refine (rsum_any t HR.out _).mono ?_); rintro e w1 ⟨rfl, hE1⟩; have hE0 := Ext.tr (Ext.al (Ext.rf _) _) hE1)
  go_ret
  exact ⟨by show _ = Ending.returned (.int .i64 (fold (sumT t))); rw [← HV.out]; rfl, hE0⟩
/-- Rows of bytes, in order. -/
def lexB : List Int → List Int → Int
  | x :: xs, y :: ys => if x < y then -1 else if y < x then 1 else lexB xs ys
  | _, _ => 0
theorem lex4 (n k : Int) (xs ys : List Int) (h0 : 0 ≤ n ∧ n < 4294967296) (h1 : 0 ≤ k ∧ k < 4294967296) : lexB (byN n 4 ++ xs) (byN k 4 ++ ys) = if n < k then -1 else if k < n then 1 else lexB xs ys := by
  have e3 : (256 : Int) ^ 3 = 16777216 := by decide
  have e2 : (256 : Int) ^ 2 = 65536 := by decide
  have e1 : (256 : Int) ^ 1 = 256 := by decide
  have e0 : (256 : Int) ^ 0 = 1 := by decide
  simp only [byN, List.cons_append, List.nil_append, lexB, e3, e2, e1, e0]
  repeat' split
  all_goals first | rfl | (exfalso; omega)
theorem lex2 (n k : Int) (xs ys : List Int) (h0 : 0 ≤ n ∧ n < 65536) (h1 : 0 ≤ k ∧ k < 65536) : lexB (byN n 2 ++ xs) (byN k 2 ++ ys) = if n < k then -1 else if k < n then 1 else lexB xs ys := by
  have e1 : (256 : Int) ^ 1 = 256 := by decide
  have e0 : (256 : Int) ^ 0 = 1 := by decide
  simp only [byN, List.cons_append, List.nil_append, lexB, e1, e0]
  repeat' split
  all_goals first | rfl | (exfalso; omega)
theorem lex_cmp (s t : Tu) (hs : TuR s) (ht : TuR t) : lexB (tb s) (tb t) = cmpT s t := by
  have e : ∀ t : Tu, tb t = byN t.a 4 ++ (byN t.b 4 ++ (byN t.c 2 ++ (byN t.d 2 ++ []))) := fun t => rfl
  rw [e s, e t, lex4 _ _ _ _ hs.1 ht.1, lex4 _ _ _ _ hs.2.1 ht.2.1, lex2 _ _ _ _ hs.2.2.1 ht.2.2.1, lex2 _ _ _ _ hs.2.2.2 ht.2.2.2]
  have key : ∀ (x y r : Int), (if cmpI x y = 0 then r else cmpI x y) = if x < y then -1 else if y < x then 1 else r := by
    intro x y r
    unfold cmpI
    by_cases h1 : x < y
    · simp [h1]
    · by_cases h2 : y < x
      · simp [h1, h2]
      · simp [h1, h2]
  show _ = (if cmpI s.a t.a = 0 then (if cmpI s.b t.b = 0 then (if cmpI s.c t.c = 0 then (if cmpI s.d t.d = 0 then 0 else cmpI s.d t.d) else cmpI s.c t.c) else cmpI s.b t.b) else cmpI s.a t.a)
  rw [key, key, key, key]
  rfl
def SchM (ops : Array Oper) : Prop := Region.noSelect ops = true ∧ takesB ops 6 [0, 2] [] = true ∧ Region.ready .any ops (don 6 [2, 0]) = [1] ∧ Region.ready .any ops (don 6 [1, 2, 0]) = [3] ∧ takesB ops 6 [4, 5] [3, 1, 2, 0] = true ∧ Region.ready .any ops (don 6 [5, 4, 3, 1, 2, 0]) = []
theorem schM : SchM ((Try.f64.body.bind (findR 1)).getD #[]) := ⟨by kernel_rfl, by kernel_rfl, by kernel_rfl, by kernel_rfl, by kernel_rfl, by kernel_rfl⟩
theorem ldT_run {C : Nat → Prop} {w : World} {B : Nat} {t : Tu} (h : TuAt w B t) (hC : ¬ C B) (ρ : Operand → Value) (dst : Option Tmp) (x : Operand) (ty : TypeId) (pos : String) (after : Array Edge) (g : Option (Nat × Bool)) (hx : ρ x = .pointer (some ⟨B, 0, none⟩)) :
    ∀ w', Mv C w w' → (execOp ρ ⟨dst, .load 26 x, ty, pos, after, g⟩).run Try.prog w' = .ok (.value (tu t.a t.b t.c t.d)) w' := by
  intro w' hm
  obtain ⟨d0, d1, d2, d3⟩ := h.cells
  have hs := rowD_same (hm.same B h.2 hC)
  have q0 : w'.cell? ⟨B, 0, none⟩ = some (.int .u32 t.a) := by rw [cell_rowD, hs, ← cell_rowD]; exact d0
  have q1 : w'.cell? ⟨B, 1, none⟩ = some (.int .u32 t.b) := by rw [cell_rowD, hs, ← cell_rowD]; exact d1
  have q2 : w'.cell? ⟨B, 2, none⟩ = some (.int .u16 t.c) := by rw [cell_rowD, hs, ← cell_rowD]; exact d2
  have q3 : w'.cell? ⟨B, 3, none⟩ = some (.int .u16 t.d) := by rw [cell_rowD, hs, ← cell_rowD]; exact d3
  simp only [execOp, hx]
  go_simp
theorem lex_step (xs ys : List Int) (k : Nat) (hx : k < xs.length) (hy : k < ys.length) : lexB (xs.drop k) (ys.drop k) = if xs[k] < ys[k] then -1 else if ys[k] < xs[k] then 1 else lexB (xs.drop (k + 1)) (ys.drop (k + 1)) := by
  rw [List.drop_eq_getElem_cons hx, List.drop_eq_getElem_cons hy]
  rfl
set_option maxRecDepth 100000 in
set_option maxHeartbeats 4000000 in
theorem rcmp_any (s t : Tu) (hs : TuR s) (ht : TuR t) (w : World) :
    Calls Try.prog 64 #[tu s.a s.b s.c s.d, tu t.a t.b t.c t.d] w fun e w' => e = .returned (.int .i64 (cmpT s t)) ∧ Ext w w' := by
  rw [← lex_cmp s t hs ht]
  have HS := Lib.hid hs
  have HT := Lib.hid ht
  clear hs ht
  go_enter Try.func64, Try.ntmps64
  go_upto_region 1 with (fail)
  obtain ⟨W0, hW⟩ : ∃ W0, (w.alloc (.cells #[.int .u32 s.a, .int .u32 s.b, .int .u16 s.c, .int .u16 s.d] 26)).alloc (.cells #[.int .u32 t.a, .int .u32 t.b, .int .u16 t.c, .int .u16 t.d] 26) = W0 := ⟨_, rfl⟩
  have g0 : Ext w W0 := by rw [← hW]; exact Ext.al (Ext.al (Ext.rf _) _) _
  have hsz : W0.heap.size = w.heap.size + 2 := by rw [← hW]; simp
  have ts : TuAt W0 w.heap.size s := by rw [← hW]; unfold TuAt; simp [go_sem, Lt]; try omega
  have tt : TuAt W0 (w.heap.size + 1) t := by rw [← hW]; unfold TuAt; simp [go_sem, Lt]; try omega
  rw [hW]
  clear hW
  refine wp_region_K (fun k => W0.heap.size ≤ k) (by kernel_rfl) ?_
  obtain ⟨W1, hW1⟩ : ∃ W1, W0.drew = W1 := ⟨_, rfl⟩
  have g1 : Ext W0 W1 := by rw [← hW1]; exact Ext.dr (Ext.rf _)
  rw [hW1]
  clear hW1
  refine withK (N := 6) (R := SchM) (E := ((Try.f64.body.bind (findR 1)).getD #[])) (by kernel_rfl) schM (by kernel_rfl) fun hS => ?_
  have hT := hS.2.1
  refine takeD (N := 6) (k := 0) (v := (tu s.a s.b s.c s.d)) hS.1 hT rfl (by kernel_rfl) (ldT_run (ts.ext g1) (by omega) _ _ _ _ _ _ _ (by kernel_rfl)) fun hT => ?_
  refine takeD (N := 6) (k := 2) (v := (tu t.a t.b t.c t.d)) hS.1 hT rfl (by kernel_rfl) (ldT_run (tt.ext g1) (by omega) _ _ _ _ _ _ _ (by kernel_rfl)) fun hT => ?_
  refine soleD hS.2.2.1 (callD (R := fun v w' => OB w' W1.heap.size v (tb s)) rfl rfl (by kernel_rfl) (rBytes_any s HS.out W1) fun v1 W2 g2 o1 => ?_)
  refine soleD hS.2.2.2.1 (callD (R := fun v w' => OB w' W2.heap.size v (tb t)) rfl rfl (by kernel_rfl) (rBytes_any t HT.out W2) fun v2 W3 g3 o2 => ?_)
  have hT := hS.2.2.2.2.1
  refine takeD (N := 6) (k := 4) (v := v1) hS.1 hT rfl (by kernel_rfl) (fun _ _ => by kernel_rfl) fun hT => ?_
  refine takeD (N := 6) (k := 5) (v := v2) hS.1 hT rfl (by kernel_rfl) (fun _ _ => by kernel_rfl) fun hT => ?_
  refine doneK hS.2.2.2.2.2 ?_
  clear hS hT
  go_simp
  have E3 := g0.tr (g1.tr (g2.tr g3))
  obtain ⟨p1, c1, rfl, s1⟩ := (o1.ext g3).sl (by rw [tb_len]; omega)
  obtain ⟨p2, c2, rfl, s2⟩ := o2.sl (by rw [tb_len]; omega)
  obtain ⟨xs, hxs⟩ : ∃ xs, tb s = xs := ⟨_, rfl⟩
  obtain ⟨ys, hys⟩ : ∃ ys, tb t = ys := ⟨_, rfl⟩
  have lx : xs.length = 12 := by rw [← hxs]; rfl
  have ly : ys.length = 12 := by rw [← hys]; rfl
  rw [hxs] at s1 ⊢
  rw [hys] at s2 ⊢
  rw [lx, ly]
  have HXS := Lib.hid hxs
  have HYS := Lib.hid hys
  clear o1 o2 ts tt hxs hys g0 g1 g2 g3
  go_wp2
  go_loopw [7] (fun a wr => ∃ k : Nat, k ≤ 12 ∧ a = .int .i64 k ∧ lexB xs ys = lexB (xs.drop k) (ys.drop k) ∧ Ext w wr ∧ SlB wr p1 xs ∧ SlB wr p2 ys) (fun a _ => 12 - (intOf a).toNat)
  case atStart => exact ⟨0, by omega, rfl, rfl, E3, s1, s2⟩
  case round =>
    clear s1 s2 E3
    obtain ⟨k, hk, rfl, hlx, hE, h1, h2⟩ := hrel
    by_cases hlt : k < 12
    · have hil : (k : Int) < 12 := by omega
      have H1 := Lib.hid h1
      have H2 := Lib.hid h2
      obtain ⟨b1, o1, rfl, l1, c1'⟩ := h1 k (by omega)
      obtain ⟨b2, o2, rfl, l2, c2'⟩ := h2 k (by omega)
      have hst := hlx.trans (lex_step xs ys k (by omega) (by omega))
      obtain ⟨x, hx⟩ : ∃ x, xs[k]'(by omega) = x := ⟨_, rfl⟩
      obtain ⟨y, hy⟩ : ∃ y, ys[k]'(by omega) = y := ⟨_, rfl⟩
      rw [hx] at c1' hst
      rw [hy] at c2' hst
      have L1 : Lt b1 wr := l1
      have L2 : Lt b2 wr := l2
      clear h1 h2 l1 l2 hx hy hlx
      by_cases hxy : x < y
      · rw [if_pos hxy] at hst
        have HR := Lib.hid hst
        clear hst
        have hdx : decide (x < y) = true := decide_eq_true hxy
        go_upto_region 5 with (fail)
        refine wp_region_later (by kernel_rfl) (by kernel_rfl) ?_; (repeat (go_big_quiet_step (fail))); refine wpQuiet_nil ?_; intro d
        have hd := later_ext d
        go_wp2
        exact bodyPost_ret (v := .int .i64 (-1)) (by simp [results, Try.results64, go_sem]) rfl ⟨by rw [HXS.out, HYS.out, HR.out], hE.tr hd⟩
      · rw [if_neg hxy] at hst
        have hdx : decide (x < y) = false := decide_eq_false hxy
        have HX := Lib.hid hxy
        by_cases hyx : y < x
        · rw [if_pos hyx] at hst
          have HR := Lib.hid hst
          clear hst
          have hdy : decide (y < x) = true := decide_eq_true hyx
          go_upto_region 5 with (fail)
          refine wp_region_later (by kernel_rfl) (by kernel_rfl) ?_; (repeat (go_big_quiet_step (fail))); refine wpQuiet_nil ?_; intro d
          have hd := later_ext d
          obtain ⟨W5, hW5⟩ : ∃ W5, later d = W5 := ⟨_, rfl⟩
          rw [hW5] at hd ⊢
          clear hW5
          have q1 := (hd.cell (p := ⟨b1, _, none⟩) L1).trans c1'
          have q2 := (hd.cell (p := ⟨b2, _, none⟩) L2).trans c2'
          have K1 : Lt b1 W5 := Nat.lt_of_lt_of_le L1 hd.size
          have K2 : Lt b2 W5 := Nat.lt_of_lt_of_le L2 hd.size
          go_upto_region 7 with (fail)
          refine wp_region_later (by kernel_rfl) (by kernel_rfl) ?_; (repeat (go_big_quiet_step (fail))); refine wpQuiet_nil ?_; intro d2
          have hd2 := later_ext d2
          go_wp2
          exact bodyPost_ret (v := .int .i64 1) (by simp [results, Try.results64, go_sem]) rfl ⟨by rw [HXS.out, HYS.out, HR.out], (hE.tr hd).tr hd2⟩
        · rw [if_neg hyx] at hst
          have HR := Lib.hid hst
          clear hst
          have hdy : decide (y < x) = false := decide_eq_false hyx
          go_upto_region 5 with (fail)
          refine wp_region_later (by kernel_rfl) (by kernel_rfl) ?_; (repeat (go_big_quiet_step (fail))); refine wpQuiet_nil ?_; intro d
          have hd := later_ext d
          obtain ⟨W5, hW5⟩ : ∃ W5, later d = W5 := ⟨_, rfl⟩
          rw [hW5] at hd ⊢
          clear hW5
          have q1 := (hd.cell (p := ⟨b1, _, none⟩) L1).trans c1'
          have q2 := (hd.cell (p := ⟨b2, _, none⟩) L2).trans c2'
          have K1 : Lt b1 W5 := Nat.lt_of_lt_of_le L1 hd.size
          have K2 : Lt b2 W5 := Nat.lt_of_lt_of_le L2 hd.size
          go_upto_region 7 with (fail)
          refine wp_region_later (by kernel_rfl) (by kernel_rfl) ?_; (repeat (go_big_quiet_step (fail))); refine wpQuiet_nil ?_; intro d2
          have hd2 := later_ext d2
          go_wp2
          go_roundw
          case rel => exact ⟨k + 1, by omega, by go_num, HR.out, (hE.tr hd).tr hd2, (H1.out.ext hd).ext hd2, (H2.out.ext hd).ext hd2⟩
          case measure => simp [intOf]; omega
    · have hil : ¬ ((k : Int) < 12) := by omega
      have HR := Lib.hid (show lexB xs ys = 0 by rw [hlx, List.drop_of_length_le (by omega)]; rfl)
      clear hlx
      go_wp2
      exact bodyPost_ret (v := .int .i64 0) (by simp [results, Try.results64, go_sem]) rfl ⟨by rw [HXS.out, HYS.out, HR.out], hE⟩

end Go.Proofs.Ytookffaojlkfaaa
