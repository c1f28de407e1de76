/- The document's own memory of connections; the same. -/
import Derived.Test.YtookffaojlkfaaaC16
set_option linter.unusedSimpArgs false
set_option linter.unusedVariables false
namespace Go.Proofs.Ytookffaojlkfaaa
open Go.RowKit

theorem wpQuiet_val {P : Program} {ops : Array Oper} {C : World → Prop} {Q : Act → Prop} {o : Oper} {a : Act} {rest : List Oper} {v : Value} (hw : Region.wanted o (yielded ops a.tmps) = true) (hr : ∀ w, (execOp a.eval o).run P w = .ok (.value v) w) (h : wpQuiet P ops C Q rest (a.put o.dst v)) : wpQuiet P ops C Q (o :: rest) a := by
  unfold wpQuiet
  rw [if_pos hw]
  exact ⟨v, fun w hc => by unfold Oper.quietAt; rw [hr]; exact ⟨rfl, rfl⟩, h⟩

theorem SlC.news {w W : World} {a : Addr} {xs : List Co} (hs : SlC w (some a) xs) (e : Ext w W) : ∀ j u, (flC xs)[j]? = some u → W.cell? (a.add j) = some u := by
  intro j u hu
  have hj : j < xs.length * 6 := by have := (List.getElem?_eq_some_iff.1 hu).1; rwa [flC_len] at this
  have hk : j / 6 < xs.length := by omega
  obtain ⟨b, off, h, hb, c0, c1, c2, c3, c4, c5⟩ := (hs.ext e) (j / 6) hk
  cases h
  have e : (⟨b, off, none⟩ : Addr).add j = ⟨b, off + j, none⟩ := by unfold Addr.add; split <;> simp_all
  have hg := flC_get xs (j / 6) (j % 6) hk (Nat.mod_lt _ (by omega))
  rw [show j / 6 * 6 + j % 6 = j by omega] at hg
  rw [e, ← hu, hg]
  have hm : j % 6 < 6 := Nat.mod_lt _ (by omega)
  generalize hq : j / 6 = q at *
  generalize hr : j % 6 = r at *
  have hjq : j = q * 6 + r := by omega
  subst hjq
  obtain rfl | rfl | rfl | rfl | rfl | rfl : r = 0 ∨ r = 1 ∨ r = 2 ∨ r = 3 ∨ r = 4 ∨ r = 5 := by omega
  · exact c0
  · exact c1
  · exact c2
  · exact c3
  · exact c4
  · exact c5
theorem SlC.nil_of {w : World} {xs : List Co} (hs : SlC w none xs) : xs = [] := by
  cases xs with
  | nil => rfl
  | cons m r => obtain ⟨b, off, h, _⟩ := hs 0 (by simp); cases h
theorem own0_C (w : World) : (w.alloc (.cells #[] 43)).ownsRow w.heap.size 43 6 (.slice (some ⟨w.heap.size, 0, none⟩) 0 0) 0 [] := ⟨rfl, .inr ⟨w.heap.size, 0, #[], rfl, Nat.le_refl _, World.alloc_heap_new _ _, Nat.le_refl _, by unfold maxLen; omega, rfl, rfl⟩⟩
set_option maxRecDepth 20000 in
set_option maxHeartbeats 2000000 in
theorem own_C (p : Option Addr) (xs : List Co) (c : Nat) (w : World) (hs : SlC w p xs) (hl : xs.length ≤ 1000) :
    Calls Try.prog 54 #[.slice p xs.length c] w fun e w' => ∃ v, e = .returned v ∧ w'.ownsRow w.heap.size 43 6 v xs.length (flC xs) ∧ Ext w w' := by
  obtain ⟨i0, hi, hz0, hz1, hz2⟩ := info_parts info_C
  cases p with
  | none =>
    have h0 : xs = [] := hs.nil_of
    subst h0
    go_enter Try.func54, Try.ntmps54
    go_wp2
    go_ret
    exact ⟨_, rfl, own0_C w, Ext.al (Ext.rf _) _⟩
  | some a =>
    have HN := Lib.hid (hs.news (Ext.al (Ext.rf w) (.cells #[] 43)))
    have HO := Lib.hid (own0_C w)
    clear hs
    go_enter Try.func54, Try.ntmps54
    go_wp2_with (at_builtin; refine wpList_append_own _ rfl _ _ 22 rfl w.heap.size 43 i0 (.agg #[.int .u32 0, .int .u32 0, .int .u16 0, .int .u16 0, .int .i64 0, .int .i64 0]) 6 32 Try.underlying22 hi hz0 hz1 hz2 rfl (by decide) _ _ _ rfl HO.out a xs.length c (flC xs) rfl (by simp [flC_len]) HN.out (flC_one xs) (by unfold maxLen; omega) (by omega) (by simp) ?_; intro v' w2 hown' hgrow _; have HOW := Lib.hid hown'; have HG := Lib.hid hgrow; clear hown' hgrow)
    go_ret
    refine ⟨v', rfl, ?_, ?_⟩
    · have := HOW.out; rw [Nat.zero_add, List.nil_append] at this; exact this
    · exact Mv.ext (C := fun k => k = w.heap.size) ((Mv.al _ (Mv.refl _ _)).trans (Mv.of_grown HG.out fun r e => .inl (by have e' : some w.heap.size = some r := e; injection e' with h; exact h.symm))) (fun k hk e => by omega)
theorem neq_C {x y : Co} (h : x ≠ y) (ρ : Operand → Value) (dst : Option Tmp) (p q : Operand) (ty : TypeId) (pos : String) (after : Array Edge) (g : Option (Nat × Bool)) (hx : ρ p = .agg #[.int .u32 x.t.a, .int .u32 x.t.b, .int .u16 x.t.c, .int .u16 x.t.d, .int .i64 x.s, .int .i64 x.l]) (hy : ρ q = .agg #[.int .u32 y.t.a, .int .u32 y.t.b, .int .u16 y.t.c, .int .u16 y.t.d, .int .i64 y.s, .int .i64 y.l]) (w : World) :
    (execOp ρ ⟨dst, .binOp .neq 43 p q 43, ty, pos, after, g⟩).run Try.prog w = .ok (.value (.bool true)) w := by
  simp only [execOp, hx, hy]
  go_simp
  intro h1 h2 h3 h4 h5 h6
  apply h
  rcases x with ⟨⟨_, _, _, _⟩, _, _⟩
  rcases y with ⟨⟨_, _, _, _⟩, _, _⟩
  simp_all
theorem eql_C {x y : Co} (ρ : Operand → Value) (dst : Option Tmp) (p q : Operand) (ty : TypeId) (pos : String) (after : Array Edge) (g : Option (Nat × Bool)) (hx : ρ p = .agg #[.int .u32 x.t.a, .int .u32 x.t.b, .int .u16 x.t.c, .int .u16 x.t.d, .int .i64 x.s, .int .i64 x.l]) (hy : ρ q = .agg #[.int .u32 y.t.a, .int .u32 y.t.b, .int .u16 y.t.c, .int .u16 y.t.d, .int .i64 y.s, .int .i64 y.l]) (w : World) :
    (execOp ρ ⟨dst, .binOp .eql 43 p q 43, ty, pos, after, g⟩).run Try.prog w = .ok (.value (.bool (decide (x = y)))) w := by
  simp only [execOp, hx, hy]
  go_simp
  rcases x with ⟨⟨_, _, _, _⟩, _, _⟩
  rcases y with ⟨⟨_, _, _, _⟩, _, _⟩
  simp only [Co.mk.injEq, Tu.mk.injEq]
  repeat' split
  all_goals simp_all
set_option maxRecDepth 20000 in
set_option maxHeartbeats 2000000 in
theorem same_C (p q : Option Addr) (xs ys : List Co) (c c' : Nat) (w : World) (hs : SlC w p xs) (ht : SlC w q ys) (hl : xs.length ≤ 1000) (hm : ys.length ≤ 1000) :
    Calls Try.prog 23 #[.slice p xs.length c, .slice q ys.length c'] w fun e w' => e = .returned (.bool (decide (xs = ys))) ∧ Ext w w' := by
  by_cases hle : xs.length = ys.length
  · have hlb : ((xs.length : Int) != ys.length) = false := by simp [hle]
    have HLE := Lib.hid hle
    rw [hle] at hlb ⊢
    clear hle
    go_enter Try.func23, Try.ntmps23
    go_wp2
    go_loopw [5] (fun a wr => ∃ k : Nat, k ≤ xs.length ∧ a = .int .i64 k ∧ xs.take k = ys.take k ∧ Ext w wr) (fun a _ => ys.length - (intOf a).toNat)
    case atStart => exact ⟨0, Nat.zero_le _, rfl, rfl, Ext.rf _⟩
    case round =>
      obtain ⟨k, hk, rfl, hT, hE⟩ := hrel
      have hle := HLE.out
      by_cases hlt : k < ys.length
      · have hil : (k : Int) < ys.length := by omega
        obtain ⟨b1, o1, rfl, lb1, c0, c1, c2, c3, c4, c5⟩ := (hs.ext hE) k (by omega)
        obtain ⟨b2, o2, rfl, lb2, d0, d1, d2, d3, d4, d5⟩ := (ht.ext hE) k hlt
        have L1 : Lt b1 wr := lb1
        have L2 : Lt b2 wr := lb2
        have HH := Lib.hid hs
        have HT := Lib.hid ht
        have hx1 : k < xs.length := by omega
        obtain ⟨x, hx⟩ : ∃ x, xs[k] = x := ⟨_, rfl⟩
        obtain ⟨y, hy⟩ : ∃ y, ys[k] = y := ⟨_, rfl⟩
        have hT1 : xs.take (k + 1) = xs.take k ++ [x] := by rw [List.take_succ_eq_append_getElem hx1, hx]
        have hT2 : ys.take (k + 1) = ys.take k ++ [y] := by rw [List.take_succ_eq_append_getElem hlt, hy]
        rw [hx] at c0 c1 c2 c3 c4 c5
        rw [hy] at d0 d1 d2 d3 d4 d5
        clear hs ht hle lb1 lb2
        by_cases hxy : x = y
        · subst hxy
          have HN := Lib.hid (show xs.take (k + 1) = ys.take (k + 1) by rw [hT1, hT2, hT])
          clear hT hT1 hT2 hx hy
          go_upto_region 6 with (fail)
          refine wp_region_later (by kernel_rfl) (by kernel_rfl) ?_; (repeat (go_big_quiet_step (fail))); refine wpQuiet_nil ?_; intro d
          have hd := later_ext d
          go_wp2
          go_roundw
          case rel => exact ⟨k + 1, by omega, by go_num, HN.out, hE.tr hd⟩
          case measure => simp [intOf]; omega
        · have HXY := Lib.hid hxy
          have HR := Lib.hid (show decide (xs = ys) = false by
            refine decide_eq_false fun e => hxy ?_
            subst e
            rw [← hx, ← hy])
          clear hT hT1 hT2 hx hy hxy
          go_upto_region 6 with (fail)
          refine wp_region_later (by kernel_rfl) (by kernel_rfl) ?_; (repeat (go_big_quiet_step (fail)))
          refine wpQuiet_val (v := .bool true) (by kernel_rfl) (neq_C HXY.out _ _ _ _ _ _ _ _ (by kernel_rfl) (by kernel_rfl)) ?_
          refine wpQuiet_nil ?_; intro d
          have hd := later_ext d
          go_simp
          go_wp2
          exact bodyPost_ret (v := .bool false) (by simp [results, Try.results23, go_sem]) rfl ⟨by rw [HR.out], hE.tr hd⟩
      · have hil : ¬ ((k : Int) < ys.length) := by omega
        have HR := Lib.hid (show decide (xs = ys) = true by
          refine decide_eq_true ?_
          rwa [List.take_of_length_le (by omega), List.take_of_length_le (by omega)] at hT)
        clear hT
        go_wp2
        exact bodyPost_ret (v := .bool true) (by simp [results, Try.results23, go_sem]) rfl ⟨by rw [HR.out], hE⟩
  · have hlb : ((xs.length : Int) != ys.length) = true := by simp; omega
    have HR := Lib.hid (show decide (xs = ys) = false from decide_eq_false fun e => hle (by rw [e]))
    clear hle
    go_enter Try.func23, Try.ntmps23
    go_wp2
    exact bodyPost_ret (v := .bool false) (by simp [results, Try.results23, go_sem]) rfl ⟨by rw [HR.out], Ext.rf _⟩

theorem rroom_any (p : Option Addr) (n c : Nat) (w : World) :
    Calls Try.prog 29 #[.slice p n c] w fun e w' => e = .returned (.bool (decide ((n : Int) < 32))) ∧ w = w' := by
  go_enter Try.func29, Try.ntmps29
  go_wp2
  go_ret
  exact ⟨ret_bool (by simp), rfl⟩
theorem great_any (p : Option Addr) (n c : Nat) (w : World) :
    Calls Try.prog 13 #[.slice p n c] w fun e w' => e = .returned (.bool (decide ((60 : Int) < n))) ∧ w = w' := by
  go_enter Try.func13, Try.ntmps13
  go_wp2
  go_ret
  exact ⟨ret_bool (by simp), rfl⟩

end Go.Proofs.Ytookffaojlkfaaa
