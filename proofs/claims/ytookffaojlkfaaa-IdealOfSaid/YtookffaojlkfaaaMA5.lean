/- Lemmas of this claim, put together out of: Y1, Y2, Y3, Y4, Y5, Y6, Y7, Y8, Y9. -/
import Derived.Test.YtookffaojlkfaaaMA4
set_option linter.unusedSimpArgs false
set_option linter.unusedVariables false
/- Holders: Clone, own, Same. -/
namespace Go.Proofs.Ytookffaojlkfaaa
open Go.RowKit

def Ho.cl (x : Ho) : List Value := [.int .u32 x.t.a, .int .u32 x.t.b, .int .u16 x.t.c, .int .u16 x.t.d, .int .i64 x.n]
def flH (xs : List Ho) : List Value := xs.flatMap Ho.cl
theorem flH_len : ∀ xs : List Ho, (flH xs).length = xs.length * 5
  | [] => rfl
  | x :: xs => by
    show (Ho.cl x ++ flH xs).length = _
    rw [List.length_append, flH_len xs, List.length_cons]
    show 5 + _ = _
    omega
theorem flH_get : ∀ (xs : List Ho) (k j : Nat) (hk : k < xs.length), j < 5 → (flH xs)[k * 5 + j]? = (xs[k]).cl[j]?
  | x :: xs, 0, j, _, hj => by
    show (Ho.cl x ++ flH xs)[0 * 5 + j]? = _
    rw [Nat.zero_mul, Nat.zero_add, List.getElem?_append_left (by show j < 5; exact hj)]; rfl
  | x :: xs, k + 1, j, hk, hj => by
    show (Ho.cl x ++ flH xs)[(k + 1) * 5 + j]? = _
    have hc : (Ho.cl x).length = 5 := rfl
    rw [List.getElem?_append_right (by omega), hc, show (k + 1) * 5 + j - 5 = k * 5 + j by omega]
    exact flH_get xs k j (by simpa using hk) hj
theorem flH_snoc (xs : List Ho) (x : Ho) : flH (xs ++ [x]) = flH xs ++ x.cl := by unfold flH; simp
theorem flH_one (xs : List Ho) : ∀ u ∈ flH xs, u.oneCell' = true := by
  intro u hu
  unfold flH at hu
  rw [List.mem_flatMap] at hu
  obtain ⟨x, _, hx⟩ := hu
  unfold Ho.cl at hx
  simp only [List.mem_cons, List.not_mem_nil, or_false] at hx
  rcases hx with rfl | rfl | rfl | rfl | rfl <;> rfl
theorem info_H : (Try.prog.info? 70).map (fun i => (i.zero, i.size, i.bytes)) = some (some (.agg #[.int .u32 0, .int .u32 0, .int .u16 0, .int .u16 0, .int .i64 0]), 5, 24) := by kernel_rfl
theorem SlH.own {w : World} {base : Nat} {v : Value} {xs : List Ho} (h : w.ownsRow base 70 5 v xs.length (flH xs)) : ∃ p c, v = .slice p xs.length c ∧ xs.length ≤ c ∧ SlH w p xs := by
  rcases h.2 with ⟨rfl, h0⟩ | ⟨g, cap, cur, rfl, hg, hgb, h1, h2, h3, h4⟩
  · have : xs = [] := List.length_eq_zero_iff.1 h0
    subst this
    exact ⟨none, 0, rfl, Nat.le_refl _, SlH.nil _ _⟩
  · refine ⟨some ⟨g, 0, none⟩, cap, rfl, h1, fun k hk => ?_⟩
    have key : ∀ j, j < 5 → w.cell? ⟨g, 0 + k * 5 + j, none⟩ = (xs[k]).cl[j]? := fun j hj => by
      rw [← flH_get xs k j hk hj, ← h4, List.getElem?_take_of_lt (by have := flH_len xs; omega)]
      simp only [World.cell?, hgb]
      simp
    exact ⟨g, 0, rfl, (Array.getElem?_eq_some_iff.1 hgb).1, key 0 (by omega), key 1 (by omega), key 2 (by omega), key 3 (by omega), key 4 (by omega)⟩
set_option maxRecDepth 20000 in
set_option maxHeartbeats 2000000 in
theorem clone_H (p : Option Addr) (xs : List Ho) (c : Nat) (w : World) (hs : SlH w p xs) (hl : xs.length ≤ 1000) :
    Calls Try.prog 73 #[.slice p xs.length c] w fun e w' => ∃ v, e = .returned v ∧ w'.ownsRow w.heap.size 70 5 v xs.length (flH xs) ∧ Ext w w' := by
  obtain ⟨i0, hi, hz0, hz1, hz2⟩ := info_parts info_H
  have hnil := fun (W : World) (a : Option Addr) (n c : Nat) => Lib.run_eql_slice_nil (P := Try.prog) W 50 70 a n c 0 0 Try.underlying50
  cases p with
  | none =>
    have h0 : xs = [] := by
      cases xs with
      | nil => rfl
      | cons m r => obtain ⟨b, off, h, _⟩ := hs 0 (by simp); cases h
    subst h0
    go_enter Try.func73, Try.ntmps73
    go_wp2
    go_ret
    exact ⟨_, rfl, World.ownsRow_nil _ _ _ _, Ext.rf _⟩
  | some a =>
    have own0 : (w.alloc (.cells #[] 70)).ownsRow w.heap.size 70 5 (.slice (some ⟨w.heap.size, 0, none⟩) 0 0) 0 [] := ⟨rfl, .inr ⟨w.heap.size, 0, #[], rfl, Nat.le_refl _, World.alloc_heap_new _ _, Nat.le_refl _, by unfold maxLen; omega, rfl, rfl⟩⟩
    have hnews : ∀ j u, (flH xs)[j]? = some u → (w.alloc (.cells #[] 70)).cell? (a.add j) = some u := by
      intro j u hu
      have hj : j < xs.length * 5 := by have := (List.getElem?_eq_some_iff.1 hu).1; rwa [flH_len] at this
      have hk : j / 5 < xs.length := by omega
      obtain ⟨b, off, h, hb, c0, c1, c2, c3, c4⟩ := hs (j / 5) hk
      cases h
      have e : (⟨b, off, none⟩ : Addr).add j = ⟨b, off + j, none⟩ := by unfold Addr.add; split <;> simp_all
      have hg := flH_get xs (j / 5) (j % 5) hk (Nat.mod_lt _ (by omega))
      rw [show j / 5 * 5 + j % 5 = j by omega] at hg
      rw [e, World.cell?_alloc_past _ _ _ hb, ← hu, hg]
      have hm : j % 5 < 5 := Nat.mod_lt _ (by omega)
      generalize hq : j / 5 = q at *
      generalize hr : j % 5 = r at *
      have hjq : j = q * 5 + r := by omega
      subst hjq
      obtain rfl | rfl | rfl | rfl | rfl : r = 0 ∨ r = 1 ∨ r = 2 ∨ r = 3 ∨ r = 4 := by omega
      · exact c0
      · exact c1
      · exact c2
      · exact c3
      · exact c4
    have HN := Lib.hid hnews
    have HO := Lib.hid own0
    clear hnews own0 hs
    go_enter Try.func73, Try.ntmps73
    go_wp2_with (at_builtin; refine wpList_append_own _ rfl _ _ 50 rfl w.heap.size 70 i0 (.agg #[.int .u32 0, .int .u32 0, .int .u16 0, .int .u16 0, .int .i64 0]) 5 24 Try.underlying50 hi hz0 hz1 hz2 rfl (by decide) _ _ _ rfl HO.out a xs.length c (flH xs) rfl (by simp [flH_len]) HN.out (flH_one xs) (by unfold maxLen; omega) (by omega) (by simp) ?_; intro v' w2 hown' hgrow _; have HOW := Lib.hid hown'; have HG := Lib.hid hgrow; clear hown' hgrow)
    go_ret
    refine ⟨v', rfl, ?_, ?_⟩
    · have := HOW.out; rw [Nat.zero_add, List.nil_append] at this; exact this
    · exact Mv.ext (C := fun k => k = w.heap.size) ((Mv.al _ (Mv.refl _ _)).trans (Mv.of_grown HG.out fun r e => .inl (by have e' : some w.heap.size = some r := e; injection e' with h; exact h.symm))) (fun k hk e => by omega)

theorem SlH.news {w W : World} {a : Addr} {xs : List Ho} (hs : SlH w (some a) xs) (e : Ext w W) : ∀ j u, (flH xs)[j]? = some u → W.cell? (a.add j) = some u := by
  intro j u hu
  have hj : j < xs.length * 5 := by have := (List.getElem?_eq_some_iff.1 hu).1; rwa [flH_len] at this
  have hk : j / 5 < xs.length := by omega
  obtain ⟨b, off, h, hb, c0, c1, c2, c3, c4⟩ := (hs.ext e) (j / 5) hk
  cases h
  have e : (⟨b, off, none⟩ : Addr).add j = ⟨b, off + j, none⟩ := by unfold Addr.add; split <;> simp_all
  have hg := flH_get xs (j / 5) (j % 5) hk (Nat.mod_lt _ (by omega))
  rw [show j / 5 * 5 + j % 5 = j by omega] at hg
  rw [e, ← hu, hg]
  have hm : j % 5 < 5 := Nat.mod_lt _ (by omega)
  generalize hq : j / 5 = q at *
  generalize hr : j % 5 = r at *
  have hjq : j = q * 5 + r := by omega
  subst hjq
  obtain rfl | rfl | rfl | rfl | rfl : r = 0 ∨ r = 1 ∨ r = 2 ∨ r = 3 ∨ r = 4 := by omega
  · exact c0
  · exact c1
  · exact c2
  · exact c3
  · exact c4
theorem SlH.nil_of {w : World} {xs : List Ho} (hs : SlH w none xs) : xs = [] := by
  cases xs with
  | nil => rfl
  | cons m r => obtain ⟨b, off, h, _⟩ := hs 0 (by simp); cases h
theorem own0_H (w : World) : (w.alloc (.cells #[] 70)).ownsRow w.heap.size 70 5 (.slice (some ⟨w.heap.size, 0, none⟩) 0 0) 0 [] := ⟨rfl, .inr ⟨w.heap.size, 0, #[], rfl, Nat.le_refl _, World.alloc_heap_new _ _, Nat.le_refl _, by unfold maxLen; omega, rfl, rfl⟩⟩
set_option maxRecDepth 20000 in
set_option maxHeartbeats 2000000 in
theorem own_H (p : Option Addr) (xs : List Ho) (c : Nat) (w : World) (hs : SlH w p xs) (hl : xs.length ≤ 1000) :
    Calls Try.prog 75 #[.slice p xs.length c] w fun e w' => ∃ v, e = .returned v ∧ w'.ownsRow w.heap.size 70 5 v xs.length (flH xs) ∧ Ext w w' := by
  obtain ⟨i0, hi, hz0, hz1, hz2⟩ := info_parts info_H
  cases p with
  | none =>
    have h0 : xs = [] := hs.nil_of
    subst h0
    go_enter Try.func75, Try.ntmps75
    go_wp2
    go_ret
    exact ⟨_, rfl, own0_H w, Ext.al (Ext.rf _) _⟩
  | some a =>
    have HN := Lib.hid (hs.news (Ext.al (Ext.rf w) (.cells #[] 70)))
    have HO := Lib.hid (own0_H w)
    clear hs
    go_enter Try.func75, Try.ntmps75
    go_wp2_with (at_builtin; refine wpList_append_own _ rfl _ _ 50 rfl w.heap.size 70 i0 (.agg #[.int .u32 0, .int .u32 0, .int .u16 0, .int .u16 0, .int .i64 0]) 5 24 Try.underlying50 hi hz0 hz1 hz2 rfl (by decide) _ _ _ rfl HO.out a xs.length c (flH xs) rfl (by simp [flH_len]) HN.out (flH_one xs) (by unfold maxLen; omega) (by omega) (by simp) ?_; intro v' w2 hown' hgrow _; have HOW := Lib.hid hown'; have HG := Lib.hid hgrow; clear hown' hgrow)
    go_ret
    refine ⟨v', rfl, ?_, ?_⟩
    · have := HOW.out; rw [Nat.zero_add, List.nil_append] at this; exact this
    · exact Mv.ext (C := fun k => k = w.heap.size) ((Mv.al _ (Mv.refl _ _)).trans (Mv.of_grown HG.out fun r e => .inl (by have e' : some w.heap.size = some r := e; injection e' with h; exact h.symm))) (fun k hk e => by omega)
theorem neq_H {x y : Ho} (h : x ≠ y) (ρ : Operand → Value) (dst : Option Tmp) (p q : Operand) (ty : TypeId) (pos : String) (after : Array Edge) (g : Option (Nat × Bool)) (hx : ρ p = .agg #[.int .u32 x.t.a, .int .u32 x.t.b, .int .u16 x.t.c, .int .u16 x.t.d, .int .i64 x.n]) (hy : ρ q = .agg #[.int .u32 y.t.a, .int .u32 y.t.b, .int .u16 y.t.c, .int .u16 y.t.d, .int .i64 y.n]) (w : World) :
    (execOp ρ ⟨dst, .binOp .neq 70 p q 70, ty, pos, after, g⟩).run Try.prog w = .ok (.value (.bool true)) w := by
  simp only [execOp, hx, hy]
  go_simp
  intro h1 h2 h3 h4 h5
  apply h
  rcases x with ⟨⟨_, _, _, _⟩, _⟩
  rcases y with ⟨⟨_, _, _, _⟩, _⟩
  simp_all
theorem eql_H {x y : Ho} (ρ : Operand → Value) (dst : Option Tmp) (p q : Operand) (ty : TypeId) (pos : String) (after : Array Edge) (g : Option (Nat × Bool)) (hx : ρ p = .agg #[.int .u32 x.t.a, .int .u32 x.t.b, .int .u16 x.t.c, .int .u16 x.t.d, .int .i64 x.n]) (hy : ρ q = .agg #[.int .u32 y.t.a, .int .u32 y.t.b, .int .u16 y.t.c, .int .u16 y.t.d, .int .i64 y.n]) (w : World) :
    (execOp ρ ⟨dst, .binOp .eql 70 p q 70, ty, pos, after, g⟩).run Try.prog w = .ok (.value (.bool (decide (x = y)))) w := by
  simp only [execOp, hx, hy]
  go_simp
  rcases x with ⟨⟨_, _, _, _⟩, _⟩
  rcases y with ⟨⟨_, _, _, _⟩, _⟩
  simp only [Ho.mk.injEq, Tu.mk.injEq]
  repeat' split
  all_goals simp_all
set_option maxRecDepth 20000 in
set_option maxHeartbeats 2000000 in
theorem same_H (p q : Option Addr) (xs ys : List Ho) (c c' : Nat) (w : World) (hs : SlH w p xs) (ht : SlH w q ys) (hl : xs.length ≤ 1000) (hm : ys.length ≤ 1000) :
    Calls Try.prog 42 #[.slice p xs.length c, .slice q ys.length c'] w fun e w' => e = .returned (.bool (decide (xs = ys))) ∧ Ext w w' := by
  by_cases hle : xs.length = ys.length
  · have hlb : ((xs.length : Int) != ys.length) = false := by simp [hle]
    have HLE := Lib.hid hle
    rw [hle] at hlb ⊢
    clear hle
    go_enter Try.func42, Try.ntmps42
    go_wp2
    go_loopw [5] (fun a wr => ∃ k : Nat, k ≤ xs.length ∧ a = .int .i64 k ∧ xs.take k = ys.take k ∧ Ext w wr) (fun a _ => ys.length - (intOf a).toNat)
    case atStart => exact ⟨0, Nat.zero_le _, rfl, rfl, Ext.rf _⟩
    case round =>
      obtain ⟨k, hk, rfl, hT, hE⟩ := hrel
      have hle := HLE.out
      by_cases hlt : k < ys.length
      · have hil : (k : Int) < ys.length := by omega
        obtain ⟨b1, o1, rfl, lb1, c0, c1, c2, c3, c4⟩ := (hs.ext hE) k (by omega)
        obtain ⟨b2, o2, rfl, lb2, d0, d1, d2, d3, d4⟩ := (ht.ext hE) k hlt
        have L1 : Lt b1 wr := lb1
        have L2 : Lt b2 wr := lb2
        have HH := Lib.hid hs
        have HT := Lib.hid ht
        have hx1 : k < xs.length := by omega
        obtain ⟨x, hx⟩ : ∃ x, xs[k] = x := ⟨_, rfl⟩
        obtain ⟨y, hy⟩ : ∃ y, ys[k] = y := ⟨_, rfl⟩
        have hT1 : xs.take (k + 1) = xs.take k ++ [x] := by rw [List.take_succ_eq_append_getElem hx1, hx]
        have hT2 : ys.take (k + 1) = ys.take k ++ [y] := by rw [List.take_succ_eq_append_getElem hlt, hy]
        rw [hx] at c0 c1 c2 c3 c4
        rw [hy] at d0 d1 d2 d3 d4
        clear hs ht hle lb1 lb2
        by_cases hxy : x = y
        · subst hxy
          have HN := Lib.hid (show xs.take (k + 1) = ys.take (k + 1) by rw [hT1, hT2, hT])
          clear hT hT1 hT2 hx hy
          go_upto_region 6 with (fail)
          refine wp_region_later (by kernel_rfl) (by kernel_rfl) ?_; (repeat (go_big_quiet_step (fail))); refine wpQuiet_nil ?_; intro d
          have hd := later_ext d
          go_wp2
          go_roundw
          case rel => exact ⟨k + 1, by omega, by go_num, HN.out, hE.tr hd⟩
          case measure => simp [intOf]; omega
        · have HXY := Lib.hid hxy
          have HR := Lib.hid (show decide (xs = ys) = false by
            refine decide_eq_false fun e => hxy ?_
            subst e
            rw [← hx, ← hy])
          clear hT hT1 hT2 hx hy hxy
          go_upto_region 6 with (fail)
          refine wp_region_later (by kernel_rfl) (by kernel_rfl) ?_; (repeat (go_big_quiet_step (fail)))
          refine wpQuiet_val (v := .bool true) (by kernel_rfl) (neq_H HXY.out _ _ _ _ _ _ _ _ (by kernel_rfl) (by kernel_rfl)) ?_
          refine wpQuiet_nil ?_; intro d
          have hd := later_ext d
          go_simp
          go_wp2
          exact bodyPost_ret (v := .bool false) (by simp [results, Try.results42, go_sem]) rfl ⟨by rw [HR.out], hE.tr hd⟩
      · have hil : ¬ ((k : Int) < ys.length) := by omega
        have HR := Lib.hid (show decide (xs = ys) = true by
          refine decide_eq_true ?_
          rwa [List.take_of_length_le (by omega), List.take_of_length_le (by omega)] at hT)
        clear hT
        go_wp2
        exact bodyPost_ret (v := .bool true) (by simp [results, Try.results42, go_sem]) rfl ⟨by rw [HR.out], hE⟩
  · have hlb : ((xs.length : Int) != ys.length) = true := by simp; omega
    have HR := Lib.hid (show decide (xs = ys) = false from decide_eq_false fun e => hle (by rw [e]))
    clear hle
    go_enter Try.func42, Try.ntmps42
    go_wp2
    exact bodyPost_ret (v := .bool false) (by simp [results, Try.results42, go_sem]) rfl ⟨by rw [HR.out], Ext.rf _⟩

end Go.Proofs.Ytookffaojlkfaaa

/- Holders: Insert. -/
namespace Go.Proofs.Ytookffaojlkfaaa
open Go.RowKit

theorem append_tu {P : Program} {t u e e2 : TypeId} (ht : P.underlying t = some (.slice e)) (hu : P.underlying u = some (.slice e2)) (ty : TypeId) (b0 : Option Addr) (n cap : Nat) (y : Value) (w : World) :
    (Builtin.append_ #[t, u] ty #[.slice b0 n cap, y]).run P w = (Builtin.append_ #[t, t] ty #[.slice b0 n cap, y]).run P w := by
  simp [Builtin.append_, Sem.run_bind, run_underlying ht, run_underlying hu]
theorem wpList_append_two {P : Program} (w : World) {ops : Array Oper} {rest : List Oper} {o : Oper} {a : Act} {Q : Exit → Act → World → Prop} (hgd : o.guard = none) (s x : Operand) (t u : TypeId) {e2 : TypeId} (hu : P.underlying u = some (.slice e2))
    (ho : o.op = .call { callee := .builtin .append, args := #[s, x], argTypes := #[t, u] })
    (base : Nat) (e : TypeId) (i : TypeInfo) (z : Value) (size bytes : Nat) (ht : P.underlying t = some (.slice e)) (hi : P.info? e = some i) (hz : i.zero = some z)
    (hsize : i.size = size) (hby : i.bytes = bytes) (hzs : z.cells.size = size) (hsz : 0 < size)
    (v : Value) (n : Nat) (xs : List Value) (hs : a.eval s = v) (hown : w.ownsRow base e size v n xs)
    (ad : Addr) (m c : Nat) (news : List Value) (hx : a.eval x = .slice (some ad) m c) (hl : news.length = m * size) (hnews : ∀ j u, news[j]? = some u → w.cell? (ad.add j) = some u) (h1 : ∀ u ∈ news, u.oneCell' = true)
    (h63 : n + m ≤ maxLen) (hbytes : (n + m) * bytes ≤ 140737488355328) (hbase : base ≤ w.heap.size)
    (h : ∀ v' w', w'.ownsRow base e size v' (n + m) (xs ++ news) → w.grownBy w' v.ownBlock → (v' = .slice none 0 0 ↔ v = .slice none 0 0 ∧ m = 0) → wpList P ops Q rest (a.put o.dst v') w') :
    wpList P ops Q (o :: rest) a w := by
  refine wpList_plain hgd fun K hK => ?_
  obtain ⟨v', w', hr, h2, h3, h4, h5⟩ := run_append_own_at (P := P) w base t o.type e i z size bytes ht hi hz hsize hby hzs hsz v n xs hown ad m c news hl hnews h1 h63 hbytes hbase
  obtain ⟨b0, n0, k0, hv⟩ : ∃ b0 n0 k0, v = .slice b0 n0 k0 := by
    rcases hown.2 with ⟨e, _⟩ | ⟨g, cap, cur, e, _⟩
    · exact ⟨_, _, _, e⟩
    · exact ⟨_, _, _, e⟩
  rw [hv, ← append_tu ht hu, ← hv] at hr
  unfold Oper.wp execOp
  simp only [ho, resolve, invoke, builtin, Sem.run_bind, Sem.run_pure, Result.andThen_ok, List.map_toArray, List.map_cons, List.map_nil, hs, hx, hr]
  exact hK _ _ (h v' w' h2 h3 h4)

theorem flH_cut (xs : List Ho) (i : Nat) (hi : i ≤ xs.length) : (flH xs).take (i * 5) = flH (xs.take i) ∧ (flH xs).drop (i * 5) = flH (xs.drop i) := by
  have h : flH xs = flH (xs.take i) ++ flH (xs.drop i) := by
    have h0 : flH (xs.take i ++ xs.drop i) = flH (xs.take i) ++ flH (xs.drop i) := by unfold flH; rw [List.flatMap_append]
    rw [← h0, List.take_append_drop]
  have hl : (flH (xs.take i)).length = i * 5 := by rw [flH_len, List.length_take, Nat.min_eq_left hi]
  rw [h]
  exact ⟨by rw [← hl, List.take_left], by rw [← hl, List.drop_left]⟩
theorem flH_ins (xs : List Ho) (i : Nat) (x : Ho) (hi : i ≤ xs.length) : flH (insAt xs i x) = (flH xs).take (i * 5) ++ x.cl ++ (flH xs).drop (i * 5) := by
  rw [(flH_cut xs i hi).1, (flH_cut xs i hi).2]
  unfold insAt flH
  simp
set_option maxHeartbeats 4000000 in
set_option maxRecDepth 100000 in
theorem ins_shift_H (b n c i vb m vc : Nat) (cs vs : List Value) (w : World) (hi : i < n) (hm : 0 < m) (hroom : n + m ≤ c) (hc63 : c ≤ 9223372036854775807) (hvb : vb ≠ b)
    (hcl : cs.length = n * 5) (hvl : vs.length = m * 5)
    (hcs : ∀ j v, cs[j]? = some v → w.cell? ⟨b, j, none⟩ = some v) (hsp : ∀ j, j < (n + m) * 5 → (w.cell? ⟨b, j, none⟩).isSome = true) (hfz : ∀ j, w.frozen? ⟨b, j, none⟩ = false)
    (hvs : ∀ j v, vs[j]? = some v → w.cell? ⟨vb, j, none⟩ = some v) (h1c : ∀ v ∈ cs, v.oneCell' = true) (h1v : ∀ v ∈ vs, v.oneCell' = true)
    (tA tB : TypeId) (kA kB : Nat) (hsa : w.shape? vb = some (tA, kA)) (hsb : w.shape? b = some (tB, kB)) (hkB : kB ≠ 0) (hfa : w.frozen? ⟨vb, 0, none⟩ = false) (hfe : w.frozen? ⟨vb, kA, none⟩ = false) :
    Calls Try.prog 101 #[.slice (some ⟨b, 0, none⟩) n c, .int .i64 i, .slice (some ⟨vb, 0, none⟩) m vc] w fun e w' =>
      e = .returned (.slice (some ⟨b, 0, none⟩) (n + m) c) ∧ w' = (w.drew.setCells b ((i + m) * 5) (cs.drop (i * 5))).setCells b (i * 5) vs := by
  obtain ⟨i0, hi0, hz0, hzs, hzb⟩ := info_parts info_H
  have hz1 : ¬ ((m : Int) = 0) := by omega
  have hz2 : ¬ ((i : Int) = (n : Int)) := by omega
  have hsz : (Try.prog.info? 70).map (·.size) = some 5 := by rw [hi0]; simp [hzs]
  have hov : ∀ lb cb, (callFunc 116 #[.slice (some ⟨vb, 0, none⟩) m vc, .slice (some ⟨b, (i + m) * 5, none⟩) lb cb]).run Try.prog w = .ok (.value (.bool false)) w := fun lb cb => by
    rw [run_callFunc_extern Try.func116 (by kernel_rfl) (by kernel_rfl) (by kernel_rfl) (e := Extern.SlicesOverlaps.overlaps #[49, 49] #[4]) (by kernel_rfl),
      Lib.run_overlaps_apart w 49 4 70 Try.underlying49 5 (fun w => by kernel_rfl) ⟨vb, 0, none⟩ ⟨b, (i + m) * 5, none⟩ m vc lb cb hvb tA tB kA kB hsa hsb hkB hfa hfe]
    rfl
  have hdl : (cs.drop (i * 5)).length = (n - i) * 5 := by rw [List.length_drop, hcl]; omega
  have hw1 : IntKind.i64.wrap ((i : Int) + (m : Int)) = (i : Int) + (m : Int) := by rw [IntKind.wrap_i64]; omega
  have hb1 : (0 : Int) ≤ (i : Int) + (m : Int) := by omega
  have hin : i ≤ n := by omega
  have htn : ((i : Int) + (m : Int)).toNat = i + m := by omega
  have hb2 : ¬ (c = i + m) := by omega
  have hb3 : (i : Int) ≤ (n : Int) + (m : Int) := by omega
  have hb4 : ¬ (c = i) := by omega
  have hmin1 : Nat.min (n + m - i) (n + m - (i + m)) = n - i := by show min _ _ = _; omega
  have hmin2 : Nat.min m (n + m - i) = m := by show min _ _ = _; omega
  have hcp1 : ∀ ty dc sc, (Builtin.copy_ #[50, 50] ty #[.slice (some ⟨b, (i + m) * 5, none⟩) (n + m - (i + m)) dc, .slice (some ⟨b, i * 5, none⟩) (n + m - i) sc]).run Try.prog w.drew = .ok (goInt (Nat.min (n + m - i) (n + m - (i + m)) : Nat)) (w.drew.setCells b ((i + m) * 5) (cs.drop (i * 5))) := fun ty dc sc =>
    run_copy_wide w.drew _ _ ty 70 5 b ((i + m) * 5) (n + m - (i + m)) dc ⟨b, i * 5, none⟩ (n + m - i) sc (cs.drop (i * 5)) Try.underlying50 hsz (by rw [hdl, hmin1])
      (fun j v hj => by rw [Addr.add_lit]; exact hcs (i * 5 + j) v (by rwa [List.getElem?_drop] at hj))
      (fun j hj => hsp _ (by omega)) (fun j hj => hfz _) (fun v hv => h1c v (List.mem_of_mem_drop hv))
  obtain ⟨W1, hW1⟩ : ∃ W1, W1 = w.drew.setCells b ((i + m) * 5) (cs.drop (i * 5)) := ⟨_, rfl⟩
  have hsp1 : ∀ k, k < (n + m) * 5 → (W1.cell? ⟨b, k, none⟩).isSome = true := by rw [hW1]; exact some_setCells _ _ w.drew hsp
  have hcp2 : ∀ (W : World), (∀ x, W.cell? x = W1.cell? x) → (∀ x, W.frozen? x = W1.frozen? x) → ∀ ty dc, (Builtin.copy_ #[50, 49] ty #[.slice (some ⟨b, i * 5, none⟩) (n + m - i) dc, .slice (some ⟨vb, 0, none⟩) m vc]).run Try.prog W = .ok (goInt (Nat.min m (n + m - i) : Nat)) (W.setCells b (i * 5) vs) := fun W hWc hWf ty dc =>
    run_copy_wide W _ _ ty 70 5 b (i * 5) (n + m - i) dc ⟨vb, 0, none⟩ m vc vs Try.underlying50 hsz (by rw [hvl, hmin2])
      (fun j v hj => by
        rw [Addr.add_lit, hWc, hW1, World.cell?_setCells_out b _ _ _ _ (fun h _ => absurd h hvb), Nat.zero_add]
        exact hvs j v hj)
      (fun j hj => by rw [hWc]; exact hsp1 _ (by omega)) (fun j hj => by rw [hWf, hW1, World.frozen?_setCells]; exact hfz _) h1v
  rw [← hW1] at hcp1
  clear hmin1 hmin2 hdl hcs hsp hsp1 hvs h1c h1v
  go_enter Try.func101, Try.ntmps101
  go_wp2_with (simp only [hov])
  go_region_law (refine step_copy_runJ rfl _ _ 50 50 rfl _ _ (by simp [Act.eval, Act.put]) (by simp [Act.eval, Act.put]) (hcp1 _ _ _) ?_)
  go_wp2_with (at_builtin; refine wpList_copy_runJ _ rfl _ _ 50 49 rfl _ _ rfl rfl (hcp2 _ (fun _ => rfl) (fun _ => rfl) _ _) ?_)
  go_ret
  first | exact ⟨rfl, rfl⟩ | exact ⟨rfl, by rw [hW1]⟩
set_option maxHeartbeats 4000000 in
set_option maxRecDepth 100000 in
theorem ins_grow_H (b n c i vb m vc : Nat) (cs vs : List Value) (w : World) (hi : i < n) (hm : 0 < m) (hnc : n ≤ c) (hroom : c < n + m) (hbig : (n + m) * 24 ≤ 140737488355328)
    (hcl : cs.length = n * 5) (hvl : vs.length = m * 5)
    (hcs : ∀ j v, cs[j]? = some v → w.cell? ⟨b, j, none⟩ = some v)
    (hvs : ∀ j v, vs[j]? = some v → w.cell? ⟨vb, j, none⟩ = some v) (h1c : ∀ v ∈ cs, v.oneCell' = true) (h1v : ∀ v ∈ vs, v.oneCell' = true) :
    Calls Try.prog 101 #[.slice (some ⟨b, 0, none⟩) n c, .int .i64 i, .slice (some ⟨vb, 0, none⟩) m vc] w fun e w' =>
      e = .returned (.slice (some ⟨w.heap.size, 0, none⟩) (n + m) (grownCap w (n + m) c 70)) ∧
      w' = (((w.alloc (.cells ((cs.take (i * 5)).toArray ++ Builtin.zeroCells (Value.cells (.agg #[.int .u32 0, .int .u32 0, .int .u16 0, .int .u16 0, .int .i64 0])) (n + m - i) ++ Builtin.zeroCells (Value.cells (.agg #[.int .u32 0, .int .u32 0, .int .u16 0, .int .u16 0, .int .i64 0])) (grownCap w (n + m) c 70 - (n + m))) 70)).drew.setCells w.heap.size (i * 5) vs).drew).setCells w.heap.size ((i + m) * 5) (cs.drop (i * 5)) := by
  obtain ⟨i0, hi0, hz0, hzs, hzb⟩ := info_parts info_H
  have hz1 : ¬ ((m : Int) = 0) := by omega
  have hz2 : ¬ ((i : Int) = (n : Int)) := by omega
  have hz3 : (c : Int) < (n : Int) + (m : Int) := by omega
  have hsz : (Try.prog.info? 70).map (·.size) = some 5 := by rw [hi0]; simp [hzs]
  have hbw : b < w.heap.size := block_lt_of_cell (hcs 0 _ (List.getElem?_eq_getElem (by omega)))
  have hvw : vb < w.heap.size := block_lt_of_cell (hvs 0 _ (List.getElem?_eq_getElem (by omega)))
  have hkk : (n : Int) + (m : Int) - (i : Int) = ((n + m - i : Nat) : Int) := by omega
  have hik : i + (n + m - i) = n + m := by omega
  have hold : (Builtin.firstCells i0.size i (.slice (some ⟨b, 0, none⟩) i c)).run Try.prog w.drew = .ok (cs.take (i * 5)).toArray w.drew := by
    rw [hzs]
    exact run_firstCells_some w.drew 5 i ⟨b, 0, none⟩ i c (cs.take (i * 5)) (by rw [List.length_take]; omega) (fun j v hj => by
      rw [Addr.add_lit, Nat.zero_add]
      rw [List.getElem?_take] at hj
      split at hj
      · exact hcs j v hj
      · cases hj)
  have hrz : ∀ ty, (Builtin.append_ #[50, 3] ty #[.slice (some ⟨b, 0, none⟩) i c, .int .i64 ((n : Int) + (m : Int) - (i : Int))]).run Try.prog w =
      .ok (.slice (some ⟨w.heap.size, 0, none⟩) (n + m) (grownCap w (n + m) c 70)) (w.drew.alloc (.cells ((cs.take (i * 5)).toArray ++ Builtin.zeroCells (Value.cells (.agg #[.int .u32 0, .int .u32 0, .int .u16 0, .int .u16 0, .int .i64 0])) (n + m - i) ++ Builtin.zeroCells (Value.cells (.agg #[.int .u32 0, .int .u32 0, .int .u16 0, .int .u16 0, .int .i64 0])) (grownCap w (n + m) c 70 - (n + m))) 70)) := fun ty => by
    have h := Lib.run_append_grow_zeros w 50 3 ty 70 i0 _ .i64 .i64 Try.underlying50 Try.underlying3 hi0 hz0 (some ⟨b, 0, none⟩) i c (cs.take (i * 5)) hold (n + m - i) (by omega) (by omega) (by omega) (by omega) (by rw [hzb]; omega) (by rw [hzb, hik]; exact growslice_fits hroom hbig)
    rw [hik] at h
    rw [hkk]
    exact h
  obtain ⟨G, hG⟩ : ∃ G, G = grownCap w (n + m) c 70 := ⟨_, rfl⟩
  obtain ⟨ROW, hROW⟩ : ∃ ROW : Array Value, ROW = (cs.take (i * 5)).toArray ++ Builtin.zeroCells (Value.cells (.agg #[.int .u32 0, .int .u32 0, .int .u16 0, .int .u16 0, .int .i64 0])) (n + m - i) ++ Builtin.zeroCells (Value.cells (.agg #[.int .u32 0, .int .u32 0, .int .u16 0, .int .u16 0, .int .i64 0])) (G - (n + m)) := ⟨_, rfl⟩
  rw [← hG] at hrz ⊢
  rw [← hROW] at hrz ⊢
  have hRl : (n + m) * 5 ≤ ROW.size := by
    rw [hROW]
    simp [Builtin.zeroCells, Value.cells]
    omega
  obtain ⟨W1, hW1⟩ : ∃ W1, W1 = w.drew.alloc (.cells ROW 70) := ⟨_, rfl⟩
  rw [← hW1] at hrz
  have hN : ∀ j, j < (n + m) * 5 → (W1.cell? ⟨w.heap.size, j, none⟩).isSome = true := fun j hj => by
    rw [hW1, World.cell?_alloc_at (w := w.drew) ROW _ w.heap.size j rfl, Array.getElem?_eq_getElem (by omega)]; rfl
  have hNf : ∀ j, W1.frozen? ⟨w.heap.size, j, none⟩ = false := fun j => by rw [hW1]; exact World.frozen?_alloc_at (w := w.drew) ROW _ w.heap.size j rfl
  have hOb : ∀ j v, w.cell? ⟨b, j, none⟩ = some v → W1.cell? ⟨b, j, none⟩ = some v := fun j v h => by rw [hW1, World.cell?_alloc_past (w := w.drew) _ b j hbw]; exact h
  have hOv : ∀ j v, w.cell? ⟨vb, j, none⟩ = some v → W1.cell? ⟨vb, j, none⟩ = some v := fun j v h => by rw [hW1, World.cell?_alloc_past (w := w.drew) _ vb j hvw]; exact h
  have hdl : (cs.drop (i * 5)).length = (n - i) * 5 := by rw [List.length_drop, hcl]; omega
  have hmin1 : Nat.min (n - i) (n + m - (i + m)) = n - i := by show min _ _ = _; omega
  have hmin2 : Nat.min m (n + m - i) = m := by show min _ _ = _; omega
  have hcpA : ∀ (W : World), (∀ x, W.cell? x = W1.cell? x) → (∀ x, W.frozen? x = W1.frozen? x) → ∀ ty dc, (Builtin.copy_ #[50, 49] ty #[.slice (some ⟨w.heap.size, i * 5, none⟩) (n + m - i) dc, .slice (some ⟨vb, 0, none⟩) m vc]).run Try.prog W = .ok (goInt (Nat.min m (n + m - i) : Nat)) (W.setCells w.heap.size (i * 5) vs) := fun W hWc hWf ty dc =>
    run_copy_wide W _ _ ty 70 5 w.heap.size (i * 5) (n + m - i) dc ⟨vb, 0, none⟩ m vc vs Try.underlying50 hsz (by rw [hvl, hmin2])
      (fun j v hj => by rw [Addr.add_lit, hWc, Nat.zero_add]; exact hOv _ v (hvs j v hj))
      (fun j hj => by rw [hWc]; exact hN _ (by omega)) (fun j hj => by rw [hWf]; exact hNf _) h1v
  have hGn : n + m ≤ G := by rw [hG]; exact grownCap_ge w _ _ _
  have hG63 : G ≤ 9223372036854775807 := by
    have := grownCap_le_maxLen w (n + m) c 70 (by unfold maxLen; omega)
    rw [← hG] at this
    unfold maxLen at this
    omega
  have hGi : ¬ (G = i) := by omega
  have hGim : ¬ (G = i + m) := by omega
  have hci : ¬ (c = i) := by omega
  have hbN : b ≠ w.heap.size := by omega
  have hcpB : ∀ (W : World), (∀ x, W.cell? x = (W1.setCells w.heap.size (i * 5) vs).cell? x) → (∀ x, W.frozen? x = (W1.setCells w.heap.size (i * 5) vs).frozen? x) → ∀ ty dc sc, (Builtin.copy_ #[50, 50] ty #[.slice (some ⟨w.heap.size, (i + m) * 5, none⟩) (n + m - (i + m)) dc, .slice (some ⟨b, i * 5, none⟩) (n - i) sc]).run Try.prog W = .ok (goInt (Nat.min (n - i) (n + m - (i + m)) : Nat)) (W.setCells w.heap.size ((i + m) * 5) (cs.drop (i * 5))) := fun W hWc hWf ty dc sc =>
    run_copy_wide W _ _ ty 70 5 w.heap.size ((i + m) * 5) (n + m - (i + m)) dc ⟨b, i * 5, none⟩ (n - i) sc (cs.drop (i * 5)) Try.underlying50 hsz (by rw [hdl, hmin1])
      (fun j v hj => by
        rw [Addr.add_lit, hWc, World.cell?_setCells_out _ _ _ _ _ (fun h _ => absurd h hbN)]
        exact hOb _ v (hcs (i * 5 + j) v (by rwa [List.getElem?_drop] at hj)))
      (fun j hj => by rw [hWc]; exact some_setCells _ _ _ hN _ (by omega))
      (fun j hj => by rw [hWf, World.frozen?_setCells]; exact hNf _) (fun v hv => h1c v (List.mem_of_mem_drop hv))
  subst hW1
  have hE1 : ∀ x, ((w.alloc (.cells ROW 70)).drew).cell? x = (w.drew.alloc (.cells ROW 70)).cell? x := fun x => rfl
  have hE2 : ∀ x, ((w.alloc (.cells ROW 70)).drew).frozen? x = (w.drew.alloc (.cells ROW 70)).frozen? x := fun x => rfl
  have hF1 : ∀ x, (((w.alloc (.cells ROW 70)).drew.setCells w.heap.size (i * 5) vs).drew).cell? x = ((w.drew.alloc (.cells ROW 70)).setCells w.heap.size (i * 5) vs).cell? x := fun x => rfl
  have hF2 : ∀ x, (((w.alloc (.cells ROW 70)).drew.setCells w.heap.size (i * 5) vs).drew).frozen? x = ((w.drew.alloc (.cells ROW 70)).setCells w.heap.size (i * 5) vs).frozen? x := fun x => rfl
  have hw1 : IntKind.i64.wrap ((i : Int) + (m : Int)) = (i : Int) + (m : Int) := by rw [IntKind.wrap_i64]; omega
  have hb1 : (0 : Int) ≤ (i : Int) + (m : Int) := by omega
  have hin : i ≤ n := by omega
  have htn : ((i : Int) + (m : Int)).toNat = i + m := by omega
  have hb3 : (i : Int) ≤ (n : Int) := by omega
  clear hkk hik hold hROW hG hRl hmin1 hmin2 hcs hvs h1c h1v
  go_enter Try.func101, Try.ntmps101
  go_wp2_with (first
    | (at_builtin; refine Lib.wpList_append_run _ rfl _ _ _ _ rfl _ _ rfl rfl _ _ (hrz _) ?_)
    | (at_builtin; refine wpList_copy_runJ _ rfl _ _ 50 49 rfl _ _ rfl rfl (hcpA _ hE1 hE2 _ _) ?_)
    | (at_builtin; refine wpList_copy_runJ _ rfl _ _ 50 50 rfl _ _ rfl rfl (hcpB _ (fun _ => rfl) (fun _ => rfl) _ _ _) ?_))
  go_region_law (refine step_copy_runJ rfl _ _ 50 50 rfl (.slice (some ⟨w.heap.size, (i + m) * 5, none⟩) (n + m - (i + m)) (G - (i + m))) (.slice (some ⟨b, i * 5, none⟩) (n - i) (c - i)) (by simp [Act.eval, Act.put]) (by simp [Act.eval, Act.put]) (hcpB _ hF1 hF2 70 (G - (i + m)) (c - i)) ?_)
  go_wp2
  go_ret
  exact ⟨rfl, rfl⟩

set_option maxRecDepth 100000 in
set_option maxHeartbeats 4000000 in
theorem ins_end_H (base : Nat) (w : World) (v : Value) (xs : List Ho) (x : Ho) (vb : Nat) (hl : xs.length ≤ 1000) (hbs : base ≤ w.heap.size) (ho : w.ownsRow base 70 5 v xs.length (flH xs))
    (hx : w.heap[vb]? = some (.cells #[.int .u32 x.t.a, .int .u32 x.t.b, .int .u16 x.t.c, .int .u16 x.t.d, .int .i64 x.n] 70 (0, 0))) :
    Calls Try.prog 101 #[v, .int .i64 xs.length, .slice (some ⟨vb, 0, none⟩) 1 1] w fun e w' => ∃ v', e = .returned v' ∧ w'.ownsRow base 70 5 v' (xs.length + 1) (flH (insAt xs xs.length x)) ∧ Mv (fun b => base ≤ b) w w' := by
  obtain ⟨i0, hi, hz0, hz1, hz2⟩ := info_parts info_H
  have hnews : ∀ j u, (x.cl)[j]? = some u → w.cell? (Addr.add ⟨vb, 0, none⟩ j) = some u := by
    intro j u hu
    rw [Addr.add_lit, Nat.zero_add, show w.cell? ⟨vb, j, none⟩ = (x.cl.toArray)[j]? by unfold World.cell?; rw [hx]; rfl]
    simpa using hu
  have HN := Lib.hid hnews
  have HO := Lib.hid ho
  have hone : ∀ u ∈ x.cl, u.oneCell' = true := by
    have := flH_one [x]
    unfold flH at this
    simpa using this
  have hfin : flH xs ++ x.cl = flH (insAt xs xs.length x) := by
    rw [flH_ins xs _ x (Nat.le_refl _), ← flH_len xs, List.take_length, List.drop_length, List.append_nil]
  have H1 := Lib.hid hone
  have HF := Lib.hid hfin
  have hob : ∀ r, v.ownBlock = some r → base ≤ r := fun r h => (ho.lt r h).1
  clear hone hfin hnews hx
  obtain ⟨rfl, h0⟩ | ⟨g, cap, rfl, hc⟩ : (v = .slice none 0 0 ∧ xs.length = 0) ∨ ∃ g cap, v = .slice (some ⟨g, 0, none⟩) xs.length cap ∧ xs.length ≤ cap := by
    rcases ho.2 with ⟨rfl, h0⟩ | ⟨g, cap, cur, rfl, hg, hgb, h1, h2, h3, h4⟩
    · exact .inl ⟨rfl, h0⟩
    · exact .inr ⟨g, cap, rfl, h1⟩
  · clear ho
    rw [h0] at HO ⊢
    have H0 := Lib.hid h0
    clear h0
    go_enter Try.func101, Try.ntmps101
    go_wp2_with (at_builtin; refine wpList_append_two _ rfl _ _ 50 49 Try.underlying49 rfl base 70 i0 (.agg #[.int .u32 0, .int .u32 0, .int .u16 0, .int .u16 0, .int .i64 0]) 5 24 Try.underlying50 hi hz0 hz1 hz2 rfl (by decide) _ _ _ rfl HO.out ⟨vb, 0, none⟩ 1 1 x.cl rfl rfl HN.out H1.out (by unfold maxLen; omega) (by omega) hbs ?_; intro v' w2 hown' hgrow _; have HOW := Lib.hid hown'; have HG := Lib.hid hgrow; clear hown' hgrow)
    go_ret
    refine ⟨v', rfl, ?_, Mv.of_grown HG.out fun r e => .inl (hob r e)⟩
    rw [H0.out] at HF; rw [← HF.out]; exact HOW.out
  · clear ho
    go_enter Try.func101, Try.ntmps101
    go_wp2_with (at_builtin; refine wpList_append_two _ rfl _ _ 50 49 Try.underlying49 rfl base 70 i0 (.agg #[.int .u32 0, .int .u32 0, .int .u16 0, .int .u16 0, .int .i64 0]) 5 24 Try.underlying50 hi hz0 hz1 hz2 rfl (by decide) _ _ _ rfl HO.out ⟨vb, 0, none⟩ 1 1 x.cl rfl rfl HN.out H1.out (by unfold maxLen; omega) (by omega) hbs ?_; intro v' w2 hown' hgrow _; have HOW := Lib.hid hown'; have HG := Lib.hid hgrow; clear hown' hgrow)
    all_goals go_ret
    all_goals (refine ⟨v', rfl, ?_, Mv.of_grown HG.out fun r e => .inl (hob r e)⟩; rw [← HF.out]; exact HOW.out)

set_option maxHeartbeats 1000000 in
theorem ins_H (base : Nat) (w : World) (v : Value) (xs : List Ho) (i : Nat) (x : Ho) (vb : Nat) (hi : i ≤ xs.length) (hl : xs.length ≤ 1000) (hbs : base ≤ w.heap.size) (ho : w.ownsRow base 70 5 v xs.length (flH xs))
    (hx : w.heap[vb]? = some (.cells #[.int .u32 x.t.a, .int .u32 x.t.b, .int .u16 x.t.c, .int .u16 x.t.d, .int .i64 x.n] 70 (0, 0))) (hvb : v.ownBlock ≠ some vb) :
    Calls Try.prog 101 #[v, .int .i64 i, .slice (some ⟨vb, 0, none⟩) 1 1] w fun e w' => ∃ v', e = .returned v' ∧ w'.ownsRow base 70 5 v' (insAt xs i x).length (flH (insAt xs i x)) ∧ Mv (fun b => base ≤ b) w w' := by
  rw [insAt_len]
  by_cases hn : i = xs.length
  · subst hn
    exact ins_end_H base w v xs x vb hl hbs ho hx
  obtain ⟨g, cap, cur, rfl, hg, hgb, hc1, hcm, hcs, hct⟩ : ∃ g cap cur, v = .slice (some ⟨g, 0, none⟩) xs.length cap ∧ base ≤ g ∧ w.heap[g]? = some (.cells cur 70 (0, 0)) ∧ xs.length ≤ cap ∧ cap ≤ maxLen ∧ cur.size = cap * 5 ∧ cur.toList.take (xs.length * 5) = flH xs := by
    rcases ho.2 with ⟨_, h0⟩ | h
    · omega
    · obtain ⟨g, cap, cur, h1, h2, h3, h4, h5, h6, h7⟩ := h; exact ⟨g, cap, cur, h1, h2, h3, h4, h5, h6, h7⟩
  have hne : vb ≠ g := fun e => hvb (by rw [e]; rfl)
  have hrow : rowD w g = cur := by unfold rowD; rw [hgb]
  have hfz : ∀ j, w.frozen? ⟨g, j, none⟩ = false := fun j => frozen_of_frz (by unfold frzD; rw [hgb]) j
  have hfv : ∀ j, w.frozen? ⟨vb, j, none⟩ = false := fun j => frozen_of_frz (by unfold frzD; rw [hx]) j
  have hcell : ∀ j u, (flH xs)[j]? = some u → w.cell? ⟨g, j, none⟩ = some u := by
    intro j u hu
    rw [cell_rowD, hrow]
    rw [← hct, List.getElem?_take] at hu
    split at hu
    · rw [Array.getElem?_toList] at hu; exact hu
    · cases hu
  have hnews : ∀ j u, (x.cl)[j]? = some u → w.cell? ⟨vb, j, none⟩ = some u := by
    intro j u hu
    rw [show w.cell? ⟨vb, j, none⟩ = (x.cl.toArray)[j]? by unfold World.cell?; rw [hx]; rfl]
    simpa using hu
  have hone : ∀ u ∈ x.cl, u.oneCell' = true := by
    have := flH_one [x]
    unfold flH at this
    simpa using this
  have hlx : xs.length * 5 = (flH xs).length := (flH_len xs).symm
  have hcl : cur.toList.length = cap * 5 := by simpa using hcs
  by_cases hr : xs.length + 1 ≤ cap
  · refine (ins_shift_H g xs.length cap i vb 1 1 (flH xs) x.cl w (by omega) (by omega) hr hcm hne (flH_len xs) rfl hcell (fun j hj => by rw [cell_rowD, hrow, Array.getElem?_eq_getElem (by omega)]; rfl) hfz hnews (flH_one xs) hone
      70 70 5 cur.size (by unfold World.shape?; rw [hx]; rfl) (by unfold World.shape?; rw [hgb]) (by omega) (hfv _) (hfv _)).mono ?_
    rintro e w' ⟨rfl, rfl⟩
    obtain ⟨cur1, h1, e1⟩ := cells_setCells ((flH xs).drop (i * 5)) ((i + 1) * 5) w.drew cur hgb
    obtain ⟨cur2, h2, e2⟩ := cells_setCells x.cl (i * 5) _ cur1 h1
    refine ⟨_, rfl, own_mk hg h2 hr hcm ?_ ?_, Mv.sc hg _ _ _ _ (Mv.sc hg _ _ _ _ (Mv.dr (Mv.refl _ _)))⟩
    · rw [e2, setL_len, e1, setL_len]; exact hcl
    · rw [e2, e1, flH_ins xs i x hi]
      exact setL_in _ _ _ i xs.length 5 hi hct (flH_len xs) rfl (by omega)
  · have hcap : cap = xs.length := by omega
    refine (ins_grow_H g xs.length cap i vb 1 1 (flH xs) x.cl w (by omega) (by omega) hc1 (by omega) (by omega) (flH_len xs) rfl hcell hnews (flH_one xs) hone).mono ?_
    rintro e w' ⟨rfl, rfl⟩
    have hGn : xs.length + 1 ≤ grownCap w (xs.length + 1) cap 70 := grownCap_ge w _ _ _
    have hGm : grownCap w (xs.length + 1) cap 70 ≤ maxLen := grownCap_le_maxLen w (xs.length + 1) cap 70 (by unfold maxLen; omega)
    generalize grownCap w (xs.length + 1) cap 70 = G at *
    obtain ⟨ROW, hROW⟩ : ∃ ROW : Array Value, ROW = ((flH xs).take (i * 5)).toArray ++ Builtin.zeroCells (Value.cells (.agg #[.int .u32 0, .int .u32 0, .int .u16 0, .int .u16 0, .int .i64 0])) (xs.length + 1 - i) ++ Builtin.zeroCells (Value.cells (.agg #[.int .u32 0, .int .u32 0, .int .u16 0, .int .u16 0, .int .i64 0])) (G - (xs.length + 1)) := ⟨_, rfl⟩
    rw [← hROW]
    have hRs : ROW.toList.length = G * 5 := by
      rw [hROW]
      simp [Builtin.zeroCells, Value.cells, flH_len]
      omega
    obtain ⟨R, hR⟩ : ∃ R : List Value, R = (Builtin.zeroCells (Value.cells (.agg #[.int .u32 0, .int .u32 0, .int .u16 0, .int .u16 0, .int .i64 0])) (xs.length + 1 - i)).toList ++ (Builtin.zeroCells (Value.cells (.agg #[.int .u32 0, .int .u32 0, .int .u16 0, .int .u16 0, .int .i64 0])) (G - (xs.length + 1))).toList := ⟨_, rfl⟩
    have hcut : ROW.toList = (flH xs).take (i * 5) ++ R := by rw [hROW, hR, Array.toList_append, Array.toList_append, List.append_assoc]
    clear hROW hR
    obtain ⟨cur1, h1, e1⟩ := cells_setCells x.cl (i * 5) ((w.alloc (.cells ROW 70)).drew) ROW (World.alloc_heap_new _ _)
    obtain ⟨cur2, h2, e2⟩ := cells_setCells ((flH xs).drop (i * 5)) ((i + 1) * 5) (((w.alloc (.cells ROW 70)).drew.setCells w.heap.size (i * 5) x.cl).drew) cur1 (by rw [heap_drew]; exact h1)
    refine ⟨_, rfl, own_mk hbs h2 hGn hGm ?_ ?_, Mv.sc hbs _ _ _ _ (Mv.dr (Mv.sc hbs _ _ _ _ (Mv.dr (Mv.al _ (Mv.refl _ _)))))⟩
    · rw [e2, setL_len, e1, setL_len]; exact hRs
    · rw [e2, e1, flH_ins xs i x hi]
      exact setL_new _ _ _ R i xs.length 5 hi hcut (flH_len xs) rfl (by rw [hRs]; omega)

end Go.Proofs.Ytookffaojlkfaaa

/- Ideal: agents, less, find, Owner; and the document's. -/
namespace Go.Proofs.Ytookffaojlkfaaa
open Go.RowKit

def agB (n : Int) : Bool := decide (0 ≤ n) && decide (n < 6)

theorem agent_any (n : Int) (w : World) : Calls Try.prog 72 #[.int .i64 n] w fun e w' => e = .returned (.bool (agB n)) ∧ w = w' := by
  go_enter Try.func72, Try.ntmps72
  go_wp2
  all_goals go_ret
  all_goals refine ⟨ret_bool ?_, rfl⟩
  all_goals first | (simp [agB, *]; done) | grind [agB]

theorem ragent_any (n : Int) (w : World) : Calls Try.prog 74 #[.int .i64 n] w fun e w' => e = .returned (.bool (agB n)) ∧ w = w' := by
  go_enter Try.func74, Try.ntmps74
  go_wp2
  all_goals go_ret
  all_goals refine ⟨ret_bool ?_, rfl⟩
  all_goals first | (simp [agB, *]; done) | grind [agB]

def ltB (s t : Tu) : Bool := decide (cmpT s t < 0)
set_option maxHeartbeats 1000000 in
theorem less_any (s t : Tu) (w : World) : Calls Try.prog 82 #[tu s.a s.b s.c s.d, tu t.a t.b t.c t.d] w fun e w' => e = .returned (.bool (ltB s t)) ∧ Ext w w' := by
  go_enter Try.func82, Try.ntmps82
  go_wp2_with (go_at_call 63; (with_reducible refine (cmp_any s t _).mono ?_); rintro e w' ⟨rfl, hb⟩)
  go_ret
  exact ⟨rfl, (Ext.al (Ext.al (Ext.rf _) _) _).tr hb⟩
set_option maxHeartbeats 1000000 in
theorem rless_any (s t : Tu) (hs : TuR s) (ht : TuR t) (w : World) : Calls Try.prog 49 #[tu s.a s.b s.c s.d, tu t.a t.b t.c t.d] w fun e w' => e = .returned (.bool (ltB s t)) ∧ Ext w w' := by
  have HS := Lib.hid hs
  have HT := Lib.hid ht
  clear hs ht
  go_enter Try.func49, Try.ntmps49
  go_wp2_with (go_at_call 64; (with_reducible refine (rcmp_any s t HS.out HT.out _).mono ?_); rintro e w' ⟨rfl, hb⟩)
  go_ret
  exact ⟨rfl, (Ext.al (Ext.al (Ext.rf _) _) _).tr hb⟩
def eqH (t : Tu) (x : Ho) : Bool := eqT x.t t
set_option maxHeartbeats 1000000 in
theorem findh1_any (x : Ho) (t : Tu) (b : Nat) (w : World) (ht : TuAt w b t) :
    Calls Try.prog 107 #[.agg #[.int .u32 x.t.a, .int .u32 x.t.b, .int .u16 x.t.c, .int .u16 x.t.d, .int .i64 x.n], .pointer (some ⟨b, 0, none⟩)] w fun e w' => e = .returned (.bool (eqH t x)) ∧ Ext w w' := by
  obtain ⟨c0, c1, c2, c3⟩ := ht.cells
  have lb : Lt b w := ht.2
  clear ht
  go_enter Try.func107, Try.ntmps107
  go_upto_region 1 with (fail)
  (first | (refine wp_region_later (by kernel_rfl) (by kernel_rfl) ?_; (repeat (go_big_quiet_step (fail))); refine wpQuiet_nil ?_; intro d; have hd := later_ext d; go_wp2; go_ret; exact ⟨rfl, (Ext.al (Ext.rf _) _).tr hd⟩) | (go_wp2; go_ret; exact ⟨rfl, Ext.al (Ext.rf _) _⟩))
theorem findh1_cl (x : Ho) (t : Tu) (b : Nat) (w : World) (ht : TuAt w b t) :
    Calls Try.prog 107 (#[.agg #[.int .u32 x.t.a, .int .u32 x.t.b, .int .u16 x.t.c, .int .u16 x.t.d, .int .i64 x.n]] ++ #[.pointer (some ⟨b, 0, none⟩)]) w fun e w' => e = .returned (.bool (eqH t x)) ∧ Ext w w' := by
  rw [show (#[Value.agg #[.int .u32 x.t.a, .int .u32 x.t.b, .int .u16 x.t.c, .int .u16 x.t.d, .int .i64 x.n]] ++ #[Value.pointer (some ⟨b, 0, none⟩)] : Array Value) = #[.agg #[.int .u32 x.t.a, .int .u32 x.t.b, .int .u16 x.t.c, .int .u16 x.t.d, .int .i64 x.n], .pointer (some ⟨b, 0, none⟩)] from rfl]
  exact findh1_any x t b w ht
theorem enters_findh1 : ∀ args w, (callFunc 107 args).run Try.prog w = .ok (.enter 107 args) w := enters_of Try.func107 (by kernel_rfl) rfl
set_option maxRecDepth 20000 in
set_option maxHeartbeats 2000000 in
theorem findh_any (t : Tu) (p : Option Addr) (xs : List Ho) (c : Nat) (w : World) (hs : SlH w p xs) (hl : xs.length ≤ 1000) :
    Calls Try.prog 78 #[.slice p xs.length c, tu t.a t.b t.c t.d] w fun e w' => e = .returned (.int .i64 (idx (eqH t) xs)) ∧ Ext w w' := by
  go_enter Try.func78, Try.ntmps78
  go_upto_region 1 with (fail)
  obtain ⟨W0, hW⟩ : ∃ W0, w.alloc (.cells #[.int .u32 t.a, .int .u32 t.b, .int .u16 t.c, .int .u16 t.d] 26) = W0 := ⟨_, rfl⟩
  have e0 : Ext w W0 := by rw [← hW]; exact Ext.al (Ext.rf _) _
  have s0 := hs.ext e0
  have ht : TuAt W0 w.heap.size t := by rw [← hW]; unfold TuAt; simp [go_sem, Lt]
  rw [hW]
  clear hW hs
  generalize w.heap.size = B at *
  go_wp2_with (go_at_call 106; go_must (with_reducible refine (indexFunc_H 107 #[.pointer (some ⟨B, 0, none⟩)] enters_findh1 (eqH t) p xs c _ s0 hl (fun x W _ hE => findh1_cl x t B W (ht.ext hE))).mono ?_); rintro e W1 ⟨rfl, h1⟩)
  go_ret
  exact ⟨rfl, e0.tr h1⟩

end Go.Proofs.Ytookffaojlkfaaa

/- Ideal: Right; and the document's. -/
namespace Go.Proofs.Ytookffaojlkfaaa
open Go.RowKit

def wrongH (x : Ho) : Bool := !agB x.n
def lessH (p : Ho × Ho) : Bool := ltB p.1.t p.2.t
def rightH (xs : List Ho) : Bool := !xs.any wrongH && (pairsH xs).all lessH
set_option maxHeartbeats 1000000 in
theorem wrongh_any (x : Ho) (w : World) :
    Calls Try.prog 80 #[.agg #[.int .u32 x.t.a, .int .u32 x.t.b, .int .u16 x.t.c, .int .u16 x.t.d, .int .i64 x.n]] w fun e w' => e = .returned (.bool (wrongH x)) ∧ Ext w w' := by
  go_enter Try.func80, Try.ntmps80
  go_wp2_with (go_at_call 72; (with_reducible refine (agent_any x.n _).mono ?_); rintro e w' ⟨rfl, rfl⟩)
  go_ret
  exact ⟨rfl, Ext.al (Ext.rf _) _⟩
theorem wrongh_cl (x : Ho) (w : World) :
    Calls Try.prog 80 (#[.agg #[.int .u32 x.t.a, .int .u32 x.t.b, .int .u16 x.t.c, .int .u16 x.t.d, .int .i64 x.n]] ++ #[]) w fun e w' => e = .returned (.bool (wrongH x)) ∧ Ext w w' := by
  rw [show (#[Value.agg #[.int .u32 x.t.a, .int .u32 x.t.b, .int .u16 x.t.c, .int .u16 x.t.d, .int .i64 x.n]] ++ #[] : Array Value) = #[.agg #[.int .u32 x.t.a, .int .u32 x.t.b, .int .u16 x.t.c, .int .u16 x.t.d, .int .i64 x.n]] from rfl]
  exact wrongh_any x w
theorem enters_wrongh : ∀ args w, (callFunc 80 args).run Try.prog w = .ok (.enter 80 args) w := enters_of Try.func80 (by kernel_rfl) rfl
theorem enters_pairsh : ∀ args w, (callFunc 108 args).run Try.prog w = .ok (.enter 108 args) w := enters_of Try.func108 (by kernel_rfl) rfl
set_option maxRecDepth 100000 in
set_option maxHeartbeats 4000000 in
theorem righth_any (p : Option Addr) (xs : List Ho) (c : Nat) (w : World) (hs : SlH w p xs) (hl : xs.length ≤ 1000) :
    Calls Try.prog 43 #[.slice p xs.length c] w fun e w' => e = .returned (.bool (rightH xs)) ∧ Ext w w' := by
  have HCF := Lib.hid (fun W (hE : Ext w W) => containsFunc_H 80 #[] enters_wrongh wrongH p xs c W (hs.ext hE) hl (fun x W' _ _ => wrongh_cl x W'))
  refine (callsIn_wide (n := 5)).1 ?_
  refine callsIn_of_wp_marks Try.func43 rfl trivial ?_ rfl
  simp only [Try.ntmps43, List.size_toArray, List.length_cons, List.length_nil, Nat.reduceAdd, Nat.reduceSub, Array.replicate_succ, Array.replicate_zero, List.push_toArray, List.append_toArray, List.nil_append, List.cons_append]
  refine wpIn_wide.2 ?_
  go_wp2
  refine wp_scope_fwd 0 rfl ?_
  cases h2 : xs.any wrongH
  · have HRC := Lib.hid (show rightH xs = (pairsH xs).all lessH by unfold rightH; rw [h2]; rfl)
    rw [h2] at HCF
    clear h2
    go_wp2_with (first | (go_at_call 79; (with_reducible refine (HCF.out _ (Ext.rf _)).mono ?_); rintro e w1 ⟨rfl, g1⟩) | (go_at_call 81; (with_reducible refine (pairs_H_any _ _ _ _).mono ?_); rintro e w2 ⟨rfl, rfl⟩))
    obtain ⟨W2, hW⟩ : ∃ W2, w1.alloc (.cells #[.slice p xs.length c] 50) = W2 := ⟨_, rfl⟩
    have g2 : Ext w1 W2 := by rw [← hW]; exact Ext.al (Ext.rf _) _
    have hcl : W2.cell? ⟨w1.heap.size, 0, none⟩ = some (.slice p xs.length c) := by rw [← hW, cell_rowD, rowD_new]; rfl
    have hlb : Lt w1.heap.size W2 := by rw [← hW]; simp [Lt]
    have hs1 := hs.ext g1
    rw [hW]
    clear hW HCF
    refine (wpIn_wide (n := 5)).1 ?_
    refine wpIn_range rfl (by omega) (gf := 108) (lb := #[.pointer (some ⟨w1.heap.size, 0, none⟩)]) rfl trivial enters_pairsh
      (pairs_H_iter _ xs p c w1 W2 w1.heap.size (fun _ => False) g2 hs1 hl hcl hlb (fun _ h => h.elim))
      (fun k h => h.elim) (fun k h => h.elim) (fun _ => rfl)
      (fun i _ => ∀ j, j < i → ∀ h : j < (pairsH xs).length, lessH (pairsH xs)[j] = true) (fun cc _ => cc = .goto 0 ∧ (pairsH xs).all lessH = false)
      (fun _ _ _ h _ => h) (fun _ _ _ h _ => h) (fun j hj => by omega)
      (fun x a' W => ∃ Bx By, W2.heap.size + 2 ≤ Bx ∧ Bx < W.heap.size ∧ W2.heap.size + 2 ≤ By ∧ By < W.heap.size ∧ rowD W Bx = #[.int .u32 x.1.t.a, .int .u32 x.1.t.b, .int .u16 x.1.t.c, .int .u16 x.1.t.d, .int .i64 x.1.n] ∧ rowD W By = #[.int .u32 x.2.t.a, .int .u32 x.2.t.b, .int .u16 x.2.t.c, .int .u16 x.2.t.d, .int .i64 x.2.n] ∧ a' = { tmps := #[.slice p xs.length c, undef, .bool false, .pointer (some ⟨Bx, 0, none⟩), .pointer (some ⟨By, 0, none⟩), .slice p xs.length c, .bool false, .slice p xs.length c, .func (.func 108) #[] #[.pointer (some ⟨w1.heap.size, 0, none⟩)], .agg #[.int .u32 x.1.t.a, .int .u32 x.1.t.b, .int .u16 x.1.t.c, .int .u16 x.1.t.d, .int .i64 x.1.n], .agg #[.int .u32 x.2.t.a, .int .u32 x.2.t.b, .int .u16 x.2.t.c, .int .u16 x.2.t.d, .int .i64 x.2.n], undef, undef, undef, undef, undef, undef], defers := [] })
      (fun x a' A B h hm => by
        obtain ⟨Bx, By, q1, q2, q3, q4, q5, q6, q7⟩ := h
        exact ⟨Bx, By, q1, Nat.lt_of_lt_of_le q2 hm.size, q3, Nat.lt_of_lt_of_le q4 hm.size, by rw [rowD_same (hm.same Bx q2 (by omega))]; exact q5, by rw [rowD_same (hm.same By q4 (by omega))]; exact q6, q7⟩)
      ?assign ?body ?done ?stop
    case assign =>
      intro y i x W K hsz hv hI hx hK
      gi_wp2
      repeat (rw [Oper.semAt_some _ _ _ (by intro c h; cases h)]; go_simp; gi_wp2)
      refine hK _ _ ?_ hI ⟨W.heap.size, W.heap.size + 1, hsz, ?_, by omega, ?_, ?_, ?_, rfl⟩
      · exact Mv.al _ (Mv.al _ (Mv.refl _ _))
      · simp; omega
      · simp
      · simp [go_sem]
      · simp [go_sem]
    case body =>
      rintro y i x a' W hyl ⟨rr, hr⟩ hsz hv hI hx ⟨Bx, By, q1, q2, q3, q4, q5, q6, rfl⟩
      have hil : i < (pairsH xs).length := (List.getElem?_eq_some_iff.1 hx).1
      have hxi : (pairsH xs)[i] = x := (List.getElem?_eq_some_iff.1 hx).2
      have c0 : W.cell? ⟨Bx, 0, none⟩ = some (.int .u32 x.1.t.a) := by rw [cell_rowD, q5]; rfl
      have c1 : W.cell? ⟨Bx, 1, none⟩ = some (.int .u32 x.1.t.b) := by rw [cell_rowD, q5]; rfl
      have c2 : W.cell? ⟨Bx, 2, none⟩ = some (.int .u16 x.1.t.c) := by rw [cell_rowD, q5]; rfl
      have c3 : W.cell? ⟨Bx, 3, none⟩ = some (.int .u16 x.1.t.d) := by rw [cell_rowD, q5]; rfl
      have d0 : W.cell? ⟨By, 0, none⟩ = some (.int .u32 x.2.t.a) := by rw [cell_rowD, q6]; rfl
      have d1 : W.cell? ⟨By, 1, none⟩ = some (.int .u32 x.2.t.b) := by rw [cell_rowD, q6]; rfl
      have d2 : W.cell? ⟨By, 2, none⟩ = some (.int .u16 x.2.t.c) := by rw [cell_rowD, q6]; rfl
      have d3 : W.cell? ⟨By, 3, none⟩ = some (.int .u16 x.2.t.d) := by rw [cell_rowD, q6]; rfl
      have HI := Lib.hid hI
      have HXI := Lib.hid hxi
      clear hI hxi hx hr q5 q6 hv
      cases hq : ltB x.1.t x.2.t
      · have HLS := Lib.hid (show lessH x = false from hq)
        gi_wp2
        repeat (rw [Oper.semAt_some _ _ _ (by intro c h; cases h)]; go_simp; gi_wp2)
        refine ⟨trivial, CallsIn.mono (CallsIn.inRound y (callsIn_wide.2 (less_any x.1.t x.2.t _))) ?_⟩
        rintro e w6 ⟨rfl, hb⟩
        rw [hq]
        gi_wp2
        repeat (rw [Oper.semAt_some _ _ _ (by intro c h; cases h)]; go_simp; gi_wp2)
        refine wpIn_goto ?_
        exact ⟨Mv.of_ext hb, rfl, List.all_eq_false.2 ⟨x, by rw [← HXI.out]; exact List.getElem_mem hil, by rw [HLS.out]; decide⟩⟩
      · have HLS := Lib.hid (show lessH x = true from hq)
        gi_wp2
        repeat (rw [Oper.semAt_some _ _ _ (by intro c h; cases h)]; go_simp; gi_wp2)
        refine ⟨trivial, CallsIn.mono (CallsIn.inRound y (callsIn_wide.2 (less_any x.1.t x.2.t _))) ?_⟩
        rintro e w6 ⟨rfl, hb⟩
        rw [hq]
        gi_wp2
        repeat (rw [Oper.semAt_some _ _ _ (by intro c h; cases h)]; go_simp; gi_wp2)
        exact ⟨(Mv.of_ext hb), fun j hj hjl => by
          rcases Nat.lt_or_ge j i with h | h
          · exact HI.out j h hjl
          · obtain rfl : j = i := by omega
            rw [HXI.out]; exact HLS.out⟩
    case done =>
      rintro W hI hv hK
      have HRT := Lib.hid (show rightH xs = true by rw [HRC.out]; exact List.all_eq_true.2 fun z hz => by obtain ⟨j, hj, rfl⟩ := List.mem_iff_getElem.1 hz; exact hI j hj hj)
      clear hI
      go_wp2
      simp only [Exit.jump]
      refine ⟨by simp, .inl ⟨_, _, rfl, run_takeDeferred hK, ?_⟩⟩
      refine ⟨_, results_tmp rfl _ _ _, by rw [HRT.out]; rfl, ?_⟩
      have hE2 : Ext w W := Mv.ext_of (g1.tr g2) hv (fun k h => by rcases h with h | h <;> exact h.elim)
      exact Mv.ext_of hE2 (Mv.put (C := fun k => k = W2.heap.size) _ _ _ rfl) (fun k h => by have := g1.size; have := g2.size; omega)
    case stop =>
      rintro cc W ⟨rfl, hn⟩ hv hK
      have HRF := Lib.hid (show rightH xs = false by rw [HRC.out]; exact hn)
      clear hn
      refine wpIn_goto ?_
      simp only [Exit.inBlock, Exit.then, Exit.jump]
      refine ⟨rfl, ?_⟩
      go_wp2
      rw [Exit.noGoto_ret]
      refine ⟨by simp, .inl ⟨_, _, rfl, run_takeDeferred hK, ?_⟩⟩
      refine ⟨_, results_tmp rfl _ _ _, by rw [HRF.out]; rfl, ?_⟩
      have hE2 : Ext w W := Mv.ext_of (g1.tr g2) hv (fun k h => by rcases h with h | h <;> exact h.elim)
      exact Mv.ext_of hE2 (Mv.put (C := fun k => k = W2.heap.size) _ _ _ rfl) (fun k h => by have := g1.size; have := g2.size; omega)
  · have HRC := Lib.hid (show rightH xs = false by unfold rightH; rw [h2]; simp)
    rw [h2] at HCF
    go_wp2_with (go_at_call 79; (with_reducible refine (HCF.out _ (Ext.rf _)).mono ?_); rintro e w1 ⟨rfl, g1⟩)
    go_step3
    refine ⟨rfl, ?_⟩
    go_wp2
    rw [Exit.noGoto_ret]
    exact ⟨_, results_tmp rfl _ _ _, by rw [HRC.out]; rfl, g1⟩

end Go.Proofs.Ytookffaojlkfaaa

/- The document's Right of tables; owners. -/
namespace Go.Proofs.Ytookffaojlkfaaa
open Go.RowKit

def badAtH (xs : List Ho) (k : Nat) : Prop := ∃ x, xs[k]? = some x ∧ (wrongH x = true ∨ ∃ m y, k = m + 1 ∧ xs[m]? = some y ∧ ltB y.t x.t = false)
def goodToH (xs : List Ho) (k : Nat) : Prop := ∀ j, j < k → ¬ badAtH xs j
theorem rightH_iff (xs : List Ho) : rightH xs = true ↔ goodToH xs xs.length := by
  unfold rightH
  simp only [Bool.and_eq_true, Bool.not_eq_true']
  refine ⟨fun ⟨h1, h2⟩ j hj ⟨x, hx, hb⟩ => ?_, fun h => ⟨?_, ?_⟩⟩
  · rcases hb with hb | ⟨m, y, rfl, hy, hc⟩
    · rw [List.any_eq_false] at h1
      exact h1 x (List.mem_of_getElem? hx) hb
    · have hp := pairsH_get xs m (by omega)
      have := List.all_eq_true.1 h2 _ (List.mem_of_getElem? hp)
      unfold lessH at this
      rw [List.getElem?_eq_getElem hj] at hx
      rw [List.getElem?_eq_getElem (by omega)] at hy
      have ex := Option.some.inj hx
      have ey := Option.some.inj hy
      rw [← ex, ← ey] at hc
      simp only at this
      rw [this] at hc; cases hc
  · rw [List.any_eq_false]
    intro x hx hw
    obtain ⟨j, hj, hjx⟩ := List.getElem_of_mem hx
    exact h j hj ⟨x, by rw [List.getElem?_eq_getElem hj, hjx], .inl hw⟩
  · rw [List.all_eq_true]
    intro p hp
    obtain ⟨m, hm, hmp⟩ := List.getElem_of_mem hp
    have hm' : m + 1 < xs.length := by rw [pairsH_len] at hm; omega
    have hg := pairsH_get xs m hm'
    rw [List.getElem?_eq_getElem hm, hmp] at hg
    cases hg
    unfold lessH
    cases hq : ltB xs[m].t xs[m + 1].t
    · exact absurd ⟨xs[m + 1], List.getElem?_eq_getElem hm', .inr ⟨m, xs[m], rfl, List.getElem?_eq_getElem (by omega), hq⟩⟩ (h (m + 1) hm')
    · rfl
theorem rightH_bad {xs : List Ho} {k : Nat} (hk : k < xs.length) (h : badAtH xs k) : rightH xs = false := by
  rw [Bool.eq_false_iff]
  intro e
  exact (rightH_iff xs).1 e k hk h
theorem goodH_next {xs : List Ho} {k : Nat} {x : Ho} (hx : xs[k]? = some x) (h : goodToH xs k) (hw : wrongH x = false) (hc : ∀ m y, k = m + 1 → xs[m]? = some y → ltB y.t x.t = true) : goodToH xs (k + 1) := by
  intro j hj
  by_cases hjk : j < k
  · exact h j hjk
  · obtain rfl : j = k := by omega
    rintro ⟨z, hz, hb⟩
    rw [hx] at hz
    cases hz
    rcases hb with hb | ⟨m, y, e, hy, hge⟩
    · rw [hw] at hb; cases hb
    · rw [hc m y e hy] at hge; cases hge
set_option maxRecDepth 100000 in
set_option maxHeartbeats 8000000 in
theorem rrighth_any (p : Option Addr) (xs : List Ho) (c : Nat) (w : World) (hs : SlH w p xs) (hl : xs.length ≤ 1000) (hr : ∀ x ∈ xs, TuR x.t) :
    Calls Try.prog 44 #[.slice p xs.length c] w fun e w' => e = .returned (.bool (rightH xs)) ∧ Ext w w' := by
  have HRR := Lib.hid hr
  clear hr
  go_enter Try.func44, Try.ntmps44
  go_wp2
  go_loopw [3] (fun a wr => ∃ k : Nat, k ≤ xs.length ∧ a = .int .i64 k ∧ goodToH xs k ∧ Ext w wr) (fun a _ => xs.length - (intOf a).toNat)
  case atStart => exact ⟨0, Nat.zero_le _, rfl, (fun j hj => absurd hj (Nat.not_lt_zero _)), Ext.rf _⟩
  case round =>
    obtain ⟨k, hk, rfl, hG, hE⟩ := hrel
    by_cases hlt : k < xs.length
    · have hil : (k : Int) < xs.length := by omega
      obtain ⟨b, off, rfl, lb, c0, c1, c2, c3, c4⟩ := (hs.ext hE) k hlt
      obtain ⟨x, hx⟩ : ∃ x, xs[k] = x := ⟨_, rfl⟩
      have hx' : xs[k]? = some x := by rw [List.getElem?_eq_getElem hlt, hx]
      have HX := Lib.hid (HRR.out x (by rw [← hx]; exact List.getElem_mem hlt))
      rw [hx] at c0 c1 c2 c3 c4
      have lbb : Lt b wr := lb
      have HBAD := fun h => Lib.hid (rightH_bad hlt ⟨x, hx', h⟩)
      have HNEXT := fun hw hc => Lib.hid (goodH_next hx' hG hw hc)
      have HSS := Lib.hid hs
      clear hG
      cases h1 : agB x.n
      · have HR := HBAD (.inl (by unfold wrongH; rw [h1]; rfl))
        have RAG := Lib.hid (fun W => by have := ragent_any x.n W; rw [h1] at this; exact this : ∀ W, Calls Try.prog 74 #[.int .i64 x.n] W fun e w' => e = .returned (.bool false) ∧ W = w')
        clear HBAD HNEXT hx hx' hs lb
        go_upto_region 4 with (fail)
        refine wp_region_later (by kernel_rfl) (by kernel_rfl) ?_; (repeat (go_big_quiet_step ((go_at_call 74; exact calls_later_same (RAG.out _))))); refine wpQuiet_nil ?_; intro d
        have hd := later_ext d
        go_wp2
        exact bodyPost_ret (v := .bool false) (by simp [results, Try.results44, go_sem]) rfl ⟨by rw [HR.out], hE.tr hd⟩
      · have hw : wrongH x = false := by unfold wrongH; rw [h1]; rfl
        have RAG := Lib.hid (fun W => by have := ragent_any x.n W; rw [h1] at this; exact this : ∀ W, Calls Try.prog 74 #[.int .i64 x.n] W fun e w' => e = .returned (.bool true) ∧ W = w')
        by_cases hk0 : k = 0
        · have HN := HNEXT hw (fun m y e _ => by omega)
          clear HBAD HNEXT hx hx' hs lb hw
          subst hk0
          go_upto_region 4 with (fail)
          refine wp_region_later (by kernel_rfl) (by kernel_rfl) ?_; (repeat (go_big_quiet_step ((go_at_call 74; exact calls_later_same (RAG.out _))))); refine wpQuiet_nil ?_; intro d
          have hd := later_ext d
          go_wp2
          go_roundw
          case rel => exact ⟨1, by omega, by go_num, HN.out, hE.tr hd⟩
          case measure => simp [intOf]; omega
        · obtain ⟨m, rfl⟩ : ∃ m, k = m + 1 := ⟨k - 1, by omega⟩
          obtain ⟨b', off', hpe, -, d0, d1, d2, d3, d4⟩ := (hs.ext hE) m (by omega)
          cases hpe
          have hml : m < xs.length := by omega
          obtain ⟨y, hy⟩ : ∃ y, xs[m] = y := ⟨_, rfl⟩
          have hy' : xs[m]? = some y := by rw [List.getElem?_eq_getElem hml, hy]
          have HY := Lib.hid (HRR.out y (by rw [← hy]; exact List.getElem_mem hml))
          rw [hy] at d0 d1 d2 d3 d4
          have hkp : (0 : Int) < ((m + 1 : Nat) : Int) := by omega
          have hi1 : (m : Int) < xs.length := by omega
          have hmw : IntKind.i64.wrap (((m + 1 : Nat) : Int) - 1) = m := by rw [IntKind.wrap_i64]; omega
          clear hk0
          cases hc : ltB y.t x.t
          · have RLS := Lib.hid (fun W => by have := rless_any y.t x.t HY.out HX.out W; rw [hc] at this; exact this : ∀ W, Calls Try.prog 49 #[tu y.t.a y.t.b y.t.c y.t.d, tu x.t.a x.t.b x.t.c x.t.d] W fun e w' => e = .returned (.bool false) ∧ Ext W w')
            have HR := HBAD (.inr ⟨m, y, rfl, hy', hc⟩)
            clear HBAD HNEXT hx hx' hy hy' hs lb hw
            go_upto_region 4 with (fail)
            refine wp_region_later (by kernel_rfl) (by kernel_rfl) ?_; (repeat (go_big_quiet_step (first | (go_at_call 74; exact calls_later_same (RAG.out _)) | (go_at_call 49; exact calls_later (RLS.out _))))); refine wpQuiet_nil ?_; intro d
            have hd := later_ext d
            go_wp2
            exact bodyPost_ret (v := .bool false) (by simp [results, Try.results44, go_sem]) rfl ⟨by rw [HR.out], hE.tr hd⟩
          · have RLS := Lib.hid (fun W => by have := rless_any y.t x.t HY.out HX.out W; rw [hc] at this; exact this : ∀ W, Calls Try.prog 49 #[tu y.t.a y.t.b y.t.c y.t.d, tu x.t.a x.t.b x.t.c x.t.d] W fun e w' => e = .returned (.bool true) ∧ Ext W w')
            have HN := HNEXT hw (fun m' y' e h' => by
              obtain rfl : m' = m := by omega
              rw [hy'] at h'; cases h'
              exact hc)
            clear HBAD HNEXT hx hx' hy hy' hs lb hw
            go_upto_region 4 with (fail)
            refine wp_region_later (by kernel_rfl) (by kernel_rfl) ?_; (repeat (go_big_quiet_step (first | (go_at_call 74; exact calls_later_same (RAG.out _)) | (go_at_call 49; exact calls_later (RLS.out _))))); refine wpQuiet_nil ?_; intro d
            have hd := later_ext d
            go_wp2
            go_roundw
            case rel => exact ⟨m + 1 + 1, by omega, by go_num, HN.out, hE.tr hd⟩
            case measure => simp [intOf]; omega
    · have hil : ¬ ((k : Int) < xs.length) := by omega
      have HR := Lib.hid (show rightH xs = true from (rightH_iff xs).2 (fun j hj => hG j (by omega)))
      clear hG
      go_wp2
      exact bodyPost_ret (v := .bool true) (by simp [results, Try.results44, go_sem]) rfl ⟨by rw [HR.out], hE⟩

end Go.Proofs.Ytookffaojlkfaaa

/- Owners. -/
namespace Go.Proofs.Ytookffaojlkfaaa
open Go.RowKit

def ownI (xs : List Ho) (t : Tu) : Int := match xs.find? (eqH t) with | some x => x.n | none => -1
def ownHas (xs : List Ho) (t : Tu) : Bool := xs.any (eqH t)
theorem find_at {α : Type} (f : α → Bool) : ∀ (xs : List α) (k : Nat) (x : α), xs[k]? = some x → (∀ j, j < k → ∀ y, xs[j]? = some y → f y = false) → f x = true → xs.find? f = some x ∧ xs.findIdx f = k ∧ xs.any f = true
  | [], k, x, h, _, _ => by simp at h
  | z :: xs, 0, x, h, _, hf => by
    cases h
    exact ⟨List.find?_cons_of_pos hf, by simp [List.findIdx_cons, hf], by simp [hf]⟩
  | z :: xs, k + 1, x, h, hn, hf => by
    have hz : f z = false := hn 0 (by omega) z rfl
    obtain ⟨h1, h2, h3⟩ := find_at f xs k x h (fun j hj y hy => hn (j + 1) (by omega) y hy) hf
    exact ⟨by rw [List.find?_cons_of_neg (by simp [hz])]; exact h1, by simp [List.findIdx_cons, hz, h2], by simp [hz, h3]⟩
theorem find_none {α : Type} (f : α → Bool) (xs : List α) (h : ∀ (j : Nat) (y : α), xs[j]? = some y → f y = false) : xs.find? f = none ∧ xs.any f = false := by
  have h' : ∀ y ∈ xs, f y = false := fun y hy => by
    obtain ⟨j, hj, e⟩ := List.getElem_of_mem hy
    exact h j y (by rw [List.getElem?_eq_getElem hj, e])
  exact ⟨List.find?_eq_none.2 fun y hy => by rw [h' y hy]; simp, List.any_eq_false.2 fun y hy => by rw [h' y hy]; simp⟩
theorem idx_first {α : Type} (f : α → Bool) (xs : List α) (h : xs.any f = true) : ∃ k x, xs[k]? = some x ∧ idx f xs = (k : Nat) ∧ k < xs.length ∧ xs.find? f = some x := by
  have hl : xs.findIdx f < xs.length := by
    obtain ⟨x, hx, hp⟩ := List.any_eq_true.1 h
    exact List.findIdx_lt_length_of_exists ⟨x, hx, hp⟩
  have hg := List.getElem?_eq_getElem hl
  refine ⟨_, _, hg, by unfold idx; rw [if_pos h], hl, (find_at f xs _ _ hg (fun j hj y hy => ?_) (List.findIdx_getElem (w := hl))).1⟩
  have hn := List.not_of_lt_findIdx (p := f) (xs := xs) hj
  have hjl := (List.getElem?_eq_some_iff.1 hy).1
  have e : xs[j] = y := (List.getElem?_eq_some_iff.1 hy).2
  rw [e] at hn
  simpa using hn
set_option maxRecDepth 20000 in
set_option maxHeartbeats 2000000 in
theorem owner_any (t : Tu) (p : Option Addr) (xs : List Ho) (c : Nat) (w : World) (hs : SlH w p xs) (hl : xs.length ≤ 1000) :
    Calls Try.prog 40 #[.slice p xs.length c, tu t.a t.b t.c t.d] w fun e w' => e = .returned (.tuple #[.int .i64 (ownI xs t), .bool (ownHas xs t)]) ∧ Ext w w' := by
  cases ha : ownHas xs t
  · have hn : idx (eqH t) xs = -1 := by unfold idx; rw [if_neg (by unfold ownHas at ha; rw [ha]; decide)]
    have hI : ownI xs t = -1 := by
      unfold ownI ownHas at *
      have hf : xs.find? (eqH t) = none := List.find?_eq_none.2 fun y hy => by have := List.any_eq_false.1 ha y hy; simpa using this
      rw [hf]
    have HI := Lib.hid hI
    clear ha hI
    go_enter Try.func40, Try.ntmps40
    go_upto_region 1 with (fail)
    obtain ⟨W0, hW⟩ : ∃ W0, w.alloc (.cells #[.int .u32 t.a, .int .u32 t.b, .int .u16 t.c, .int .u16 t.d] 26) = W0 := ⟨_, rfl⟩
    have e0 : Ext w W0 := by rw [← hW]; exact Ext.al (Ext.rf _) _
    have s0 := hs.ext e0
    have ht : TuAt W0 w.heap.size t := by rw [← hW]; unfold TuAt; simp [go_sem, Lt]
    rw [hW]
    clear hW hs
    generalize w.heap.size = B at *
    obtain ⟨d0, d1, d2, d3⟩ := ht.cells
    have lB : Lt B W0 := ht.2
    clear ht
    go_wp2_with (go_at_call 78; (with_reducible refine (findh_any t p xs c _ s0 hl).mono ?_); rw [hn]; rintro e W1 ⟨rfl, g⟩)
    exact bodyPost_ret (v := .tuple #[.int .i64 (-1), .bool false]) (by simp [results, Try.results40, go_sem]) rfl ⟨by rw [HI.out], e0.tr g⟩
  · obtain ⟨k, x, hx, hi, hk, hf⟩ := idx_first (eqH t) xs ha
    have HI := Lib.hid (show ownI xs t = x.n by unfold ownI; rw [hf])
    have HX := Lib.hid hx
    have hkl : (k : Int) < xs.length := by omega
    clear ha hx hf
    go_enter Try.func40, Try.ntmps40
    go_upto_region 1 with (fail)
    obtain ⟨W0, hW⟩ : ∃ W0, w.alloc (.cells #[.int .u32 t.a, .int .u32 t.b, .int .u16 t.c, .int .u16 t.d] 26) = W0 := ⟨_, rfl⟩
    have e0 : Ext w W0 := by rw [← hW]; exact Ext.al (Ext.rf _) _
    have s0 := hs.ext e0
    have ht : TuAt W0 w.heap.size t := by rw [← hW]; unfold TuAt; simp [go_sem, Lt]
    rw [hW]
    clear hW hs
    generalize w.heap.size = B at *
    obtain ⟨d0, d1, d2, d3⟩ := ht.cells
    have lB : Lt B W0 := ht.2
    clear ht
    go_upto_region 2 with (go_at_call 78; (with_reducible refine (findh_any t p xs c _ s0 hl).mono ?_); rw [hi]; rintro e W1 ⟨rfl, g⟩)
    obtain ⟨b, off, rfl, lb, c0, c1, c2, c3, c4⟩ := (s0.ext g) k hk
    have hxk : xs[k] = x := by have := HX.out; rw [List.getElem?_eq_getElem hk] at this; exact Option.some.inj this
    rw [hxk] at c0 c1 c2 c3 c4
    have lbb : Lt b W1 := lb
    clear d0 d1 d2 d3 lB hxk lb s0
    go_wp2
    exact bodyPost_ret (v := .tuple #[.int .i64 x.n, .bool true]) (by simp [results, Try.results40, go_sem]) rfl ⟨by rw [HI.out], e0.tr g⟩
set_option maxRecDepth 100000 in
set_option maxHeartbeats 8000000 in
theorem rowner_any (t : Tu) (p : Option Addr) (xs : List Ho) (c : Nat) (w : World) (hs : SlH w p xs) (hl : xs.length ≤ 1000) :
    Calls Try.prog 41 #[.slice p xs.length c, tu t.a t.b t.c t.d] w fun e w' => e = .returned (.tuple #[.int .i64 (ownI xs t), .bool (ownHas xs t)]) ∧ Ext w w' := by
  go_enter Try.func41, Try.ntmps41
  go_upto_region 1 with (fail)
  obtain ⟨W0, hW⟩ : ∃ W0, w.alloc (.cells #[.int .u32 t.a, .int .u32 t.b, .int .u16 t.c, .int .u16 t.d] 26) = W0 := ⟨_, rfl⟩
  have e0 : Ext w W0 := by rw [← hW]; exact Ext.al (Ext.rf _) _
  have s0 := hs.ext e0
  have ht : TuAt W0 w.heap.size t := by rw [← hW]; unfold TuAt; simp [go_sem, Lt]
  rw [hW]
  clear hW hs
  generalize w.heap.size = B at *
  go_wp2
  go_loopw [6] (fun a wr => ∃ k : Nat, k ≤ xs.length ∧ a = .int .i64 k ∧ (∀ j, j < k → ∀ y, xs[j]? = some y → eqH t y = false) ∧ Ext W0 wr) (fun a _ => xs.length - (intOf a).toNat)
  case atStart => exact ⟨0, Nat.zero_le _, rfl, (fun j hj => absurd hj (Nat.not_lt_zero _)), Ext.rf _⟩
  case round =>
    obtain ⟨k, hk, rfl, hG, hE0⟩ := hrel
    have hE := e0.tr hE0
    have hT := ht.ext hE0
    obtain ⟨d0, d1, d2, d3⟩ := hT.cells
    have lB : Lt B wr := hT.2
    have hE0' := Lib.hid hE0
    clear hT
    by_cases hlt : k < xs.length
    · have hil : (k : Int) < xs.length := by omega
      obtain ⟨b, off, rfl, lb, c0, c1, c2, c3, c4⟩ := (s0.ext hE0) k hlt
      obtain ⟨x, hx⟩ : ∃ x, xs[k] = x := ⟨_, rfl⟩
      have hx' : xs[k]? = some x := by rw [List.getElem?_eq_getElem hlt, hx]
      rw [hx] at c0 c1 c2 c3 c4
      have lbb : Lt b wr := lb
      cases hq : eqH t x
      · have HN := Lib.hid (show ∀ j, j < k + 1 → ∀ y, xs[j]? = some y → eqH t y = false by
          intro j hj y hy
          by_cases hjk : j < k
          · exact hG j hjk y hy
          · obtain rfl : j = k := by omega
            rw [hx'] at hy; cases hy
            exact hq)
        have HQ := Lib.hid (show (x.t.a == t.a && x.t.b == t.b && x.t.c == t.c && x.t.d == t.d) = false from hq)
        clear hG hx hx' lb hE0 hq
        go_upto_region 4 with (fail)
        refine wp_region_later (by kernel_rfl) (by kernel_rfl) ?_; (repeat (go_big_quiet_step (fail))); refine wpQuiet_nil ?_; intro d
        have hd := later_ext d
        rw [HQ.out]
        go_wp2
        go_roundw
        case rel => exact ⟨k + 1, by omega, by go_num, HN.out, hE0'.out.tr hd⟩
        case measure => simp [intOf]; omega
      · obtain ⟨h1, h2, h3⟩ := find_at (eqH t) xs k x hx' hG hq
        have HR := Lib.hid (show (Value.tuple #[.int .i64 (ownI xs t), .bool (ownHas xs t)]) = .tuple #[.int .i64 x.n, .bool true] by unfold ownI ownHas; rw [h1, h3])
        have HQ := Lib.hid (show (x.t.a == t.a && x.t.b == t.b && x.t.c == t.c && x.t.d == t.d) = true from hq)
        clear hG hx hx' lb hE0 hq h1 h2 h3 ht
        go_upto_region 4 with (fail)
        refine wp_region_later (by kernel_rfl) (by kernel_rfl) ?_; (repeat (go_big_quiet_step (fail))); refine wpQuiet_nil ?_; intro d
        have hd := later_ext d
        rw [HQ.out]
        obtain ⟨W5, hW5⟩ : ∃ W5, later d = W5 := ⟨_, rfl⟩
        rw [hW5] at hd ⊢
        clear hW5
        have c4 := (hd.cell (p := ⟨b, _, none⟩) lbb).trans c4
        have lbb : Lt b W5 := Nat.lt_of_lt_of_le lbb hd.size
        go_wp2
        exact bodyPost_ret (v := .tuple #[.int .i64 x.n, .bool true]) (by simp [results, Try.results41, go_sem]) rfl ⟨by rw [HR.out], hE.tr hd⟩
    · have hil : ¬ ((k : Int) < xs.length) := by omega
      obtain ⟨h1, h2⟩ := find_none (eqH t) xs (fun j y hy => hG j (by have := (List.getElem?_eq_some_iff.1 hy).1; omega) y hy)
      have HR := Lib.hid (show (Value.tuple #[.int .i64 (ownI xs t), .bool (ownHas xs t)]) = .tuple #[.int .i64 (-1), .bool false] by unfold ownI ownHas; rw [h1, h2])
      clear hG h1 h2 hE0
      go_wp2
      exact bodyPost_ret (v := .tuple #[.int .i64 (-1), .bool false]) (by simp [results, Try.results41, go_sem]) rfl ⟨by rw [HR.out], hE⟩

end Go.Proofs.Ytookffaojlkfaaa

/- Holders: slices.Equal, slices.Index. -/
namespace Go.Proofs.Ytookffaojlkfaaa
open Go.RowKit
set_option maxRecDepth 20000 in
set_option maxHeartbeats 2000000 in
theorem equal_H (p q : Option Addr) (xs ys : List Ho) (c c' : Nat) (w : World) (hs : SlH w p xs) (ht : SlH w q ys) (hl : xs.length ≤ 1000) (hm : ys.length ≤ 1000) :
    Calls Try.prog 83 #[.slice p xs.length c, .slice q ys.length c'] w fun e w' => e = .returned (.bool (decide (xs = ys))) ∧ Ext w w' := by
  by_cases hle : xs.length = ys.length
  · have hlb : ((xs.length : Int) != ys.length) = false := by simp [hle]
    have HLE := Lib.hid hle
    rw [hle] at hlb ⊢
    clear hle
    go_enter Try.func83, Try.ntmps83
    go_wp2
    go_loopw [5, 13] (fun _ a wr => ∃ k : Nat, k ≤ xs.length ∧ a = .int .i64 k ∧ xs.take k = ys.take k ∧ Ext w wr) (fun _ a _ => ys.length - (intOf a).toNat)
    case atStart => exact ⟨0, Nat.zero_le _, rfl, rfl, Ext.rf _⟩
    case round =>
      obtain ⟨k, hk, rfl, hT, hE⟩ := hrel
      have hle := HLE.out
      by_cases hlt : k < ys.length
      · have hil : (k : Int) < ys.length := by omega
        obtain ⟨b1, o1, rfl, lb1, c0, c1, c2, c3, c4⟩ := (hs.ext hE) k (by omega)
        obtain ⟨b2, o2, rfl, lb2, d0, d1, d2, d3, d4⟩ := (ht.ext hE) k hlt
        have L1 : Lt b1 wr := lb1
        have L2 : Lt b2 wr := lb2
        have HH := Lib.hid hs
        have HT := Lib.hid ht
        have hx1 : k < xs.length := by omega
        obtain ⟨x, hx⟩ : ∃ x, xs[k] = x := ⟨_, rfl⟩
        obtain ⟨y, hy⟩ : ∃ y, ys[k] = y := ⟨_, rfl⟩
        have hT1 : xs.take (k + 1) = xs.take k ++ [x] := by rw [List.take_succ_eq_append_getElem hx1, hx]
        have hT2 : ys.take (k + 1) = ys.take k ++ [y] := by rw [List.take_succ_eq_append_getElem hlt, hy]
        rw [hx] at c0 c1 c2 c3 c4
        rw [hy] at d0 d1 d2 d3 d4
        clear hs ht hle lb1 lb2
        by_cases hxy : x = y
        · subst hxy
          have HN := Lib.hid (show xs.take (k + 1) = ys.take (k + 1) by rw [hT1, hT2, hT])
          clear hT hT1 hT2 hx hy
          go_upto_region 6 with (fail)
          refine wp_region_later (by kernel_rfl) (by kernel_rfl) ?_; (repeat (go_big_quiet_step (fail))); refine wpQuiet_nil ?_; intro d
          have hd := later_ext d
          go_wp2
          go_roundw
          case rel => exact ⟨k + 1, by omega, by go_num, HN.out, hE.tr hd⟩
          case measure => simp [intOf]; omega
        · have HXY := Lib.hid hxy
          have HR := Lib.hid (show decide (xs = ys) = false by
            refine decide_eq_false fun e => hxy ?_
            subst e
            rw [← hx, ← hy])
          clear hT hT1 hT2 hx hy hxy
          go_upto_region 6 with (fail)
          refine wp_region_later (by kernel_rfl) (by kernel_rfl) ?_; (repeat (go_big_quiet_step (fail)))
          refine wpQuiet_val (v := .bool true) (by kernel_rfl) (neq_H HXY.out _ _ _ _ _ _ _ _ (by kernel_rfl) (by kernel_rfl)) ?_
          refine wpQuiet_nil ?_; intro d
          have hd := later_ext d
          go_simp
          go_wp2
          exact bodyPost_ret (v := .bool false) (by simp [results, Try.results83, go_sem]) rfl ⟨by rw [HR.out], hE.tr hd⟩
      · have hil : ¬ ((k : Int) < ys.length) := by omega
        have HR := Lib.hid (show decide (xs = ys) = true by
          refine decide_eq_true ?_
          rwa [List.take_of_length_le (by omega), List.take_of_length_le (by omega)] at hT)
        clear hT
        go_wp2
        exact bodyPost_ret (v := .bool true) (by simp [results, Try.results83, go_sem]) rfl ⟨by rw [HR.out], hE⟩
  · have hlb : ((xs.length : Int) != ys.length) = true := by simp; omega
    have HR := Lib.hid (show decide (xs = ys) = false from decide_eq_false fun e => hle (by rw [e]))
    clear hle
    go_enter Try.func83, Try.ntmps83
    go_wp2
    exact bodyPost_ret (v := .bool false) (by simp [results, Try.results83, go_sem]) rfl ⟨by rw [HR.out], Ext.rf _⟩

theorem ideal_same_any (p q : Option Addr) (xs ys : List Ho) (c c' : Nat) (w : World) (hs : SlH w p xs) (ht : SlH w q ys) (hl : xs.length ≤ 1000) (hm : ys.length ≤ 1000) :
    Calls Try.prog 48 #[.slice p xs.length c, .slice q ys.length c'] w fun e w' => e = .returned (.bool (decide (xs = ys))) ∧ Ext w w' := by
  have HH := Lib.hid (equal_H p q xs ys c c' w hs ht hl hm)
  clear hs ht
  go_enter Try.func48, Try.ntmps48
  go_wp2_with (go_at_call 83; (with_reducible refine (HH.out).mono ?_); rintro e w' ⟨rfl, g⟩)
  go_ret
  exact ⟨rfl, g⟩
theorem eqne_H {x y : Ho} (h : x ≠ y) (ρ : Operand → Value) (dst : Option Tmp) (p q : Operand) (ty : TypeId) (pos : String) (after : Array Edge) (g : Option (Nat × Bool)) (hx : ρ p = .agg #[.int .u32 x.t.a, .int .u32 x.t.b, .int .u16 x.t.c, .int .u16 x.t.d, .int .i64 x.n]) (hy : ρ q = .agg #[.int .u32 y.t.a, .int .u32 y.t.b, .int .u16 y.t.c, .int .u16 y.t.d, .int .i64 y.n]) (w : World) :
    (execOp ρ ⟨dst, .binOp .eql 70 p q 70, ty, pos, after, g⟩).run Try.prog w = .ok (.value (.bool false)) w := by
  have := eql_H (x := x) (y := y) ρ dst p q ty pos after g hx hy w
  rwa [decide_eq_false h] at this
def isH (x : Ho) (y : Ho) : Bool := decide (y = x)
attribute [local go_sem] beq_self_eq_true
set_option maxRecDepth 100000 in
set_option maxHeartbeats 8000000 in
theorem index_H (z : Ho) (p : Option Addr) (xs : List Ho) (c : Nat) (w : World) (hs : SlH w p xs) (hl : xs.length ≤ 1000) :
    Calls Try.prog 95 #[.slice p xs.length c, .agg #[.int .u32 z.t.a, .int .u32 z.t.b, .int .u16 z.t.c, .int .u16 z.t.d, .int .i64 z.n]] w fun e w' => e = .returned (.int .i64 (idx (isH z) xs)) ∧ Ext w w' := by
  go_enter Try.func95, Try.ntmps95
  go_upto_region 1 with (fail)
  obtain ⟨W0, hW⟩ : ∃ W0, w.alloc (.cells #[.int .u32 z.t.a, .int .u32 z.t.b, .int .u16 z.t.c, .int .u16 z.t.d, .int .i64 z.n] 70) = W0 := ⟨_, rfl⟩
  have e0 : Ext w W0 := by rw [← hW]; exact Ext.al (Ext.rf _) _
  have hz : rowD W0 w.heap.size = #[.int .u32 z.t.a, .int .u32 z.t.b, .int .u16 z.t.c, .int .u16 z.t.d, .int .i64 z.n] := by rw [← hW]; simp [go_sem]
  have lz : Lt w.heap.size W0 := by rw [← hW]; simp [Lt]
  have s0 := hs.ext e0
  rw [hW]
  clear hW hs
  generalize w.heap.size = B at *
  go_wp2
  go_loopw [5, 8] (fun _ a wr => ∃ k : Nat, k ≤ xs.length ∧ a = .int .i64 k ∧ (∀ j, j < k → ∀ y, xs[j]? = some y → isH z y = false) ∧ Ext W0 wr) (fun _ a _ => xs.length - (intOf a).toNat)
  case atStart => exact ⟨0, Nat.zero_le _, rfl, (fun j hj => absurd hj (Nat.not_lt_zero _)), Ext.rf _⟩
  case round =>
    obtain ⟨k, hk, rfl, hG, hE0⟩ := hrel
    have hE := e0.tr hE0
    have hzr : rowD wr B = #[.int .u32 z.t.a, .int .u32 z.t.b, .int .u16 z.t.c, .int .u16 z.t.d, .int .i64 z.n] := by rw [rowD_same (hE0.block B lz)]; exact hz
    have d0 : wr.cell? ⟨B, 0, none⟩ = some (.int .u32 z.t.a) := by rw [cell_rowD, hzr]; rfl
    have d1 : wr.cell? ⟨B, 1, none⟩ = some (.int .u32 z.t.b) := by rw [cell_rowD, hzr]; rfl
    have d2 : wr.cell? ⟨B, 2, none⟩ = some (.int .u16 z.t.c) := by rw [cell_rowD, hzr]; rfl
    have d3 : wr.cell? ⟨B, 3, none⟩ = some (.int .u16 z.t.d) := by rw [cell_rowD, hzr]; rfl
    have d4 : wr.cell? ⟨B, 4, none⟩ = some (.int .i64 z.n) := by rw [cell_rowD, hzr]; rfl
    have lB : Lt B wr := Nat.lt_of_lt_of_le lz hE0.size
    have hE0' := Lib.hid hE0
    clear hzr
    by_cases hlt : k < xs.length
    · have hil : (k : Int) < xs.length := by omega
      obtain ⟨b, off, rfl, lb, c0, c1, c2, c3, c4⟩ := (s0.ext hE0) k hlt
      obtain ⟨x, hx⟩ : ∃ x, xs[k] = x := ⟨_, rfl⟩
      have hx' : xs[k]? = some x := by rw [List.getElem?_eq_getElem hlt, hx]
      rw [hx] at c0 c1 c2 c3 c4
      have lbb : Lt b wr := lb
      by_cases hq : x = z
      · obtain ⟨h1, h2, h3⟩ := find_at (isH z) xs k x hx' hG (decide_eq_true hq)
        have HR := Lib.hid (show idx (isH z) xs = (k : Nat) by unfold idx; rw [if_pos h3, h2])
        rw [hq] at c0 c1 c2 c3 c4
        clear hG hx hx' lb hE0 hq h1 h2 h3
        go_upto_region 4 with (fail)
        refine wp_region_later (by kernel_rfl) (by kernel_rfl) ?_; (repeat (go_big_quiet_step (fail))); refine wpQuiet_nil ?_; intro d
        have hd := later_ext d
        go_wp2
        exact bodyPost_ret (v := .int .i64 k) (by simp [results, Try.results95, go_sem]) rfl ⟨by rw [HR.out], hE.tr hd⟩
      · have HN := Lib.hid (show ∀ j, j < k + 1 → ∀ y, xs[j]? = some y → isH z y = false by
          intro j hj y hy
          by_cases hjk : j < k
          · exact hG j hjk y hy
          · obtain rfl : j = k := by omega
            rw [hx'] at hy; cases hy
            exact decide_eq_false hq)
        have HQ := Lib.hid (show z ≠ x from fun e => hq e.symm)
        clear hG hx hx' lb hE0 hq
        go_upto_region 4 with (fail)
        refine wp_region_later (by kernel_rfl) (by kernel_rfl) ?_
        (repeat (go_big_quiet_step (fail)))
        refine wpQuiet_val (v := .bool false) (by kernel_rfl) (eqne_H HQ.out _ _ _ _ _ _ _ _ (by kernel_rfl) (by kernel_rfl)) ?_
        refine wpQuiet_nil ?_; intro d
        have hd := later_ext d
        go_simp
        go_wp2
        go_roundw
        case rel => exact ⟨k + 1, by omega, by go_num, HN.out, hE0'.out.tr hd⟩
        case measure => simp [intOf]; omega
    · have hil : ¬ ((k : Int) < xs.length) := by omega
      obtain ⟨h1, h2⟩ := find_none (isH z) xs (fun j y hy => hG j (by have := (List.getElem?_eq_some_iff.1 hy).1; omega) y hy)
      have HR := Lib.hid (show idx (isH z) xs = -1 by unfold idx; rw [if_neg (by rw [h2]; decide)])
      clear hG h1 h2 hE0
      go_wp2
      exact bodyPost_ret (v := .int .i64 (-1)) (by simp [results, Try.results95, go_sem]) rfl ⟨by rw [HR.out], hE⟩

end Go.Proofs.Ytookffaojlkfaaa

/- Holders: slices.Delete. -/
namespace Go.Proofs.Ytookffaojlkfaaa
open Go.RowKit
theorem flH_app (xs ys : List Ho) : flH (xs ++ ys) = flH xs ++ flH ys := by unfold flH; simp
/-- What is left behind one is taken out. -/
theorem setL_eraseH (xs : List Ho) (k : Nat) (zs : List Value) (hk : k < xs.length) :
    (setL (setL (flH xs) (k * 5) (flH (xs.drop (k + 1)))) ((xs.length - 1) * 5) zs).take ((xs.length - 1) * 5) = flH (xs.eraseIdx k) := by
  rw [List.eraseIdx_eq_take_drop_succ, flH_app]
  have l0 := flH_len xs
  have l1 : (flH (xs.take k)).length = k * 5 := by rw [flH_len, List.length_take]; rw [Nat.min_eq_left (by omega)]
  have l2 : (flH (xs.drop (k + 1))).length = (xs.length - (k + 1)) * 5 := by rw [flH_len, List.length_drop]
  refine List.ext_getElem? fun j => ?_
  rw [List.getElem?_take]
  by_cases hj : j < (xs.length - 1) * 5
  · rw [if_pos hj, setL_get _ _ _ _ (by rw [setL_len]; omega), if_neg (by omega), setL_get _ _ _ _ (by omega)]
    by_cases h1 : k * 5 ≤ j
    · rw [if_pos (by omega), List.getElem?_append_right (by omega), l1]
    · rw [if_neg (by omega), List.getElem?_append_left (by omega)]
      have h3 : flH xs = flH (xs.take k) ++ flH (xs.drop k) := by rw [← flH_app, List.take_append_drop]
      rw [h3, List.getElem?_append_left (by omega)]
  · rw [if_neg hj, List.getElem?_eq_none (by rw [List.length_append]; omega)]
set_option maxRecDepth 100000 in
set_option maxHeartbeats 4000000 in
theorem delete_H (base : Nat) (w : World) (v : Value) (xs : List Ho) (k j : Nat) (hj : j = k + 1) (hl : xs.length ≤ 1000) (ho : w.ownsRow base 70 5 v xs.length (flH xs)) (hk : k < xs.length) :
    Calls Try.prog 97 #[v, .int .i64 k, .int .i64 j] w fun e w' => ∃ v', e = .returned v' ∧ w'.ownsRow base 70 5 v' (xs.eraseIdx k).length (flH (xs.eraseIdx k)) ∧ Mv (fun b => base ≤ b) w w' := by
  obtain ⟨i0, hi, hz0, hz1, hz2⟩ := info_parts info_H
  obtain ⟨g, cap, cur, rfl, hg, hgb, hc1, hcm, hcs, hct⟩ : ∃ g cap cur, v = .slice (some ⟨g, 0, none⟩) xs.length cap ∧ base ≤ g ∧ w.heap[g]? = some (.cells cur 70 (0, 0)) ∧ xs.length ≤ cap ∧ cap ≤ maxLen ∧ cur.size = cap * 5 ∧ cur.toList.take (xs.length * 5) = flH xs := by
    rcases ho.2 with ⟨_, h0⟩ | h
    · omega
    · obtain ⟨g, cap, cur, h1, h2, h3, h4, h5, h6, h7⟩ := h; exact ⟨g, cap, cur, h1, h2, h3, h4, h5, h6, h7⟩
  have hrow : rowD w g = cur := by unfold rowD; rw [hgb]
  have hfz : frzD w g = (0, 0) := by unfold frzD; rw [hgb]
  have hsome : ∀ j, j < cap * 5 → (w.cell? ⟨g, j, none⟩).isSome = true := fun j hj => by rw [cell_rowD, hrow, Array.getElem?_eq_getElem (by omega)]; rfl
  have HSM := Lib.hid hsome
  have HO := Lib.hid ho
  have hk1 : ((k : Int) == (j : Int)) = false := by rw [beq_eq_false_iff_ne]; omega
  have hic : k ≤ cap := by omega
  have hjc : j ≤ cap := by omega
  have hjl : j ≤ xs.length := by omega
  have hkj : k ≤ j := by omega
  have hkl : (k : Int) < xs.length := by omega
  obtain ⟨A, hA, hsrc⟩ : ∃ A : Addr, (if cap = j then some (⟨g, 0, none⟩ : Addr) else some ⟨g, j * 5, none⟩) = some A ∧ Hid (∀ t u, (flH (xs.drop j))[t]? = some u → w.drew.cell? (A.add t) = some u) := by
    by_cases h : cap = j
    · refine ⟨⟨g, 0, none⟩, by simp [h], fun t u hu => ?_⟩
      rw [show xs.drop j = [] from List.drop_eq_nil_of_le (by omega)] at hu
      cases hu
    · refine ⟨⟨g, j * 5, none⟩, by simp [h], fun t u hu => ?_⟩
      have ht : t < (xs.length - j) * 5 := by
        have := (List.getElem?_eq_some_iff.1 hu).1
        rwa [flH_len, List.length_drop] at this
      have e1 : (flH xs)[j * 5 + t]? = some u := by
        rw [← List.take_append_drop j xs, flH_app, List.getElem?_append_right (by rw [flH_len, List.length_take]; omega), ← hu]
        congr 1
        rw [flH_len, List.length_take]; omega
      rw [Addr.add_lit]
      show w.cell? _ = _
      rw [cell_rowD, hrow]
      rw [← hct, List.getElem?_take, if_pos (by omega), Array.getElem?_toList] at e1
      exact e1
  have s1 : Hid ((flH (xs.drop j)).length = (xs.length - j) * 5) := by rw [flH_len, List.length_drop]; rfl
  have s2 : Hid (∀ u ∈ flH (xs.drop j), u.oneCell' = true) := flH_one _
  have s3 : Hid (∀ t, t < (flH (xs.drop j)).length → (w.drew.cell? ⟨g, 0 + k * 5 + t, none⟩).isSome = true ∧ w.drew.frozen? ⟨g, 0 + k * 5 + t, none⟩ = false) := by
    intro t ht
    rw [flH_len, List.length_drop] at ht
    exact ⟨hsome _ (by omega), frozen_of_frz hfz _⟩
  obtain ⟨W1, hW1⟩ : ∃ W1, W1 = w.drew.setCells g (0 + k * 5) (flH (xs.drop j)) := ⟨_, rfl⟩
  have hs1 : ∀ i, i < cap * 5 → (W1.cell? ⟨g, i, none⟩).isSome = true := by rw [hW1]; exact some_setCells _ _ w.drew hsome
  have hf1 : frzD W1 g = (0, 0) := by rw [hW1, frz_setCells]; exact hfz
  have hlj : k + (xs.length - j) = xs.length - 1 := by omega
  have hcl : ∀ ty, (Builtin.clear_ #[50] ty #[.slice (some ⟨g, (k + (xs.length - j)) * 5, none⟩) (xs.length - (k + (xs.length - j))) (cap - (k + (xs.length - j)))]).run Try.prog W1 = .ok (.tuple #[]) (W1.setCells g ((k + (xs.length - j)) * 5) [.int .u32 0, .int .u32 0, .int .u16 0, .int .u16 0, .int .i64 0]) := fun ty => by
    rw [show xs.length - (k + (xs.length - j)) = 1 by omega]
    exact run_clear_one W1 50 70 ty (.agg #[.int .u32 0, .int .u32 0, .int .u16 0, .int .u16 0, .int .i64 0]) Try.underlying50 (fun w => by kernel_rfl) g _ _ (fun i hi => hs1 _ (by have : i < 5 := hi; omega)) (fun i hi => frozen_of_frz hf1 _) (by intro u hu; simp [Value.cells] at hu; rcases hu with rfl | rfl | rfl | rfl | rfl <;> rfl)
  have hW : Hid (W1 = w.drew.setCells g (0 + k * 5) (flH (xs.drop j))) := hW1
  have HJ := Lib.hid hj
  have hne : ¬ cap = k + (xs.length - j) := by omega
  clear hW1 hs1 hf1 hlj
  clear ho hsome hct hj
  go_enter Try.func97, Try.ntmps97
  go_wp2_with (fail)
  go_region_law (refine step_append_room rfl (.tmp 22) (.tmp 25) 50 rfl 70 i0 5 Try.underlying50 hi hz1 g 0 k cap (by simp [Act.eval, Act.put]) A (xs.length - j) (cap - j) (flH (xs.drop j)) (by simp [Act.eval, Act.put]) s1.out hsrc.out s2.out (by omega) s3.out ?_; rw [← hW.out])
  go_wp2
  have hj := HJ.out
  have h0 : w.drew.ownsRow base 70 5 (.slice (some ⟨g, 0, none⟩) xs.length cap) xs.length (flH xs) := HO.out
  have e1 : k + (xs.length - j) = xs.length - 1 := by omega
  have h1 := own_shrink (own_setCells [.int .u32 0, .int .u32 0, .int .u16 0, .int .u16 0, .int .i64 0] ((k + (xs.length - j)) * 5) _ _ (own_setCells (flH (xs.drop j)) (0 + k * 5) w.drew _ h0)) (m := k + (xs.length - j)) (by omega)
  rw [← hW.out] at h1
  refine bodyPost_ret (v := .slice (some ⟨g, 0, none⟩) (k + (xs.length - j)) cap) (by kernel_rfl) rfl ⟨_, rfl, ?_, ?_⟩
  · rw [List.length_eraseIdx_of_lt hk, ← e1]
    rw [e1, Nat.zero_add] at h1
    subst hj
    rw [setL_eraseH xs k _ hk] at h1
    rw [e1]
    exact h1
  · rw [hW.out]
    exact Mv.sc hg _ _ _ _ (Mv.sc hg _ _ _ _ (Mv.dr (Mv.refl _ _)))

end Go.Proofs.Ytookffaojlkfaaa

/- Holders: slices.BinarySearchFunc. -/
namespace Go.Proofs.Ytookffaojlkfaaa
open Go.RowKit

def geH (t : Tu) (x : Ho) : Bool := decide (0 ≤ cmpT x.t t)
def atH (xs : List Ho) (t : Tu) : Nat := xs.findIdx (geH t)
def okH (xs : List Ho) (t : Tu) : Bool := match xs[atH xs t]? with | some x => (cmpT x.t t == 0) | none => false
set_option maxHeartbeats 1000000 in
theorem cmph_any (x : Ho) (t : Tu) (w : World) : Calls Try.prog 100 #[.agg #[.int .u32 x.t.a, .int .u32 x.t.b, .int .u16 x.t.c, .int .u16 x.t.d, .int .i64 x.n], tu t.a t.b t.c t.d] w fun e w' => e = .returned (.int .i64 (cmpT x.t t)) ∧ Ext w w' := by
  go_enter Try.func100, Try.ntmps100
  go_wp2_with (go_at_call 63; (with_reducible refine (cmp_any x.t t _).mono ?_); rintro e w' ⟨rfl, hb⟩)
  go_ret
  refine ⟨rfl, ?_⟩
  (repeat (first | with_reducible exact Ext.rf _ | with_reducible assumption | with_reducible refine Ext.al ?_ _ | with_reducible refine Ext.dr ?_ | with_reducible refine Ext.dn ?_ _ | ((with_reducible refine Ext.st _ ?_ ?_); focus (first | omega | (simp; omega) | simp)) | with_reducible refine Ext.tr ?_ (by assumption) | with_reducible refine Ext.tr ?_ (up_ext (by assumption)) | with_reducible refine Ext.of (by assumption) ?_))
theorem cmph_cl (x : Ho) (t : Tu) (w : World) : Calls Try.prog 100 (#[.agg #[.int .u32 x.t.a, .int .u32 x.t.b, .int .u16 x.t.c, .int .u16 x.t.d, .int .i64 x.n], tu t.a t.b t.c t.d] ++ #[]) w fun e w' => e = .returned (.int .i64 (cmpT x.t t)) ∧ Ext w w' := by
  rw [show (#[Value.agg #[.int .u32 x.t.a, .int .u32 x.t.b, .int .u16 x.t.c, .int .u16 x.t.d, .int .i64 x.n], tu t.a t.b t.c t.d] ++ #[] : Array Value) = #[.agg #[.int .u32 x.t.a, .int .u32 x.t.b, .int .u16 x.t.c, .int .u16 x.t.d, .int .i64 x.n], tu t.a t.b t.c t.d] from rfl]
  exact cmph_any x t w
def belowH (xs : List Ho) (t : Tu) (i : Nat) : Prop := ∀ k, k < i → ∀ x, xs[k]? = some x → cmpT x.t t < 0
def aboveH (xs : List Ho) (t : Tu) (j : Nat) : Prop := ∀ k, j ≤ k → ∀ x, xs[k]? = some x → 0 ≤ cmpT x.t t
theorem atH_of {xs : List Ho} {t : Tu} {i : Nat} (hi : i ≤ xs.length) (h1 : belowH xs t i) (h2 : aboveH xs t i) : atH xs t = i := by
  unfold atH
  rcases Nat.lt_or_ge i xs.length with h | h
  · refine (List.findIdx_eq h).2 ⟨decide_eq_true (h2 i (Nat.le_refl _) _ (List.getElem?_eq_getElem h)), fun j hj => ?_⟩
    have := h1 j hj _ (List.getElem?_eq_getElem (by omega))
    exact decide_eq_false (by omega)
  · have e : i = xs.length := by omega
    rw [e]
    refine List.findIdx_eq_length.2 fun x hx => ?_
    obtain ⟨j, hj, hjx⟩ := List.getElem_of_mem hx
    have := h1 j (by omega) x (by rw [List.getElem?_eq_getElem hj, hjx])
    exact decide_eq_false (by omega)
set_option maxRecDepth 100000 in
set_option maxHeartbeats 8000000 in
theorem search_any (t : Tu) (p : Option Addr) (xs : List Ho) (c : Nat) (w : World) (hs : SlH w p xs) (hl : xs.length ≤ 1000) (hm : ∀ (a b : Nat) (x y : Ho), a < b → xs[a]? = some x → xs[b]? = some y → cmpT y.t t < 0 → cmpT x.t t < 0) :
    Calls Try.prog 99 #[.slice p xs.length c, tu t.a t.b t.c t.d, .func (.func 100) #[] #[]] w fun e w' => e = .returned (.tuple #[.int .i64 (atH xs t), .bool (okH xs t)]) ∧ Ext w w' := by
  have HM := Lib.hid (show ∀ (a b : Nat) (x y : Ho), a ≤ b → xs[a]? = some x → xs[b]? = some y → cmpT y.t t < 0 → cmpT x.t t < 0 from fun a b x y hab hx hy hlt => by
    rcases Nat.lt_or_ge a b with h | h
    · exact hm a b x y h hx hy hlt
    · obtain rfl : a = b := by omega
      rw [hx] at hy; cases hy; exact hlt)
  clear hm
  go_enter Try.func99, Try.ntmps99
  go_upto_region 1 with (fail)
  obtain ⟨W0, hW⟩ : ∃ W0, w.alloc (.cells #[.int .u32 t.a, .int .u32 t.b, .int .u16 t.c, .int .u16 t.d] 26) = W0 := ⟨_, rfl⟩
  have e0 : Ext w W0 := by rw [← hW]; exact Ext.al (Ext.rf _) _
  have s0 := hs.ext e0
  have ht : TuAt W0 w.heap.size t := by rw [← hW]; unfold TuAt; simp [go_sem, Lt]
  rw [hW]
  clear hW hs
  generalize w.heap.size = B at *
  go_wp2
  go_loopw [9, 10, 11] (fun a b _ wr => ∃ i j : Nat, i ≤ j ∧ j ≤ xs.length ∧ a = .int .i64 i ∧ b = .int .i64 j ∧ belowH xs t i ∧ aboveH xs t j ∧ Ext W0 wr) (fun a b _ _ => ((intOf b) - (intOf a)).toNat)
  case atStart => exact ⟨0, xs.length, Nat.zero_le _, Nat.le_refl _, rfl, rfl, (fun k hk => absurd hk (Nat.not_lt_zero _)), (fun k hk x hx => by have := (List.getElem?_eq_some_iff.1 hx).1; omega), Ext.rf _⟩
  case round =>
    obtain ⟨i, j, hij, hjl, rfl, rfl, hB, hA, hE0⟩ := hrel
    have hE := e0.tr hE0
    have hT := ht.ext hE0
    obtain ⟨d0, d1, d2, d3⟩ := hT.cells
    have lB : Lt B wr := hT.2
    have hE0' := Lib.hid hE0
    clear hT
    by_cases hlt : i < j
    · have hil : (i : Int) < (j : Int) := by omega
      obtain ⟨m, hm⟩ : ∃ m, (i + j) / 2 = m := ⟨_, rfl⟩
      have hmi : i ≤ m := by omega
      have hmj : m < j := by omega
      have hml : m < xs.length := by omega
      have hmil : (m : Int) < xs.length := by omega
      go_upto_region 5 with (fail)
      rw [show ((i : Int) + (j : Int)) / 2 = (m : Nat) by omega]
      obtain ⟨b, off, rfl, lb, c0, c1, c2, c3, c4⟩ := (s0.ext hE0) m hml
      obtain ⟨x, hx⟩ : ∃ x, xs[m] = x := ⟨_, rfl⟩
      have hx' : xs[m]? = some x := by rw [List.getElem?_eq_getElem hml, hx]
      rw [hx] at c0 c1 c2 c3 c4
      have lbb : Lt b wr := lb
      by_cases hq : cmpT x.t t < 0
      · have hgd : decide (cmpT x.t t < 0) = true := decide_eq_true hq
        have HN := Lib.hid (show belowH xs t (m + 1) from fun k hk y hy => HM.out k m y x (by omega) hy hx' hq)
        have HA := Lib.hid hA
        clear hB hA hx hx' lb hE0 hq
        refine wp_region_later (by kernel_rfl) (by kernel_rfl) ?_; (repeat (go_big_quiet_step (first | (with_reducible exact calls_later (cmph_any x t _)) | (with_reducible exact calls_later (cmph_cl x t _))))); refine wpQuiet_nil ?_; intro d
        have hd := later_ext d
        go_wp2
        go_roundw
        case rel => exact ⟨m + 1, j, by omega, by omega, by go_num, rfl, HN.out, HA.out, hE0'.out.tr hd⟩
        case measure => simp [intOf]; omega
      · have hgd : decide (cmpT x.t t < 0) = false := decide_eq_false hq
        have HN := Lib.hid (show aboveH xs t m from fun k hk y hy => Int.not_lt.1 fun hlt' => hq (HM.out m k x y hk hx' hy hlt'))
        have HB := Lib.hid hB
        clear hB hA hx hx' lb hE0 hq
        refine wp_region_later (by kernel_rfl) (by kernel_rfl) ?_; (repeat (go_big_quiet_step (first | (with_reducible exact calls_later (cmph_any x t _)) | (with_reducible exact calls_later (cmph_cl x t _))))); refine wpQuiet_nil ?_; intro d
        have hd := later_ext d
        go_wp2
        go_roundw
        case rel => exact ⟨i, m, by omega, by omega, rfl, rfl, HB.out, HN.out, hE0'.out.tr hd⟩
        case measure => simp [intOf]; omega
    · have hil : ¬ ((i : Int) < (j : Int)) := by omega
      obtain rfl : i = j := by omega
      have hat := atH_of hjl hB hA
      by_cases hend : i < xs.length
      · have hie : (i : Int) < xs.length := by omega
        obtain ⟨b, off, rfl, lb, c0, c1, c2, c3, c4⟩ := (s0.ext hE0) i hend
        obtain ⟨x, hx⟩ : ∃ x, xs[i] = x := ⟨_, rfl⟩
        have hx' : xs[i]? = some x := by rw [List.getElem?_eq_getElem hend, hx]
        rw [hx] at c0 c1 c2 c3 c4
        have lbb : Lt b wr := lb
        have HR := Lib.hid (show (Value.tuple #[.int .i64 (atH xs t), .bool (okH xs t)]) = .tuple #[.int .i64 i, .bool (cmpT x.t t == 0)] by unfold okH; rw [hat, hx'])
        clear hB hA hx hx' lb hE0 hat
        go_upto_region 8 with (fail)
        refine wp_region_later (by kernel_rfl) (by kernel_rfl) ?_; (repeat (go_big_quiet_step (first | (with_reducible exact calls_later (cmph_any x t _)) | (with_reducible exact calls_later (cmph_cl x t _))))); refine wpQuiet_nil ?_; intro d
        have hd := later_ext d
        go_wp2
        exact bodyPost_ret (v := .tuple #[.int .i64 i, .bool (cmpT x.t t == 0)]) (by simp [results, Try.results99, go_sem]) rfl ⟨by rw [HR.out], hE.tr hd⟩
      · have hie : ¬ ((i : Int) < xs.length) := by omega
        have HR := Lib.hid (show (Value.tuple #[.int .i64 (atH xs t), .bool (okH xs t)]) = .tuple #[.int .i64 i, .bool false] by unfold okH; rw [hat, List.getElem?_eq_none (by omega)])
        clear hB hA hE0 hat
        go_upto_region 8 with (fail)
        refine wp_region_later (by kernel_rfl) (by kernel_rfl) ?_; (repeat (go_big_quiet_step (fail))); refine wpQuiet_nil ?_; intro d
        have hd := later_ext d
        go_wp2
        exact bodyPost_ret (v := .tuple #[.int .i64 i, .bool false]) (by simp [results, Try.results99, go_sem]) rfl ⟨by rw [HR.out], hE.tr hd⟩

end Go.Proofs.Ytookffaojlkfaaa
