/- Lemmas of this claim, put together out of: Y12, Y0, Y13, Y14, Y16, Y17. -/
import Derived.Test.YtookffaojlkfaaaMA6
import Derived.WalkKit
import Derived.WalkSpells
import Derived.MapKept
import Derived.Orders
set_option linter.unusedSimpArgs false
set_option linter.unusedVariables false
/- What happens: the events' ways. -/
namespace Go.Proofs.Ytookffaojlkfaaa
open Go.RowKit

def EvAt (w : World) (b : Nat) (e : Ev) : Prop := rowD w b = #[.int .u8 e.k, .int .i64 e.n, .int .u32 e.t.a, .int .u32 e.t.b, .int .u16 e.t.c, .int .u16 e.t.d] ∧ Lt b w
theorem EvAt.cells {w : World} {b : Nat} {e : Ev} (h : EvAt w b e) : w.cell? ⟨b, 0, none⟩ = some (.int .u8 e.k) ∧ w.cell? ⟨b, 1, none⟩ = some (.int .i64 e.n) ∧ w.cell? ⟨b, 2, none⟩ = some (.int .u32 e.t.a) ∧ w.cell? ⟨b, 3, none⟩ = some (.int .u32 e.t.b) ∧ w.cell? ⟨b, 4, none⟩ = some (.int .u16 e.t.c) ∧ w.cell? ⟨b, 5, none⟩ = some (.int .u16 e.t.d) := by
  refine ⟨?_, ?_, ?_, ?_, ?_, ?_⟩ <;> rw [cell_rowD, h.1] <;> rfl
theorem EvAt.ext {w w' : World} {b : Nat} {e : Ev} (h : EvAt w b e) (x : Ext w w') : EvAt w' b e := ⟨by rw [rowD_same (x.block b h.2)]; exact h.1, Nat.lt_of_lt_of_le h.2 x.size⟩
abbrev OwnH (w : World) (base : Nat) (v : Value) (ys : List Ho) : Prop := w.ownsRow base 70 5 v ys.length (flH ys)
theorem OwnH.ext {w w' : World} {base : Nat} {v : Value} {ys : List Ho} (h : OwnH w base v ys) (e : Ext w w') : OwnH w' base v ys := own_ext h e
theorem OwnH.sl {w : World} {base : Nat} {v : Value} {ys : List Ho} (h : OwnH w base v ys) : ∃ p c, v = .slice p ys.length c ∧ ys.length ≤ c ∧ SlH w p ys := SlH.own h
theorem index_e (e : Ev) (p : Option Addr) (xs : List Ho) (c : Nat) (w : World) (hs : SlH w p xs) (hl : xs.length ≤ 1000) :
    Calls Try.prog 95 #[.slice p xs.length c, .agg #[.int .u32 e.t.a, .int .u32 e.t.b, .int .u16 e.t.c, .int .u16 e.t.d, .int .i64 e.n]] w fun r w' => r = .returned (.int .i64 (idx (isH (zOf e)) xs)) ∧ Ext w w' := index_H (zOf e) p xs c w hs hl
set_option maxHeartbeats 2000000 in
theorem mine_any (e : Ev) (p : Option Addr) (xs : List Ho) (c : Nat) (w : World) (hs : SlH w p xs) (hl : xs.length ≤ 1000) :
    Calls Try.prog 94 #[.slice p xs.length c, .agg #[.int .u8 e.k, .int .i64 e.n, .int .u32 e.t.a, .int .u32 e.t.b, .int .u16 e.t.c, .int .u16 e.t.d]] w fun r w' => r = .returned (.int .i64 (idx (isH (zOf e)) xs)) ∧ Ext w w' := by
  go_enter Try.func94, Try.ntmps94
  go_upto_region 1 with (fail)
  obtain ⟨W0, hW⟩ : ∃ W0, w.alloc (.cells #[.int .u8 e.k, .int .i64 e.n, .int .u32 e.t.a, .int .u32 e.t.b, .int .u16 e.t.c, .int .u16 e.t.d] 52) = W0 := ⟨_, rfl⟩
  have e0 : Ext w W0 := by rw [← hW]; exact Ext.al (Ext.rf _) _
  have he : EvAt W0 w.heap.size e := by rw [← hW]; unfold EvAt; simp [go_sem, Lt]
  have hsz : W0.heap.size = w.heap.size + 1 := by rw [← hW]; simp
  rw [hW]
  clear hW
  obtain ⟨c0, c1, c2, c3, c4, c5⟩ := he.cells
  have lB : Lt w.heap.size W0 := he.2
  have s0 := hs.ext e0
  clear he hs hsz
  generalize w.heap.size = B at *
  go_wp2_with (go_at_call 95; (with_reducible refine (index_e e p xs c _ s0 hl).mono ?_); rintro r W1 ⟨rfl, g⟩)
  go_ret
  exact ⟨rfl, e0.tr g⟩
theorem idxH_no {f : Ho → Bool} {xs : List Ho} (h : xs.any f = false) : idx f xs = -1 := by unfold idx; rw [if_neg (by rw [h]; decide)]
theorem idxH_yes {f : Ho → Bool} {xs : List Ho} (h : xs.any f = true) : idx f xs = ((xs.findIdx f : Nat) : Int) ∧ xs.findIdx f < xs.length := by
  refine ⟨by unfold idx; rw [if_pos h], ?_⟩
  obtain ⟨x, hx, hp⟩ := List.any_eq_true.1 h
  exact List.findIdx_lt_length_of_exists ⟨x, hx, hp⟩
set_option maxRecDepth 100000 in
set_option maxHeartbeats 8000000 in
theorem over_any (e : Ev) (base b : Nat) (v : Value) (xs : List Ho) (w : World) (ho : OwnH w base v xs) (hl : xs.length ≤ 1000) (hf : w.cell? ⟨b, 0, none⟩ = some (.func (.func 94) #[] #[])) (lb : Lt b w) (hbs : base ≤ w.heap.size) :
    Calls Try.prog 96 #[v, .agg #[.int .u8 e.k, .int .i64 e.n, .int .u32 e.t.a, .int .u32 e.t.b, .int .u16 e.t.c, .int .u16 e.t.d], .pointer (some ⟨b, 0, none⟩)] w fun r w' => ∃ v', r = .returned (.tuple #[v', .bool (xs.any (isH (zOf e)))]) ∧ OwnH w' base v' (overX xs e) ∧ Mv (fun k => base ≤ k) w w' := by
  obtain ⟨p, c, rfl, hc, hs⟩ := ho.sl
  go_enter Try.func96, Try.ntmps96
  go_upto_region 1 with (fail)
  obtain ⟨W0, hW⟩ : ∃ W0, w.alloc (.cells #[.int .u8 e.k, .int .i64 e.n, .int .u32 e.t.a, .int .u32 e.t.b, .int .u16 e.t.c, .int .u16 e.t.d] 52) = W0 := ⟨_, rfl⟩
  have e0 : Ext w W0 := by rw [← hW]; exact Ext.al (Ext.rf _) _
  have he : EvAt W0 w.heap.size e := by rw [← hW]; unfold EvAt; simp [go_sem, Lt]
  have hsz : W0.heap.size = w.heap.size + 1 := by rw [← hW]; simp
  rw [hW]
  clear hW
  obtain ⟨c0, c1, c2, c3, c4, c5⟩ := he.cells
  have lB : Lt w.heap.size W0 := he.2
  have s0 := hs.ext e0
  have HO := Lib.hid (ho.ext e0)
  have hf := (e0.cell (p := ⟨b, 0, none⟩) lb).trans hf
  have lb : Lt b W0 := Nat.lt_of_lt_of_le lb e0.size
  clear he hs hsz ho
  generalize w.heap.size = B at *
  go_upto_region 2 with (go_at_call 94; (with_reducible refine (mine_any e p xs c _ s0 hl).mono ?_); rintro r W1 ⟨rfl, g1⟩)
  have HO1 := Lib.hid (HO.out.ext g1)
  clear c0 c1 c2 c3 c4 c5 lB hf lb s0 HO
  cases ha : xs.any (isH (zOf e))
  · have hX := Lib.hid (show overX xs e = xs by unfold overX; rw [ha]; rfl)
    rw [idxH_no ha]
    have HA := Lib.hid ha
    clear ha
    go_wp2
    exact bodyPost_ret (v := .tuple #[.slice p xs.length c, .bool false]) (by simp [results, Try.results96, go_sem]) rfl ⟨_, by rw [HA.out], by rw [hX.out]; exact HO1.out, Mv.of_ext (e0.tr g1)⟩
  · have hX := Lib.hid (show overX xs e = xs.eraseIdx (xs.findIdx (isH (zOf e))) by unfold overX; rw [ha]; rfl)
    obtain ⟨h1, h2⟩ := idxH_yes ha
    rw [h1]
    have HA := Lib.hid ha
    clear ha h1
    generalize xs.findIdx (isH (zOf e)) = k at *
    have hkl : (k : Int) < xs.length := by omega
    have HC := Lib.hid (delete_H base W1 _ xs k (k + 1) rfl hl HO1.out h2)
    have ek : ((k + 1 : Nat) : Int) = (k : Int) + 1 := rfl
    rw [ek] at HC
    clear ek
    go_wp2_with (go_at_call 97; go_must (with_reducible refine (HC.out).mono ?_); rintro r W2 ⟨v', rfl, o2, m2⟩; have HO2 := Lib.hid o2; clear o2)
    exact bodyPost_ret (v := .tuple #[v', .bool true]) (by simp [results, Try.results96, go_sem]) rfl ⟨_, by rw [HA.out], by rw [hX.out]; exact HO2.out, (Mv.of_ext (e0.tr g1)).trans m2⟩
set_option maxRecDepth 100000 in
set_option maxHeartbeats 8000000 in
theorem deliver_any (e : Ev) (base b : Nat) (v : Value) (xs : List Ho) (w : World) (ho : OwnH w base v xs) (hl : xs.length ≤ 1000) (hf : w.cell? ⟨b, 0, none⟩ = some (.func (.func 94) #[] #[])) (lb : Lt b w) :
    Calls Try.prog 102 #[v, .agg #[.int .u8 e.k, .int .i64 e.n, .int .u32 e.t.a, .int .u32 e.t.b, .int .u16 e.t.c, .int .u16 e.t.d], .pointer (some ⟨b, 0, none⟩)] w fun r w' => ∃ v', r = .returned (.tuple #[v', .bool (xs.any (isH (zOf e)))]) ∧ OwnH w' base v' xs ∧ Mv (fun k => base ≤ k) w w' := by
  obtain ⟨p, c, rfl, hc, hs⟩ := ho.sl
  go_enter Try.func102, Try.ntmps102
  go_upto_region 1 with (fail)
  obtain ⟨W0, hW⟩ : ∃ W0, w.alloc (.cells #[.int .u8 e.k, .int .i64 e.n, .int .u32 e.t.a, .int .u32 e.t.b, .int .u16 e.t.c, .int .u16 e.t.d] 52) = W0 := ⟨_, rfl⟩
  have e0 : Ext w W0 := by rw [← hW]; exact Ext.al (Ext.rf _) _
  have he : EvAt W0 w.heap.size e := by rw [← hW]; unfold EvAt; simp [go_sem, Lt]
  have hsz : W0.heap.size = w.heap.size + 1 := by rw [← hW]; simp
  rw [hW]
  clear hW
  obtain ⟨c0, c1, c2, c3, c4, c5⟩ := he.cells
  have lB : Lt w.heap.size W0 := he.2
  have s0 := hs.ext e0
  have HO := Lib.hid (ho.ext e0)
  have hf := (e0.cell (p := ⟨b, 0, none⟩) lb).trans hf
  have lb : Lt b W0 := Nat.lt_of_lt_of_le lb e0.size
  clear he hs hsz ho
  generalize w.heap.size = B at *
  cases ha : xs.any (isH (zOf e))
  · have hI := idxH_no ha
    have HA := Lib.hid ha
    clear ha
    go_wp2_with (go_at_call 94; (with_reducible refine (mine_any e p xs c _ s0 hl).mono ?_); rw [hI]; rintro r W1 ⟨rfl, g1⟩)
    exact bodyPost_ret (v := .tuple #[.slice p xs.length c, .bool false]) (by simp [results, Try.results102, go_sem]) rfl ⟨_, by rw [HA.out], HO.out.ext g1, Mv.of_ext (e0.tr g1)⟩
  · obtain ⟨hI, h2⟩ := idxH_yes ha
    have HA := Lib.hid ha
    clear ha
    generalize xs.findIdx (isH (zOf e)) = k at *
    go_wp2_with (go_at_call 94; (with_reducible refine (mine_any e p xs c _ s0 hl).mono ?_); rw [hI]; rintro r W1 ⟨rfl, g1⟩)
    exact bodyPost_ret (v := .tuple #[.slice p xs.length c, .bool true]) (by simp [results, Try.results102, go_sem]) rfl ⟨_, by rw [HA.out], HO.out.ext g1, Mv.of_ext (e0.tr g1)⟩
theorem search_e (e : Ev) (p : Option Addr) (xs : List Ho) (c : Nat) (w : World) (hs : SlH w p xs) (hl : xs.length ≤ 1000) (hm : MonoH xs e.t) :
    Calls Try.prog 99 #[.slice p xs.length c, .agg #[.int .u32 e.t.a, .int .u32 e.t.b, .int .u16 e.t.c, .int .u16 e.t.d], .func (.func 100) #[] #[]] w fun r w' => r = .returned (.tuple #[.int .i64 (atH xs e.t), .bool (okH xs e.t)]) ∧ Ext w w' := search_any e.t p xs c w hs hl hm
set_option maxRecDepth 100000 in
set_option maxHeartbeats 8000000 in
theorem accept_any (e : Ev) (base : Nat) (v : Value) (xs : List Ho) (w : World) (ho : OwnH w base v xs) (hl : xs.length ≤ 1000) (hbs : base ≤ w.heap.size) (hm : MonoH xs e.t) :
    Calls Try.prog 98 #[v, .agg #[.int .u8 e.k, .int .i64 e.n, .int .u32 e.t.a, .int .u32 e.t.b, .int .u16 e.t.c, .int .u16 e.t.d]] w fun r w' => ∃ v', r = .returned (.tuple #[v', .bool (!okH xs e.t)]) ∧ OwnH w' base v' (accX xs e) ∧ Mv (fun k => base ≤ k) w w' := by
  obtain ⟨p, c, rfl, hc, hs⟩ := ho.sl
  go_enter Try.func98, Try.ntmps98
  go_upto_region 1 with (fail)
  obtain ⟨W0, hW⟩ : ∃ W0, w.alloc (.cells #[.int .u8 e.k, .int .i64 e.n, .int .u32 e.t.a, .int .u32 e.t.b, .int .u16 e.t.c, .int .u16 e.t.d] 52) = W0 := ⟨_, rfl⟩
  have e0 : Ext w W0 := by rw [← hW]; exact Ext.al (Ext.rf _) _
  have he : EvAt W0 w.heap.size e := by rw [← hW]; unfold EvAt; simp [go_sem, Lt]
  have hsz : W0.heap.size = w.heap.size + 1 := by rw [← hW]; simp
  rw [hW]
  clear hW
  obtain ⟨c0, c1, c2, c3, c4, c5⟩ := he.cells
  have lB : Lt w.heap.size W0 := he.2
  have s0 := hs.ext e0
  have HO := Lib.hid (ho.ext e0)
  have HM := Lib.hid hm
  have hb0 : base ≤ W0.heap.size := by omega
  clear hs hsz ho hm
  go_upto_region 2 with (go_at_call 99; go_must (with_reducible refine (search_e e p xs c _ s0 hl HM.out).mono ?_); rintro r W1 ⟨rfl, g1⟩)
  have HO1 := Lib.hid (HO.out.ext g1)
  have he1 := he.ext g1
  have hb1 : base ≤ W1.heap.size := Nat.le_trans hb0 g1.size
  clear c0 c1 c2 c3 c4 c5 lB s0 HO he hb0
  generalize w.heap.size = B at *
  cases hk : okH xs e.t
  rotate_left
  · have hX := Lib.hid (show accX xs e = xs by unfold accX; rw [hk]; rfl)
    have HK := Lib.hid hk
    clear hk
    go_wp2
    exact bodyPost_ret (v := .tuple #[.slice p xs.length c, .bool false]) (by simp [results, Try.results98, go_sem]) rfl ⟨_, by rw [HK.out]; rfl, by rw [hX.out]; exact HO1.out, Mv.of_ext (e0.tr g1)⟩
  · have hX := Lib.hid (show accX xs e = insAt xs (atH xs e.t) (zOf e) by unfold accX; rw [hk]; rfl)
    have HK := Lib.hid hk
    clear hk
    obtain ⟨c0, c1, c2, c3, c4, c5⟩ := he1.cells
    have lB : Lt B W1 := he1.2
    have HA := Lib.hid (atH_le xs e.t)
    obtain ⟨WN, hWN⟩ : ∃ WN, WN = W1.alloc (.cells #[.int .u32 e.t.a, .int .u32 e.t.b, .int .u16 e.t.c, .int .u16 e.t.d, .int .i64 e.n] 70) := ⟨_, rfl⟩
    have hnb : (Value.slice p xs.length c).ownBlock ≠ some W1.heap.size := fun h => by have := (HO1.out.lt _ h).2; omega
    have hOn : OwnH WN base (.slice p xs.length c) xs := by rw [hWN]; exact HO1.out.ext (Ext.al (Ext.rf _) _)
    have HI := Lib.hid (ins_H base WN (.slice p xs.length c) xs (atH xs e.t) (zOf e) W1.heap.size HA.out hl (by rw [hWN]; simp; omega) hOn (by rw [hWN]; exact World.alloc_heap_new _ _) hnb)
    have gN : Ext W1 WN := by rw [hWN]; exact Ext.al (Ext.rf _) _
    rw [hWN] at HI
    clear he1 hnb hOn
    go_wp2_with (go_at_call 101; go_must (with_reducible refine (HI.out).mono ?_); rintro r W5 ⟨v', rfl, ho5, m5⟩; have HO5 := Lib.hid ho5; clear ho5)
    rw [← hWN] at m5
    exact bodyPost_ret (v := .tuple #[v', .bool true]) (by simp [results, Try.results98, go_sem]) rfl ⟨v', by rw [HK.out]; rfl, by rw [hX.out]; exact HO5.out, (Mv.of_ext ((e0.tr g1).tr gN)).trans m5⟩
theorem kill1_any (e : Ev) (x : Ho) (b : Nat) (w : World) (he : EvAt w b e) :
    Calls Try.prog 105 #[.agg #[.int .u32 x.t.a, .int .u32 x.t.b, .int .u16 x.t.c, .int .u16 x.t.d, .int .i64 x.n], .pointer (some ⟨b, 0, none⟩)] w fun r w' => r = .returned (.bool (isN e.n x)) ∧ Ext w w' := by
  obtain ⟨c0, c1, c2, c3, c4, c5⟩ := he.cells
  have lB : Lt b w := he.2
  clear he
  go_enter Try.func105, Try.ntmps105
  go_wp2
  go_ret
  exact ⟨rfl, Ext.al (Ext.rf _) _⟩
theorem kill1_cl (e : Ev) (x : Ho) (b : Nat) (w : World) (he : EvAt w b e) :
    Calls Try.prog 105 (#[.agg #[.int .u32 x.t.a, .int .u32 x.t.b, .int .u16 x.t.c, .int .u16 x.t.d, .int .i64 x.n]] ++ #[.pointer (some ⟨b, 0, none⟩)]) w fun r w' => r = .returned (.bool (isN e.n x)) ∧ Ext w w' := by
  rw [show (#[Value.agg #[.int .u32 x.t.a, .int .u32 x.t.b, .int .u16 x.t.c, .int .u16 x.t.d, .int .i64 x.n]] ++ #[Value.pointer (some ⟨b, 0, none⟩)] : Array Value) = #[.agg #[.int .u32 x.t.a, .int .u32 x.t.b, .int .u16 x.t.c, .int .u16 x.t.d, .int .i64 x.n], .pointer (some ⟨b, 0, none⟩)] from rfl]
  exact kill1_any e x b w he
theorem enters_kill1 : ∀ args w, (callFunc 105 args).run Try.prog w = .ok (.enter 105 args) w := enters_of Try.func105 (by kernel_rfl) rfl
theorem neq0_run {t : Tu} {q : Bool} (h : zeT t = q) (ρ : Operand → Value) (dst : Option Tmp) (x y : Operand) (ty : TypeId) (pos : String) (after : Array Edge) (g : Option (Nat × Bool)) (hx : ρ x = tu t.a t.b t.c t.d) (hy : ρ y = tu 0 0 0 0) (w : World) :
    (execOp ρ ⟨dst, .binOp .neq 26 x y 26, ty, pos, after, g⟩).run Try.prog w = .ok (.value (.bool (!q))) w := by
  subst h
  simp only [execOp, hx, hy]
  go_simp
  rcases t with ⟨a, b, c, d⟩
  unfold zeT
  repeat' split
  all_goals simp_all
set_option maxRecDepth 100000 in
set_option maxHeartbeats 8000000 in
theorem kill_any (e : Ev) (base : Nat) (v : Value) (xs : List Ho) (w : World) (ho : OwnH w base v xs) (hl : xs.length ≤ 1000) (hbs : base ≤ w.heap.size) :
    Calls Try.prog 103 #[v, .agg #[.int .u8 e.k, .int .i64 e.n, .int .u32 e.t.a, .int .u32 e.t.b, .int .u16 e.t.c, .int .u16 e.t.d]] w fun r w' => ∃ v', r = .returned (.tuple #[v', .bool (zeT e.t)]) ∧ OwnH w' base v' (killX xs e) ∧ Mv (fun k => base ≤ k) w w' := by
  obtain ⟨p, c, rfl, hc, hs⟩ := ho.sl
  go_enter Try.func103, Try.ntmps103
  go_upto_region 1 with (fail)
  obtain ⟨W0, hW⟩ : ∃ W0, w.alloc (.cells #[.int .u8 e.k, .int .i64 e.n, .int .u32 e.t.a, .int .u32 e.t.b, .int .u16 e.t.c, .int .u16 e.t.d] 52) = W0 := ⟨_, rfl⟩
  have e0 : Ext w W0 := by rw [← hW]; exact Ext.al (Ext.rf _) _
  have he : EvAt W0 w.heap.size e := by rw [← hW]; unfold EvAt; simp [go_sem, Lt]
  have hsz : W0.heap.size = w.heap.size + 1 := by rw [← hW]; simp
  rw [hW]
  clear hW
  obtain ⟨c0, c1, c2, c3, c4, c5⟩ := he.cells
  have lB : Lt w.heap.size W0 := he.2
  have HO := Lib.hid (ho.ext e0)
  have hb0 : base ≤ W0.heap.size := by omega
  have HE := Lib.hid he
  have HD := Lib.hid (deleteFunc_HC base (fun k => (Value.slice p xs.length c).ownBlock = some k) 105 #[.pointer (some ⟨w.heap.size, 0, none⟩)] enters_kill1 (isN e.n) W0 (.slice p xs.length c) xs hl hb0 HO.out (fun g h => h) (fun x W m => kill1_cl e x _ W ⟨by rw [rowD_same (m.same _ lB (fun h => by have := (ho.lt _ h).2; omega))]; exact he.1, Nat.lt_of_lt_of_le lB m.size⟩))
  have HG := Lib.hid (fun k (h : (Value.slice p xs.length c).ownBlock = some k) => (ho.lt _ h).1)
  clear hs hsz ho he
  generalize w.heap.size = B at *
  cases hz : zeT e.t
  · have hX := Lib.hid (show killX xs e = xs by unfold killX; rw [hz]; rfl)
    have HZ := Lib.hid hz
    have HZ' := Lib.hid (show (e.t.a == 0 && e.t.b == 0 && e.t.c == 0 && e.t.d == 0) = false from hz)
    clear hz
    go_wp2_with (go_at_call 104; exfalso; have hcon := HZ'.out; simp_all)
    all_goals exact bodyPost_ret (v := .tuple #[.slice p xs.length c, .bool false]) (by simp [results, Try.results103, go_sem]) rfl ⟨_, by rw [HZ.out], by rw [hX.out]; exact HO.out, Mv.of_ext e0⟩
  · have hX := Lib.hid (show killX xs e = xs.filter (fun x => !isN e.n x) by unfold killX; rw [hz]; rfl)
    have HZ := Lib.hid hz
    obtain ⟨z1, z2, z3, z4⟩ : e.t.a = 0 ∧ e.t.b = 0 ∧ e.t.c = 0 ∧ e.t.d = 0 := by
      unfold zeT at hz
      simp only [Bool.and_eq_true, beq_iff_eq] at hz
      exact ⟨hz.1.1.1, hz.1.1.2, hz.1.2, hz.2⟩
    clear hz
    go_wp2_with (go_at_call 104; go_must (with_reducible refine (HD.out).mono ?_); rintro r W2 ⟨v', rfl, o2, m2⟩; have HO2 := Lib.hid o2; clear o2)
    have M2 := Lib.hid (show Mv (fun k => base ≤ k) W0 W2 from m2.mono fun k _ => HG.out k)
    exact bodyPost_ret (v := .tuple #[v', .bool true]) (by simp [results, Try.results103, go_sem]) rfl ⟨_, by rw [HZ.out], by rw [hX.out]; exact HO2.out, (Mv.of_ext e0).trans M2.out⟩

end Go.Proofs.Ytookffaojlkfaaa

/- Maps that a function makes and fills in one statement, in whatever order: what they hold behind it. Any program. -/
namespace Go.Proofs.Ytookffaojlkfaaa
open Go.RowKit

/-- Values of which K holds serve as keys of type kt, and are found by what they are. -/
structure Keys (P : Program) (kt : TypeId) (K : Value → Prop) : Prop where
  check : ∀ (w : World) (em : Bool) {x : Value}, K x → (Instr.checkKey em 10000 kt x).run P w = .ok () w
  find : ∀ (w : World) {x : Value}, K x → ∀ es : List MapEntry, (∀ e ∈ es, K e.key) →
    ((Instr.findKey kt x es).run P w = .ok none w ∧ ∀ e ∈ es, e.key ≠ x) ∨ ∃ j e, (Instr.findKey kt x es).run P w = .ok (some (j, e.val)) w ∧ es[j]? = some e ∧ e.key = x

/-- A byte is found by its number. -/
theorem keys_int {P : Program} {kt : TypeId} (k : IntKind) (hu : P.underlying kt = some (.int k)) : Keys P kt (fun x => ∃ n : Int, x = .int k n) where
  check := by
    rintro w em x ⟨n, rfl⟩
    exact MapKept.run_checkKey hu (by simp [MapKept.IsKey]) em 9999
  find := by
    rintro w x ⟨n, rfl⟩ es hes
    have key : ∀ (es : List MapEntry) (i : Nat), (∀ e ∈ es, ∃ n : Int, e.key = .int k n) →
        (Instr.findNow (.int k) (.int k n) es i = some none ∧ ∀ e ∈ es, e.key ≠ .int k n) ∨ ∃ j e, Instr.findNow (.int k) (.int k n) es i = some (some (i + j, e.val)) ∧ es[j]? = some e ∧ e.key = .int k n := by
      intro es
      induction es with
      | nil => intro i _; exact .inl ⟨rfl, by simp⟩
      | cons e es ih =>
        intro i h
        obtain ⟨n', he⟩ := h e (by simp)
        by_cases hn : n = n'
        · subst hn
          exact .inr ⟨0, e, by simp [Instr.findNow, he, Instr.sameNow], rfl, he⟩
        · rcases ih (i + 1) (fun e' h' => h e' (by simp [h'])) with ⟨h1, h2⟩ | ⟨j, e', h1, h2, h3⟩
          · have hb : (n == n') = false := by simpa using hn
            refine .inl ⟨by simp [Instr.findNow, he, Instr.sameNow, hb, h1], ?_⟩
            intro e' h'
            rcases List.mem_cons.1 h' with rfl | h'
            · rw [he]; simp; exact fun h => hn h.symm
            · exact h2 e' h'
          · refine .inr ⟨j + 1, e', ?_, by simpa using h2, h3⟩
            have hb : (n == n') = false := by simpa using hn
            simp only [Instr.findNow, he, Instr.sameNow, if_true, hb, h1]
            congr 3
            omega
    rcases key es 0 hes with ⟨h1, h2⟩ | ⟨j, e, h1, h2, h3⟩
    · exact .inl ⟨MapKept.run_findKey hu h1, h2⟩
    · exact .inr ⟨j, e, by have := MapKept.run_findKey (P := P) (w := w) hu h1; simpa using this, h2, h3⟩

/-- Block B is a map that has for each key what f tells. -/
def MapIs (K : Value → Prop) (w : World) (B : Nat) (f : Value → Option Value) : Prop :=
  ∃ (es : Array MapEntry) (clk : Nat), w.heap[B]? = some (.map es clk) ∧ (∀ e ∈ es.toList, K e.key ∧ f e.key = some e.val) ∧ ∀ x v, f x = some v → ∃ e ∈ es.toList, e.key = x

theorem MapIs.new {K : Value → Prop} (w : World) : MapIs K (w.alloc (.map #[] 0)) w.heap.size (fun _ => none) :=
  ⟨#[], 0, by show (w.heap.push _)[w.heap.size]? = _; simp, by simp, by simp⟩

theorem MapIs.keep {K : Value → Prop} {w w' : World} {B : Nat} {f : Value → Option Value} (h : MapIs K w B f) (hb : w'.heap[B]? = w.heap[B]?) : MapIs K w' B f := by
  obtain ⟨es, clk, h1, h2, h3⟩ := h
  exact ⟨es, clk, hb.trans h1, h2, h3⟩

section
variable {P : Program} {t kt et : TypeId} {K : Value → Prop}
theorem MapIs.look (L : Keys P kt K) (ht : P.underlying t = some (.map kt et)) {w : World} {B : Nat} {f : Value → Option Value} (h : MapIs K w B f) {x : Value} (hx : K x) (z : Value) (hz : (zeroValue et).run P w = .ok z w) :
    (Instr.lookup t (.map (some B)) x false).run P w = .ok ((f x).getD z) w := by
  obtain ⟨es, clk, h1, h2, h3⟩ := h
  rcases L.find w hx es.toList (fun e he => (h2 e he).1) with ⟨g1, g2⟩ | ⟨j, e, g1, g2, g3⟩
  · have hn : f x = none := by
      cases hf : f x with
      | none => rfl
      | some v => obtain ⟨e, he, hk⟩ := h3 x v hf; exact absurd hk (g2 e he)
    simp [Instr.lookup, run_underlying ht, MapKept.run_getObj_map h1, L.check w _ hx, g1, hz, hn, Result.andThen]
  · have he : e ∈ es.toList := List.mem_of_getElem? g2
    have hv : f x = some e.val := by rw [← g3]; exact (h2 e he).2
    simp [Instr.lookup, run_underlying ht, MapKept.run_getObj_map h1, L.check w _ hx, g1, hv, Result.andThen]

theorem MapIs.store (L : Keys P kt K) (ht : P.underlying t = some (.map kt et)) {w : World} {B : Nat} {f : Value → Option Value} (h : MapIs K w B f) {x : Value} (hx : K x) (hn : f x = none) (v : Value) :
    ∃ w' : World, (Instr.mapUpdate t (.map (some B)) x v).run P w = .ok () w' ∧ MapIs K w' B (fun y => open Classical in if y = x then some v else f y) ∧
      w'.os = w.os ∧ w'.tape = w.tape ∧ w'.output = w.output ∧ w'.heap.size = w.heap.size ∧ ∀ k, k ≠ B → w'.heap[k]? = w.heap[k]? := by
  obtain ⟨es, clk, h1, h2, h3⟩ := h
  have hlt : B < w.heap.size := by
    rcases Nat.lt_or_ge B w.heap.size with h | h
    · exact h
    · rw [Array.getElem?_eq_none h] at h1; cases h1
  rcases L.find w hx es.toList (fun e he => (h2 e he).1) with ⟨g1, g2⟩ | ⟨j, e, g1, g2, g3⟩
  · refine ⟨{ w with heap := w.heap.setIfInBounds B (.map (es.push { key := x, val := v, born := clk }) (clk + 1)) }, ?_, ⟨es.push { key := x, val := v, born := clk }, clk + 1, ?_, ?_, ?_⟩, rfl, rfl, rfl, ?_, ?_⟩
    · simp [Instr.mapUpdate, run_underlying ht, MapKept.run_getObj_map h1, L.check w _ hx, g1, MapKept.run_setObj_map _ h1, Result.andThen]
    · simp [hlt]
    · intro e he
      simp only [Array.toList_push, List.mem_append, List.mem_singleton] at he
      rcases he with he | rfl
      · refine ⟨(h2 e he).1, ?_⟩
        simp only [if_neg (g2 e he)]
        exact (h2 e he).2
      · exact ⟨hx, by simp⟩
    · intro y u hy
      by_cases hyx : y = x
      · exact ⟨{ key := x, val := v, born := clk }, by simp, hyx.symm⟩
      · simp only [if_neg hyx] at hy
        obtain ⟨e, he, hk⟩ := h3 y u hy
        exact ⟨e, by simp [he], hk⟩
    · simp
    · intro k hk
      simp [Ne.symm hk]
  · have he : e ∈ es.toList := List.mem_of_getElem? g2
    have := (h2 e he).2
    rw [g3, hn] at this
    cases this
end

/-! ### A region in whatever order, by what holds of what has come up -/
section
variable {P : Program} {ops : Array Oper} {Q : Exit → Act → World → Prop} {md : Region.Mode}

theorem count_set {l : Array Bool} {i : Nat} (h : i < l.size) (hf : l.getD i true = false) : (l.setIfInBounds i true).toList.count false + 1 = l.toList.count false := by
  have e : l[i] = false := by simpa [Array.getD, h] using hf
  have h' : i < l.toList.length := by simpa using h
  rw [Array.toList_setIfInBounds, List.count_set h']
  have e' : l.toList[i] = false := by simpa using e
  have hpos : 0 < l.toList.count false := List.count_pos_iff.2 (by rw [← e']; exact List.getElem_mem h')
  have k1 : (if (false == false) = true then 1 else 0) = 1 := rfl
  have k2 : (if (true == false) = true then 1 else 0) = 0 := rfl
  rw [e', k1, k2]
  omega

theorem wpAny_inv (Inv : Array Bool → Act → World → Prop)
    (step : ∀ (listed : Array Bool) (a : Act) (w : World) (i : Nat), listed.size = ops.size → Inv listed a w → i ∈ Region.ready md ops listed → wpOp P ops Q i (Inv (listed.setIfInBounds i true)) a w)
    (done : ∀ (listed : Array Bool) (a : Act) (w : World), listed.size = ops.size → Inv listed a w → Region.ready md ops listed = [] → Q .normal a w) :
    ∀ (fuel : Nat) (listed : Array Bool) (a : Act) (w : World), listed.size = ops.size → listed.toList.count false ≤ fuel → Inv listed a w → wpAny P md ops Q fuel listed a w := by
  intro fuel
  induction fuel with
  | zero =>
    intro listed a w hs hc hi
    have hr : Region.ready md ops listed = [] := by
      unfold Region.ready
      rw [List.filter_eq_nil_iff]
      intro i hi'
      have hlt : i < listed.size := by rw [hs]; simpa using hi'
      have hne : listed.getD i true ≠ false := by
        intro h
        have e : listed[i] = false := by simpa [Array.getD, hlt] using h
        have : 0 < listed.toList.count false := List.count_pos_iff.2 (by rw [← e]; simp)
        omega
      simp at hne
      simp [hne]
    exact ⟨hr, done listed a w hs hi hr⟩
  | succ fuel ih =>
    intro listed a w hs hc hi
    refine ⟨fun hr => done listed a w hs hi hr, fun i hm => ?_⟩
    refine wpOp_mono (fun a' w' h' => ?_) (step listed a w i hs hi hm)
    have hm' := hm
    unfold Region.ready at hm'
    simp only [List.mem_filter, List.mem_range, Bool.and_eq_true, Bool.not_eq_true'] at hm'
    have := count_set (l := listed) (i := i) (by rw [hs]; exact hm'.1) hm'.2.1
    exact ih _ a' w' (by simpa using hs) (by omega) h'

/-- A region that draws its order, by an invariant. -/
theorem wp_region_inv {id : Nat} {a : Act} {w : World} (hm : P.follows .mixedOrders = true) (Inv : Array Bool → Act → World → Prop)
    (start : Inv (Array.replicate ops.size false) a w.drew)
    (step : ∀ (listed : Array Bool) (a : Act) (w : World) (i : Nat), listed.size = ops.size → Inv listed a w → i ∈ Region.ready .any ops listed → wpOp P ops Q i (Inv (listed.setIfInBounds i true)) a w)
    (done : ∀ (listed : Array Bool) (a : Act) (w : World), listed.size = ops.size → Inv listed a w → Region.ready .any ops listed = [] → Q .normal a w) :
    (Code.region id ops true).wp P Q a w :=
  wp_region_any hm (wpAny_inv Inv step done _ _ _ _ (by simp) (by simp) start)
end
end Go.Proofs.Ytookffaojlkfaaa

/- What happens: the map of the events' ways. -/
namespace Go.Proofs.Ytookffaojlkfaaa
open Go.RowKit

abbrev isU8 (x : Value) : Prop := ∃ n : Int, x = .int .u8 n
theorem keysU8 : Keys Try.prog 5 isU8 := keys_int .u8 Try.underlying5
noncomputable def insF (f : Value → Option Value) (k : Int) (v : Value) : Value → Option Value := fun y => open Classical in if y = .int .u8 k then some v else f y
theorem insF_at (f : Value → Option Value) (k j : Int) (v : Value) : insF f k v (.int .u8 j) = if j = k then some v else f (.int .u8 j) := by
  unfold insF
  by_cases h : j = k
  · subst h; simp
  · simp [h]
@[go_sem] theorem run_store_func (w : World) (a : Addr) (m : Mode) (g : Fn) (t : Array Value) (c : Array Value) : (store a (.func g t c) m).run Try.prog w = stored Try.prog w a (.func g t c) m := run_store Try.prog w a _ m rfl
/-- All stays but block B. -/
structure OnlyB (B : Nat) (w w' : World) : Prop where
  os : w'.os = w.os
  tape : w'.tape = w.tape
  output : w'.output = w.output
  size : w'.heap.size = w.heap.size
  same : ∀ k, k ≠ B → w'.heap[k]? = w.heap[k]?
theorem OnlyB.refl (B : Nat) (w : World) : OnlyB B w w := ⟨rfl, rfl, rfl, rfl, fun _ _ => rfl⟩
theorem OnlyB.trans {B : Nat} {x y z : World} (h : OnlyB B x y) (k : OnlyB B y z) : OnlyB B x z := ⟨k.os.trans h.os, k.tape.trans h.tape, k.output.trans h.output, k.size.trans h.size, fun i hi => (k.same i hi).trans (h.same i hi)⟩
theorem OnlyB.mv {B : Nat} {w w' : World} (h : OnlyB B w w') : Mv (fun k => k = B) w w' := ⟨h.os, h.tape, h.output, by rw [h.size]; omega, fun k _ hk => h.same k hk⟩
theorem Ext.trans_only {w w' w'' : World} {B : Nat} (e : Ext w w') (h : OnlyB B w' w'') (hB : w.heap.size ≤ B) : Ext w w'' := ⟨h.os.trans e.os, h.tape.trans e.tape, h.output.trans e.output, by rw [h.size]; exact e.size, fun k hk => (h.same k (by omega)).trans (e.block k hk)⟩
noncomputable def kindsF (b : Nat) : Value → Option Value := insF (insF (insF (insF (insF (fun _ => none) 1 (.func (.func 98) #[] #[])) 2 (.func (.func 102) #[] #[.pointer (some ⟨b, 0, none⟩)])) 3 (.func (.func 96) #[] #[.pointer (some ⟨b, 0, none⟩)])) 4 (.func (.func 96) #[] #[.pointer (some ⟨b, 0, none⟩)])) 5 (.func (.func 103) #[] #[])
theorem wpList_store {ops : Array Oper} {rest : List Oper} {o : Oper} {a : Act} {Q : Exit → Act → World → Prop} (w : World) (hg : o.guard = none) (m x v : Operand) (hop : o.op = Op.insert 87 m x v) (B : Nat) (f : Value → Option Value) (hm : a.eval m = .map (some B))
    (h : MapIs isU8 w B f) (n : Int) (val : Value) (hx : a.eval x = .int .u8 n) (hv : a.eval v = val) (hn : f (.int .u8 n) = none)
    (hK : ∀ w', OnlyB B w w' → MapIs isU8 w' B (insF f n val) → wpList Try.prog ops Q rest (a.put o.dst undef) w') : wpList Try.prog ops Q (o :: rest) a w := by
  refine wpList_plain hg fun K' hK' => ?_
  obtain ⟨w', hrun, r1, r2, r3, r4, r5, r6⟩ := h.store keysU8 Try.underlying87 ⟨n, rfl⟩ hn val
  unfold Oper.wp
  simp [execOp, hop, hm, hx, hv, hrun, Result.andThen]
  exact hK' _ _ (hK w' ⟨r2, r3, r4, r5, r6⟩ r1)
set_option maxRecDepth 100000 in
set_option maxHeartbeats 2000000 in
theorem kinds_any (w : World) : Calls Try.prog 71 #[] w fun r w' => ∃ B b, r = .returned (.map (some B)) ∧ Ext w w' ∧ MapIs isU8 w' B (kindsF b) ∧ w'.cell? ⟨b, 0, none⟩ = some (.func (.func 94) #[] #[]) ∧ Lt b w' := by
  go_enter Try.func71, Try.ntmps71
  go_upto_region 3 with (fail)
  obtain ⟨b, hb⟩ : ∃ b, w.heap.size = b := ⟨_, rfl⟩
  rw [hb]
  obtain ⟨W0, hW⟩ : ∃ W0, w.alloc (.cells #[.func (.func 94) #[] #[]] 109) = W0 := ⟨_, rfl⟩
  have e0 : Ext w W0 := by rw [← hW]; exact Ext.al (Ext.rf _) _
  have hc : W0.cell? ⟨b, 0, none⟩ = some (.func (.func 94) #[] #[]) := by rw [← hW, ← hb]; simp [go_sem]
  have hsz : W0.heap.size = b + 1 := by rw [← hW, ← hb]; simp
  rw [hW]
  clear hW
  obtain ⟨B, hB⟩ : ∃ B, W0.heap.size = B := ⟨_, rfl⟩
  obtain ⟨W1, hW⟩ : ∃ W1, W0.alloc (.map #[] 0) = W1 := ⟨_, rfl⟩
  have e1 : Ext W0 W1 := by rw [← hW]; exact Ext.al (Ext.rf _) _
  have hX : MapIs isU8 W1 B (fun _ => none) ∧ OnlyB B W1 W1 := ⟨by rw [← hW, ← hB]; exact MapIs.new W0, OnlyB.refl _ _⟩
  have hmm : ∀ t : TypeId, (Instr.makeMap t none).run Try.prog W0 = .ok (.map (some B)) W1 := fun t => by rw [run_makeMap, hB, hW]
  clear hW
  have HC := Lib.hid hc
  clear hc
  go_wp2_with (refine wpList_store _ rfl _ _ _ rfl _ _ rfl hX.1 _ _ rfl rfl (by simp [insF_at]) ?_; intro w' o' m'; replace hX := And.intro m' (hX.2.trans o'); clear o' m')
  obtain ⟨hM, hO⟩ := hX
  have hne : b ≠ B := by omega
  have e2 : Ext W0 _ := e1.trans_only hO (by omega)
  go_ret
  refine ⟨B, rfl, e0.tr e2, b, hM, (e2.cell (p := ⟨b, 0, none⟩) (by show b < _; omega)).trans HC.out, Nat.lt_of_lt_of_le (by show b < _; omega) e2.size⟩

end Go.Proofs.Ytookffaojlkfaaa

/- Step, the program's. -/
namespace Go.Proofs.Ytookffaojlkfaaa
open Go.RowKit

def SchSt1 (ops : Array Oper) : Prop := Region.noSelect ops = true ∧ takesB ops 5 [1, 2] [] = true ∧ Region.ready .any ops (don 5 [2, 1]) = [0] ∧ takesB ops 5 [3, 4] [0, 2, 1] = true ∧ Region.ready .any ops (don 5 [4, 3, 0, 2, 1]) = []
theorem schSchSt1 : SchSt1 ((Try.f36.body.bind (findR 1)).getD #[]) := ⟨by kernel_rfl, by kernel_rfl, by kernel_rfl, by kernel_rfl, by kernel_rfl⟩

def SchSt4 (ops : Array Oper) : Prop := Region.noSelect ops = true ∧ takesB ops 9 [0, 1, 3] [] = true ∧ Region.ready .any ops (don 9 [3, 1, 0]) = [2] ∧ Region.ready .any ops (don 9 [2, 3, 1, 0]) = [4] ∧ takesB ops 9 [5, 6, 7, 8] [4, 2, 3, 1, 0] = true ∧ Region.ready .any ops (don 9 [8, 7, 6, 5, 4, 2, 3, 1, 0]) = []
theorem schSchSt4 : SchSt4 ((Try.f36.body.bind (findR 4)).getD #[]) := ⟨by kernel_rfl, by kernel_rfl, by kernel_rfl, by kernel_rfl, by kernel_rfl, by kernel_rfl⟩

theorem MapIs.lt {K : Value → Prop} {w : World} {B : Nat} {f : Value → Option Value} (h : MapIs K w B f) : Lt B w := by
  obtain ⟨es, clk, h1, -⟩ := h
  exact (Array.getElem?_eq_some_iff.1 h1).1
theorem look_run {w : World} {B : Nat} {f : Value → Option Value} {n : Int} (h : MapIs isU8 w B f) (ρ : Operand → Value) (dst : Option Tmp) (x y : Operand) (ty : TypeId) (pos : String) (after : Array Edge) (g : Option (Nat × Bool)) (hx : ρ x = .map (some B)) (hy : ρ y = .int .u8 n) :
    (execOp ρ ⟨dst, .lookup 87 x y false, ty, pos, after, g⟩).run Try.prog w = .ok (.value ((f (.int .u8 n)).getD .nilFunc)) w := by
  have h1 := h.look keysU8 Try.underlying87 ⟨n, rfl⟩ .nilFunc (by simp [go_sem])
  simp [execOp, hx, hy, h1, Result.andThen]
theorem ld8_run {w : World} {B k : Nat} {n : Int} (h0 : w.cell? ⟨B, k, none⟩ = some (.int .u8 n)) (ρ : Operand → Value) (dst : Option Tmp) (x : Operand) (ty : TypeId) (pos : String) (after : Array Edge) (g : Option (Nat × Bool)) (hx : ρ x = .pointer (some ⟨B, k, none⟩)) :
    (execOp ρ ⟨dst, .load 5 x, ty, pos, after, g⟩).run Try.prog w = .ok (.value (.int .u8 n)) w := by
  simp only [execOp, hx]
  go_simp
theorem ldE_run {w : World} {B : Nat} {e : Ev} (h0 : EvAt w B e) (ρ : Operand → Value) (dst : Option Tmp) (x : Operand) (ty : TypeId) (pos : String) (after : Array Edge) (g : Option (Nat × Bool)) (hx : ρ x = .pointer (some ⟨B, 0, none⟩)) :
    (execOp ρ ⟨dst, .load 52 x, ty, pos, after, g⟩).run Try.prog w = .ok (.value (.agg #[.int .u8 e.k, .int .i64 e.n, .int .u32 e.t.a, .int .u32 e.t.b, .int .u16 e.t.c, .int .u16 e.t.d])) w := by
  obtain ⟨c0, c1, c2, c3, c4, c5⟩ := h0.cells
  have lB : Lt B w := h0.2
  simp only [execOp, hx]
  go_simp
theorem callv_run {f : FuncId} {caps : Array Value} (hg : ∀ args w, (callFunc f args).run Try.prog w = .ok (.enter f args) w) (ρ : Operand → Value) (dst : Option Tmp) (c x y : Operand) (tys : Array TypeId) (ty : TypeId) (pos : String) (after : Array Edge) (g : Option (Nat × Bool)) (u v : Value) (hc : ρ c = .func (.func f) #[] caps) (hx : ρ x = u) (hy : ρ y = v) (w : World) :
    (execOp ρ ⟨dst, .call ⟨.value c, #[x, y], tys⟩, ty, pos, after, g⟩).run Try.prog w = .ok (.enter f (#[u, v] ++ caps)) w := by
  simp [execOp, resolve, hc, hx, hy, Deferred.ofValue, invoke, Result.andThen, hg]
section
variable {P : Program} {ops : Array Oper} {C : Nat → Prop}
theorem callDM {R : Value → World → Prop} {Q : Act → World → Prop} {N k : Nat} {d : List Nat} {oi : Oper} {f : FuncId} {args : Array Value} {fuel : Nat} {a : Act} {w : World} (hi : ops[k]? = some oi) (hw : Region.wanted oi (yielded ops a.tmps) = true)
    (he : (execOp a.eval oi).run P w = .ok (.enter f args) w) (hc : Calls P f args w fun e w' => ∃ v, e = .returned v ∧ R v w' ∧ Mv C w w')
    (H : ∀ v w', Mv C w w' → R v w' → wpAnyK C P .any ops Q fuel (don N (k :: d)) (a.put oi.dst v) w') : stepK C P ops Q fuel N k d a w := by
  unfold stepK xOpK
  simp only [hi, hw, if_true, he]
  exact hc.mono fun e w' ⟨v, h1, h2, h3⟩ => ⟨v, h1, h3, H v w' h3 h2⟩
end
theorem eqin_nilfunc (w : World) (d : Nat) : (Op.equalIn (d + 1) 86 .nilFunc .nilFunc).run Try.prog w = .ok true w := by simp [Op.equalIn, run_underlying Try.underlying86]
theorem eqin_func_nil (w : World) (d : Nat) (g : Fn) (a caps : Array Value) : (Op.equalIn (d + 1) 86 (.func g a caps) .nilFunc).run Try.prog w = .ok false w := by simp [Op.equalIn, run_underlying Try.underlying86]
@[go_sem] theorem eq_nilfunc (w : World) : (binOp .eql 86 .nilFunc .nilFunc).run Try.prog w = .ok (.bool true) w := by
  simp only [binOp]
  simp [Op.equal, Op.maxDepth, eqin_nilfunc w 9999]
@[go_sem] theorem eq_func_nil (w : World) (g : Fn) (a caps : Array Value) : (binOp .eql 86 (.func g a caps) .nilFunc).run Try.prog w = .ok (.bool false) w := by
  simp only [binOp]
  simp [Op.equal, Op.maxDepth, eqin_func_nil w 9999]
inductive WayIs (e : Ev) (xs : List Ho) (w : World) : Value → Prop
  | no (h : kindH xs e = (xs, false)) : WayIs e xs w .nilFunc
  | yes (g : FuncId) (caps : Array Value) (hg : ∀ args w, (callFunc g args).run Try.prog w = .ok (.enter g args) w)
      (hc : MonoH xs e.t → ∀ (base : Nat) (v : Value) (W : World), Ext w W → OwnH W base v xs → base ≤ W.heap.size → Calls Try.prog g (#[v, .agg #[.int .u8 e.k, .int .i64 e.n, .int .u32 e.t.a, .int .u32 e.t.b, .int .u16 e.t.c, .int .u16 e.t.d]] ++ caps) W fun r w' => ∃ v', r = .returned (.tuple #[v', .bool (kindH xs e).2]) ∧ OwnH w' base v' (kindH xs e).1 ∧ Mv (fun k => base ≤ k) W w') :
      WayIs e xs w (.func (.func g) #[] caps)
theorem enters_acc : ∀ args w, (callFunc 98 args).run Try.prog w = .ok (.enter 98 args) w := enters_of Try.func98 (by kernel_rfl) rfl
theorem enters_del : ∀ args w, (callFunc 102 args).run Try.prog w = .ok (.enter 102 args) w := enters_of Try.func102 (by kernel_rfl) rfl
theorem enters_ov : ∀ args w, (callFunc 96 args).run Try.prog w = .ok (.enter 96 args) w := enters_of Try.func96 (by kernel_rfl) rfl
theorem enters_ki : ∀ args w, (callFunc 103 args).run Try.prog w = .ok (.enter 103 args) w := enters_of Try.func103 (by kernel_rfl) rfl

theorem way_of (e : Ev) (xs : List Ho) (b : Nat) (w : World) (hl : xs.length ≤ 1000) (hf : w.cell? ⟨b, 0, none⟩ = some (.func (.func 94) #[] #[])) (lb : Lt b w) : WayIs e xs w ((kindsF b (.int .u8 e.k)).getD .nilFunc) := by
  unfold kindsF
  simp only [insF_at]
  have hfE : ∀ W, Ext w W → W.cell? ⟨b, 0, none⟩ = some (.func (.func 94) #[] #[]) ∧ Lt b W := fun W x => ⟨(x.cell (p := ⟨b, 0, none⟩) lb).trans hf, Nat.lt_of_lt_of_le lb x.size⟩
  by_cases h5 : e.k = 5
  · rw [if_pos h5]
    have hk : kindH xs e = (killX xs e, zeT e.t) := by unfold kindH; simp [h5]
    refine .yes _ _ enters_ki fun _ base v W _ ho hb => ?_
    rw [hk]
    exact kill_any e base v xs W ho hl hb
  rw [if_neg h5]
  by_cases h4 : e.k = 4
  · rw [if_pos h4]
    have hk : kindH xs e = (overX xs e, xs.any (isH (zOf e))) := by unfold kindH; simp [h4]
    refine .yes _ _ enters_ov fun _ base v W x ho hb => ?_
    rw [hk]
    exact over_any e base b v xs W ho hl (hfE W x).1 (hfE W x).2 hb
  rw [if_neg h4]
  by_cases h3 : e.k = 3
  · rw [if_pos h3]
    have hk : kindH xs e = (overX xs e, xs.any (isH (zOf e))) := by unfold kindH; simp [h3]
    refine .yes _ _ enters_ov fun _ base v W x ho hb => ?_
    rw [hk]
    exact over_any e base b v xs W ho hl (hfE W x).1 (hfE W x).2 hb
  rw [if_neg h3]
  by_cases h2 : e.k = 2
  · rw [if_pos h2]
    have hk : kindH xs e = (xs, xs.any (isH (zOf e))) := by unfold kindH; simp [h2]
    refine .yes _ _ enters_del fun _ base v W x ho hb => ?_
    rw [hk]
    exact deliver_any e base b v xs W ho hl (hfE W x).1 (hfE W x).2
  rw [if_neg h2]
  by_cases h1 : e.k = 1
  · rw [if_pos h1]
    have hk : kindH xs e = (accX xs e, !okH xs e.t) := by unfold kindH; simp [h1]
    refine .yes _ _ enters_acc fun hm base v W _ ho hb => ?_
    rw [hk]
    exact accept_any e base v xs W ho hl hb hm
  rw [if_neg h1]
  exact .no (by unfold kindH; simp [h1, h2, h3, h4, h5])
theorem kinds_r (w : World) : Calls Try.prog 71 #[] w fun r w' => ∃ v, r = .returned v ∧ (∃ B b, v = .map (some B) ∧ MapIs isU8 w' B (kindsF b) ∧ w'.cell? ⟨b, 0, none⟩ = some (.func (.func 94) #[] #[]) ∧ Lt b w') ∧ Ext w w' :=
  (kinds_any w).mono fun r w' ⟨B, b, h1, h2, h3, h4, h5⟩ => ⟨_, h1, ⟨B, b, rfl, h3, h4, h5⟩, h2⟩
set_option maxRecDepth 100000 in
set_option maxHeartbeats 8000000 in
theorem step_any (e : Ev) (p : Option Addr) (xs : List Ho) (c : Nat) (w : World) (hs : SlH w p xs) (hl : xs.length ≤ 1000) :
    Calls Try.prog 36 #[.slice p xs.length c, .agg #[.int .u8 e.k, .int .i64 e.n, .int .u32 e.t.a, .int .u32 e.t.b, .int .u16 e.t.c, .int .u16 e.t.d]] w fun r w' => ∃ v', r = .returned (.tuple #[v', .bool (stepH xs e).2]) ∧ OwnH w' w.heap.size v' (stepH xs e).1 ∧ Ext w w' := by
  go_enter Try.func36, Try.ntmps36
  go_upto_region 1 with (fail)
  obtain ⟨W0, hW⟩ : ∃ W0, w.alloc (.cells #[.int .u8 e.k, .int .i64 e.n, .int .u32 e.t.a, .int .u32 e.t.b, .int .u16 e.t.c, .int .u16 e.t.d] 52) = W0 := ⟨_, rfl⟩
  have e0 : Ext w W0 := by rw [← hW]; exact Ext.al (Ext.rf _) _
  have he : EvAt W0 w.heap.size e := by rw [← hW]; unfold EvAt; simp [go_sem, Lt]
  have hsz : W0.heap.size = w.heap.size + 1 := by rw [← hW]; simp
  rw [hW]
  clear hW
  have s0 := hs.ext e0
  clear hs
  have hb0 : w.heap.size ≤ W0.heap.size := e0.size
  clear hsz
  generalize hbb : w.heap.size = B0 at *
  refine wp_region_K (fun _ => False) (by kernel_rfl) ?_
  obtain ⟨W1, hW1⟩ : ∃ W1, W0.drew = W1 := ⟨_, rfl⟩
  have g1 : Ext W0 W1 := by rw [← hW1]; exact Ext.dr (Ext.rf _)
  rw [hW1]
  clear hW1
  have he1 := he.ext g1
  refine withK (N := 5) (R := SchSt1) (E := ((Try.f36.body.bind (findR 1)).getD #[])) (by kernel_rfl) schSchSt1 (by kernel_rfl) fun hS => ?_
  have hT := hS.2.1
  refine takeD (N := 5) (k := 1) (v := .pointer (some ⟨B0, 0, none⟩)) hS.1 hT rfl (by kernel_rfl) (fun _ _ => by kernel_rfl) fun hT => ?_
  refine takeD (N := 5) (k := 2) (v := .int .u8 e.k) hS.1 hT rfl (by kernel_rfl) (loadK he1.cells.1 he1.2 (fun h => h) _ _ fun w' h => ld8_run h _ _ _ _ _ _ _ (by kernel_rfl)) fun hT => ?_
  refine soleD hS.2.2.1 (callD (R := fun v w' => ∃ B b, v = .map (some B) ∧ MapIs isU8 w' B (kindsF b) ∧ w'.cell? ⟨b, 0, none⟩ = some (.func (.func 94) #[] #[]) ∧ Lt b w') rfl rfl (by kernel_rfl) (kinds_r W1) fun v1 W2 g2 ⟨B, b, h1, hM, hc, lb⟩ => ?_)
  subst h1
  have hT := hS.2.2.2.1
  have way := way_of e xs b W2 hl hc lb
  have hMl := hM.lt
  refine takeD (N := 5) (k := 3) (v := (kindsF b (.int .u8 e.k)).getD .nilFunc) hS.1 hT rfl (by kernel_rfl) (fun w' hE => look_run (hM.keep (hE.same _ hMl (fun h => h))) _ _ _ _ _ _ _ _ (by kernel_rfl) (by kernel_rfl)) fun hT => ?_
  generalize (kindsF b (.int .u8 e.k)).getD .nilFunc = hv at way ⊢
  refine takeD (N := 5) (k := 4) (v := hv) hS.1 hT rfl (by kernel_rfl) (fun _ _ => by kernel_rfl) fun hT => ?_
  refine doneK hS.2.2.2.2 ?_
  clear hS hT hM hc lb hMl
  have E2 := e0.tr (g1.tr g2)
  have s2 := s0.ext (g1.tr g2)
  have he2 := he.ext (g1.tr g2)
  clear e0 g1 g2 s0 he he1
  have c1 := he2.cells.2.1
  have lB : Lt B0 W2 := he2.2
  have hb2 : w.heap.size ≤ W2.heap.size := E2.size
  rcases way with hno | ⟨g, caps, hg, hc⟩
  · have HX := Lib.hid (show stepH xs e = (xs, false) by unfold stepH; rw [hno]; simp)
    clear hno
    go_simp
    go_wp2_with (go_at_call 73; go_must (with_reducible refine (clone_H p xs c _ s2 hl).mono ?_); rintro r W4 ⟨v4, rfl, ho, g4⟩; have HW := Lib.hid ho; clear ho)
    exact bodyPost_ret (v := .tuple #[v4, .bool false]) (by simp [results, Try.results36, go_sem]) rfl ⟨v4, by rw [HX.out], by rw [HX.out]; exact ownsRow_le HW.out hb2, E2.tr g4⟩
  · cases hr : rightH xs
    · have HX := Lib.hid (show stepH xs e = (xs, false) by unfold stepH; rw [hr]; rfl)
      have HC := Lib.hid hc
      clear hc
      go_simp
      go_wp2_with (first | (go_at_call 43; go_must (with_reducible refine (righth_any p xs c _ s2 hl).mono ?_); rw [hr]; rintro r W3 ⟨rfl, g3⟩; have c1 := (g3.cell (p := ⟨B0, 1, none⟩) lB).trans c1; have lB : Lt B0 W3 := Nat.lt_of_lt_of_le lB g3.size) | (go_at_call 73; go_must (with_reducible refine (clone_H p xs c _ (s2.ext g3) hl).mono ?_); rintro r W4 ⟨v4, rfl, ho, g4⟩; have HW := Lib.hid ho; clear ho))
      exact bodyPost_ret (v := .tuple #[v4, .bool false]) (by simp [results, Try.results36, go_sem]) rfl ⟨v4, by rw [HX.out], by rw [HX.out]; exact ownsRow_le HW.out (Nat.le_trans hb2 g3.size), E2.tr (g3.tr g4)⟩
    cases ha : agB e.n
    · have HX := Lib.hid (show stepH xs e = (xs, false) by unfold stepH; rw [ha, Bool.and_false]; rfl)
      have HC := Lib.hid hc
      clear hc
      go_simp
      go_wp2_with (first | (go_at_call 43; go_must (with_reducible refine (righth_any p xs c _ s2 hl).mono ?_); rw [hr]; rintro r W3 ⟨rfl, g3⟩; have c1 := (g3.cell (p := ⟨B0, 1, none⟩) lB).trans c1; have lB : Lt B0 W3 := Nat.lt_of_lt_of_le lB g3.size) | (go_at_call 72; go_must (with_reducible refine (agent_any e.n _).mono ?_); rw [ha]; rintro r W9 ⟨rfl, rfl⟩) | (go_at_call 73; go_must (with_reducible refine (clone_H p xs c _ (s2.ext g3) hl).mono ?_); rintro r W4 ⟨v4, rfl, ho, g4⟩; have HW := Lib.hid ho; clear ho))
      exact bodyPost_ret (v := .tuple #[v4, .bool false]) (by simp [results, Try.results36, go_sem]) rfl ⟨v4, by rw [HX.out], by rw [HX.out]; exact ownsRow_le HW.out (Nat.le_trans hb2 g3.size), E2.tr (g3.tr g4)⟩
    · have HX := Lib.hid (show stepH xs e = kindH xs e by unfold stepH; rw [hr, ha]; rfl)
      have HC := Lib.hid (hc (mono_of e.t ((rightH_P xs).1 hr)))
      have HG := Lib.hid hg
      have HE := Lib.hid he2
      clear hc hg he2
      go_simp
      go_upto_region 4 with (first | (go_at_call 43; go_must (with_reducible refine (righth_any p xs c _ s2 hl).mono ?_); rw [hr]; rintro r W3 ⟨rfl, g3⟩; have c1 := (g3.cell (p := ⟨B0, 1, none⟩) lB).trans c1; have lB : Lt B0 W3 := Nat.lt_of_lt_of_le lB g3.size) | (go_at_call 72; go_must (with_reducible refine (agent_any e.n _).mono ?_); rw [ha]; rintro r W9 ⟨rfl, rfl⟩))
      have hb3 : w.heap.size ≤ W3.heap.size := Nat.le_trans hb2 g3.size
      have HE3 := HE.out.ext g3
      have E3 := E2.tr g3
      clear c1 HE
      refine wp_region_K (fun k => W3.heap.size ≤ k) (by kernel_rfl) ?_
      obtain ⟨W5, hW5⟩ : ∃ W5, W3.drew = W5 := ⟨_, rfl⟩
      have g5 : Ext W3 W5 := by rw [← hW5]; exact Ext.dr (Ext.rf _)
      rw [hW5]
      clear hW5
      have hnC : ¬ W3.heap.size ≤ B0 := fun h => Nat.not_lt.2 h HE3.2
      have HE5 := HE3.ext g5
      refine withK (N := 9) (R := SchSt4) (E := ((Try.f36.body.bind (findR 4)).getD #[])) (by kernel_rfl) schSchSt4 (by kernel_rfl) fun hS => ?_
      have hT := hS.2.1
      refine takeD (N := 9) (k := 0) (v := .func (.func g) #[] caps) hS.1 hT rfl (by kernel_rfl) (fun _ _ => by kernel_rfl) fun hT => ?_
      refine takeD (N := 9) (k := 1) (v := .slice p xs.length c) hS.1 hT rfl (by kernel_rfl) (fun _ _ => by kernel_rfl) fun hT => ?_
      refine takeD (N := 9) (k := 3) (v := .agg #[.int .u8 e.k, .int .i64 e.n, .int .u32 e.t.a, .int .u32 e.t.b, .int .u16 e.t.c, .int .u16 e.t.d]) hS.1 hT rfl (by kernel_rfl) (fun w' hE => ldE_run ⟨by rw [rowD_same (hE.same _ HE5.2 hnC)]; exact HE5.1, Nat.lt_of_lt_of_le HE5.2 hE.size⟩ _ _ _ _ _ _ _ (by kernel_rfl)) fun hT => ?_
      refine soleD hS.2.2.1 (callD (R := fun v w' => OwnH w' W5.heap.size v xs) rfl rfl (by kernel_rfl) ((clone_H p xs c W5 ((s2.ext g3).ext g5) hl).mono fun e w' ⟨v, h1, h2, h3⟩ => ⟨v, h1, h2, h3⟩) fun v1 W6 g6 o6 => ?_)
      refine soleD hS.2.2.2.1 (callDM (R := fun v w' => ∃ v', v = .tuple #[v', .bool (kindH xs e).2] ∧ OwnH w' W3.heap.size v' (kindH xs e).1) rfl rfl (callv_run HG.out _ _ _ _ _ _ _ _ _ _ v1 (.agg #[.int .u8 e.k, .int .i64 e.n, .int .u32 e.t.a, .int .u32 e.t.b, .int .u16 e.t.c, .int .u16 e.t.d]) (by kernel_rfl) (by kernel_rfl) (by kernel_rfl) W6) ((HC.out W3.heap.size v1 W6 (g3.tr (g5.tr g6)) (ownsRow_le o6 g5.size) (g5.tr g6).size).mono fun r w' ⟨v', h1, h2, h3⟩ => ⟨_, h1, ⟨v', rfl, h2⟩, h3⟩) fun v2 W7 m7 ⟨v', h1, o7⟩ => ?_)
      subst h1
      have hT := hS.2.2.2.2.1
      refine takeD (N := 9) (k := 5) (v := v') hS.1 hT rfl (by kernel_rfl) (fun _ _ => by kernel_rfl) fun hT => ?_
      refine takeD (N := 9) (k := 6) (v := .bool (kindH xs e).2) hS.1 hT rfl (by kernel_rfl) (fun _ _ => by kernel_rfl) fun hT => ?_
      refine takeD (N := 9) (k := 7) (v := v') hS.1 hT rfl (by kernel_rfl) (fun _ _ => by kernel_rfl) fun hT => ?_
      refine takeD (N := 9) (k := 8) (v := .bool (kindH xs e).2) hS.1 hT rfl (by kernel_rfl) (fun _ _ => by kernel_rfl) fun hT => ?_
      refine doneK hS.2.2.2.2.2 ?_
      have HO7 := Lib.hid o7
      have E7 : Ext w W7 := Mv.ext_of (E3.tr (g5.tr g6)) m7 (fun k h => Nat.le_trans hb3 h)
      clear hS hT o7 m7
      go_simp
      go_wp2
      exact bodyPost_ret (v := .tuple #[v', .bool (kindH xs e).2]) (by simp [results, Try.results36, go_sem]) rfl ⟨v', by rw [HX.out], by rw [HX.out]; exact ownsRow_le HO7.out hb3, E7⟩

end Go.Proofs.Ytookffaojlkfaaa

/- The document's with. -/
namespace Go.Proofs.Ytookffaojlkfaaa
open Go.RowKit
theorem appH_run {w : World} {base n : Nat} {v1 : Value} {l : List Value} {q : Option Addr} {ys : List Ho} {c2 : Nat} (h1 : w.ownsRow base 70 5 v1 n l) (h2 : SlH w q ys) (hn : n + ys.length ≤ 2000) (hb : base ≤ w.heap.size)
    (ρ : Operand → Value) (dst : Option Tmp) (x y : Operand) (ty : TypeId) (pos : String) (after : Array Edge) (g : Option (Nat × Bool)) (hx : ρ x = v1) (hy : ρ y = .slice q ys.length c2) :
    ∃ v' w', (execOp ρ ⟨dst, .call { callee := .builtin .append, args := #[x, y], argTypes := #[50, 50] }, ty, pos, after, g⟩).run Try.prog w = .ok (.value v') w' ∧ w'.ownsRow base 70 5 v' (n + ys.length) (l ++ flH ys) ∧ w.grownBy w' v1.ownBlock := by
  obtain ⟨i0, hi, hz0, hz, hz2⟩ := info_parts info_H
  cases q with
  | none =>
    have h0 : ys = [] := h2.nil_of
    subst h0
    refine ⟨v1, w, ?_, by simpa [flH] using h1, ⟨rfl, rfl, rfl, Nat.le_refl _, fun _ _ _ => rfl⟩⟩
    rcases h1.2 with ⟨rfl, h0⟩ | ⟨gg, cap, cur, rfl, hg, hgb, h1, h2, h3, h4⟩
    · simp only [execOp, hx, hy]
      go_simp
    · simp only [execOp, hx, hy]
      go_simp
  | some a =>
    obtain ⟨v', w', hr, ho, hg, -, -⟩ := run_append_own_at (P := Try.prog) w base 50 ty 70 i0 (.agg #[.int .u32 0, .int .u32 0, .int .u16 0, .int .u16 0, .int .i64 0]) 5 24 Try.underlying50 hi hz0 hz hz2 rfl (by decide) v1 n l h1 a ys.length c2 (flH ys) (by rw [flH_len]) (h2.news (Ext.rf w)) (flH_one ys) (by unfold maxLen; omega) (by omega) hb
    refine ⟨v', w', ?_, ho, hg⟩
    simp [execOp, resolve, invoke, builtin, hx, hy, hr, Result.andThen]
theorem grown_mvH {w w' : World} {base n : Nat} {v : Value} {l : List Value} (h : w.ownsRow base 70 5 v n l) (hg : w.grownBy w' v.ownBlock) : Mv (fun k => base ≤ k) w w' := Mv.of_grown hg fun r e => .inl (ownBlock_ge h r e)
theorem appDH {ops : Array Oper} {Q : Act → World → Prop} {N k : Nat} {d : List Nat} {dst : Option Tmp} {x y : Operand} {ty : TypeId} {pos : String} {after : Array Edge} {fuel : Nat} {a : Act} {w : World} {base n : Nat} {v1 : Value} {l : List Value} {q : Option Addr} {ys : List Ho} {c2 : Nat}
    (hi : ops[k]? = some ⟨dst, .call { callee := .builtin .append, args := #[x, y], argTypes := #[50, 50] }, ty, pos, after, none⟩) (hx : a.eval x = v1) (hy : a.eval y = .slice q ys.length c2) (h1 : w.ownsRow base 70 5 v1 n l) (h2 : SlH w q ys) (hn : n + ys.length ≤ 2000) (hb : base ≤ w.heap.size)
    (H : ∀ v' w', w.grownBy w' v1.ownBlock → Mv (fun k => base ≤ k) w w' → w'.ownsRow base 70 5 v' (n + ys.length) (l ++ flH ys) → wpAnyK (fun k => base ≤ k) Try.prog .any ops Q fuel (don N (k :: d)) (a.put dst v') w') : stepK (fun k => base ≤ k) Try.prog ops Q fuel N k d a w := by
  obtain ⟨v', w', hr, ho, hg⟩ := appH_run h1 h2 hn hb a.eval dst x y ty pos after none hx hy
  exact makeD hi rfl hr (grown_mvH h1 hg) (H v' w' hg (grown_mvH h1 hg) ho)
theorem lo_runH {p : Option Addr} {n k c : Nat} (hk : k ≤ n) (hc : n ≤ c) (hp : p = none → c = 0 ∨ k = 0) (ρ : Operand → Value) (dst : Option Tmp) (x y : Operand) (ty : TypeId) (pos : String) (after : Array Edge) (g : Option (Nat × Bool)) (hx : ρ x = .slice p n c) (hy : ρ y = .int .i64 (k : Nat)) (w : World) :
    (execOp ρ ⟨dst, .slice 50 x none (some y) none, ty, pos, after, g⟩).run Try.prog w = .ok (.value (.slice p k c)) w := by
  have h1 : ¬ (k : Int) < 0 := by omega
  have h2 : (k : Int) ≤ c := by omega
  cases p with
  | none =>
    simp only [execOp, hx, hy]
    go_simp
  | some a =>
    obtain ⟨b, o, s⟩ := a
    simp only [execOp, hx, hy]
    go_simp
theorem SlH.take {w : World} {p : Option Addr} {xs : List Ho} (h : SlH w p xs) (k : Nat) : SlH w p (xs.take k) := fun j hj => by
  rw [List.length_take] at hj
  obtain ⟨b, off, hp, hb, c0, c1, c2, c3, c4⟩ := h j (by omega)
  have e : (xs.take k)[j]'(by rw [List.length_take]; exact hj) = xs[j]'(by omega) := by simp
  exact ⟨b, off, hp, hb, by rw [e]; exact c0, by rw [e]; exact c1, by rw [e]; exact c2, by rw [e]; exact c3, by rw [e]; exact c4⟩
theorem hi_runH {p : Option Addr} {xs : List Ho} {k c : Nat} {w0 : World} (hs : SlH w0 p xs) (hk : k ≤ xs.length) (hc : xs.length ≤ c) :
    ∃ q c2, SlH w0 q (xs.drop k) ∧ ∀ (ρ : Operand → Value) (dst : Option Tmp) (x y : Operand) (ty : TypeId) (pos : String) (after : Array Edge) (g : Option (Nat × Bool)), ρ x = .slice p xs.length c → ρ y = .int .i64 (k : Nat) → ∀ w, (execOp ρ ⟨dst, .slice 50 x (some y) none none, ty, pos, after, g⟩).run Try.prog w = .ok (.value (.slice q (xs.drop k).length c2)) w := by
  rw [List.length_drop]
  have h1 : ¬ (k : Int) < 0 := by omega
  have h2 : (k : Int) ≤ xs.length := by omega
  have h3 : (xs.length : Int) ≤ c := by omega
  cases p with
  | none =>
    have h0 : xs = [] := hs.nil_of
    subst h0
    obtain rfl : k = 0 := by simpa using hk
    refine ⟨none, c, by simpa using hs, fun ρ dst x y ty pos after g hx hy w => ?_⟩
    simp only [execOp, hx, hy]
    go_simp
  | some a =>
    by_cases h0 : xs = []
    · subst h0
      obtain rfl : k = 0 := by simpa using hk
      refine ⟨some a, c, SlH.nil _ _, fun ρ dst x y ty pos after g hx hy w => ?_⟩
      obtain ⟨b, o, s⟩ := a
      by_cases hc0 : c = 0
      · subst hc0
        simp only [execOp, hx, hy]
        go_simp
      · have hc1 : ¬ (c : Int) = 0 := by omega
        simp only [execOp, hx, hy]
        go_simp
    obtain ⟨b, o, hp0, -⟩ := hs 0 (List.length_pos_iff.2 h0)
    cases hp0
    by_cases hcc : c = k
    · subst hcc
      have hl : xs.length = c := by omega
      refine ⟨some ⟨b, o, none⟩, 0, ?_, fun ρ dst x y ty pos after g hx hy w => ?_⟩
      · rw [List.drop_of_length_le (by omega)]; exact SlH.nil _ _
      · simp only [execOp, hx, hy]
        go_simp
    · refine ⟨some ⟨b, o + k * 5, none⟩, c - k, ?_, fun ρ dst x y ty pos after g hx hy w => ?_⟩
      rotate_left
      · simp only [execOp, hx, hy]
        go_simp
      · intro j hj
        rw [List.length_drop] at hj
        obtain ⟨b', off, hp, hb, c0, c1, c2, c3, c4⟩ := hs (k + j) (by omega)
        cases hp
        have e : (xs.drop k)[j]'(by rw [List.length_drop]; exact hj) = xs[k + j]'(by omega) := by simp
        have e2 : o + k * 5 + j * 5 = o + (k + j) * 5 := by omega
        exact ⟨b, o + k * 5, rfl, hb, by rw [e, e2]; exact c0, by rw [e, e2]; exact c1, by rw [e, e2]; exact c2, by rw [e, e2]; exact c3, by rw [e, e2]; exact c4⟩


def SchWi (ops : Array Oper) : Prop := Region.noSelect ops = true ∧ takesB ops 12 [0, 1, 2, 4, 7, 8, 9] [] = true ∧ Region.ready .any ops (don 12 [9, 8, 7, 4, 2, 1, 0]) = [3, 5] ∧ Region.ready .any ops (don 12 [3, 9, 8, 7, 4, 2, 1, 0]) = [5] ∧ Region.ready .any ops (don 12 [5, 9, 8, 7, 4, 2, 1, 0]) = [3] ∧ don 12 [3, 5, 9, 8, 7, 4, 2, 1, 0] = don 12 [5, 3, 9, 8, 7, 4, 2, 1, 0] ∧ Region.ready .any ops (don 12 [5, 3, 9, 8, 7, 4, 2, 1, 0]) = [6] ∧ Region.ready .any ops (don 12 [6, 5, 3, 9, 8, 7, 4, 2, 1, 0]) = [10] ∧ takesB ops 12 [11] [10, 6, 5, 3, 9, 8, 7, 4, 2, 1, 0] = true ∧ Region.ready .any ops (don 12 [11, 10, 6, 5, 3, 9, 8, 7, 4, 2, 1, 0]) = []
theorem schWi : SchWi ((Try.f76.body.bind (findR 4)).getD #[]) := ⟨by kernel_rfl, by kernel_rfl, by kernel_rfl, by kernel_rfl, by kernel_rfl, by kernel_rfl, by kernel_rfl, by kernel_rfl, by kernel_rfl, by kernel_rfl⟩
def HoAt (w : World) (b : Nat) (z : Ho) : Prop := rowD w b = #[.int .u32 z.t.a, .int .u32 z.t.b, .int .u16 z.t.c, .int .u16 z.t.d, .int .i64 z.n] ∧ Lt b w
theorem HoAt.cells {w : World} {b : Nat} {z : Ho} (h : HoAt w b z) : w.cell? ⟨b, 0, none⟩ = some (.int .u32 z.t.a) ∧ w.cell? ⟨b, 1, none⟩ = some (.int .u32 z.t.b) ∧ w.cell? ⟨b, 2, none⟩ = some (.int .u16 z.t.c) ∧ w.cell? ⟨b, 3, none⟩ = some (.int .u16 z.t.d) ∧ w.cell? ⟨b, 4, none⟩ = some (.int .i64 z.n) := by
  refine ⟨?_, ?_, ?_, ?_, ?_⟩ <;> rw [cell_rowD, h.1] <;> rfl
theorem HoAt.ext {w w' : World} {b : Nat} {z : Ho} (h : HoAt w b z) (x : Ext w w') : HoAt w' b z := ⟨by rw [rowD_same (x.block b h.2)]; exact h.1, Nat.lt_of_lt_of_le h.2 x.size⟩
theorem ldH_run {w : World} {B : Nat} {z : Ho} (h0 : HoAt w B z) (ρ : Operand → Value) (dst : Option Tmp) (x : Operand) (ty : TypeId) (pos : String) (after : Array Edge) (g : Option (Nat × Bool)) (hx : ρ x = .pointer (some ⟨B, 0, none⟩)) :
    (execOp ρ ⟨dst, .load 70 x, ty, pos, after, g⟩).run Try.prog w = .ok (.value (.agg #[.int .u32 z.t.a, .int .u32 z.t.b, .int .u16 z.t.c, .int .u16 z.t.d, .int .i64 z.n])) w := by
  obtain ⟨c0, c1, c2, c3, c4⟩ := h0.cells
  have lB : Lt B w := h0.2
  simp only [execOp, hx]
  go_simp
theorem SlH.one {w : World} {b : Nat} {x : Ho} (h : w.heap[b]? = some (.cells #[.int .u32 x.t.a, .int .u32 x.t.b, .int .u16 x.t.c, .int .u16 x.t.d, .int .i64 x.n] 70)) : SlH w (some ⟨b, 0, none⟩) [x] := fun k hk => by
  obtain rfl : k = 0 := by simpa using hk
  have hb := (Array.getElem?_eq_some_iff.1 h).1
  have e : rowD w b = #[.int .u32 x.t.a, .int .u32 x.t.b, .int .u16 x.t.c, .int .u16 x.t.d, .int .i64 x.n] := by unfold rowD; rw [h]
  refine ⟨b, 0, rfl, hb, ?_, ?_, ?_, ?_, ?_⟩ <;> rw [cell_rowD, e] <;> rfl
theorem bldH_run {z : Ho} (ρ : Operand → Value) (dst : Option Tmp) (x : Operand) (ty : TypeId) (pos : String) (after : Array Edge) (g : Option (Nat × Bool)) (hx : ρ x = .agg #[.int .u32 z.t.a, .int .u32 z.t.b, .int .u16 z.t.c, .int .u16 z.t.d, .int .i64 z.n]) (w : World) :
    (execOp ρ ⟨dst, .buildSlice 50 1 #[(0, x)], ty, pos, after, g⟩).run Try.prog w = .ok (.value (.slice (some ⟨w.heap.size, 0, none⟩) 1 1)) (w.alloc (.cells #[.int .u32 z.t.a, .int .u32 z.t.b, .int .u16 z.t.c, .int .u16 z.t.d, .int .i64 z.n] 70)) := by
  simp only [execOp]
  go_simp
theorem own_takeH (p : Option Addr) (xs : List Ho) (k c : Nat) (w : World) (hs : SlH w p xs) (hk : k ≤ xs.length) (hl : xs.length ≤ 1000) :
    Calls Try.prog 75 #[.slice p k c] w fun e w' => ∃ v, e = .returned v ∧ w'.ownsRow w.heap.size 70 5 v k (flH (xs.take k)) ∧ Ext w w' := by
  have e : (xs.take k).length = k := by rw [List.length_take]; omega
  have h := own_H p (xs.take k) c w (hs.take k) (by omega)
  rw [e] at h
  exact h
def lowH (xs : List Ho) (t : Tu) (k : Nat) : Prop := ∀ j, j < k → ∀ x, xs[j]? = some x → geH t x = false
theorem atH_at {xs : List Ho} {t : Tu} {k : Nat} {x : Ho} (hx : xs[k]? = some x) (h : lowH xs t k) (hg : geH t x = true) : atH xs t = k := by
  unfold atH
  have hk : k < xs.length := (List.getElem?_eq_some_iff.1 hx).1
  refine (List.findIdx_eq hk).2 ⟨?_, fun j hj => ?_⟩
  · rw [List.getElem?_eq_getElem hk] at hx; cases hx; exact hg
  · exact h j hj _ (List.getElem?_eq_getElem (by omega))
theorem atH_end {xs : List Ho} {t : Tu} {k : Nat} (hk : ¬ k < xs.length) (h : lowH xs t k) : atH xs t = xs.length := by
  unfold atH
  refine List.findIdx_eq_length.2 fun x hx => ?_
  obtain ⟨j, hj, hjx⟩ := List.getElem_of_mem hx
  exact h j (by omega) x (by rw [List.getElem?_eq_getElem hj, hjx])
set_option maxRecDepth 100000 in
set_option maxHeartbeats 8000000 in
theorem withH_any (z : Ho) (p : Option Addr) (xs : List Ho) (c : Nat) (w : World) (hs : SlH w p xs) (hl : xs.length ≤ 1000) (hc : xs.length ≤ c) (hr : ∀ x ∈ xs, TuR x.t) (hrt : TuR z.t) :
    Calls Try.prog 76 #[.slice p xs.length c, .agg #[.int .u32 z.t.a, .int .u32 z.t.b, .int .u16 z.t.c, .int .u16 z.t.d, .int .i64 z.n]] w fun e w' => ∃ v, e = .returned v ∧ w'.ownsRow w.heap.size 70 5 v (insAt xs (atH xs z.t) z).length (flH (insAt xs (atH xs z.t) z)) ∧ Ext w w' := by
  have HRR := Lib.hid hr
  have HRT := Lib.hid hrt
  have HS0 := Lib.hid hs
  clear hr hrt
  go_enter Try.func76, Try.ntmps76
  go_upto_region 1 with (fail)
  obtain ⟨W0, hW⟩ : ∃ W0, w.alloc (.cells #[.int .u32 z.t.a, .int .u32 z.t.b, .int .u16 z.t.c, .int .u16 z.t.d, .int .i64 z.n] 70) = W0 := ⟨_, rfl⟩
  have e0 : Ext w W0 := by rw [← hW]; exact Ext.al (Ext.rf _) _
  have s0 := hs.ext e0
  have hz : HoAt W0 w.heap.size z := by rw [← hW]; unfold HoAt; simp [go_sem, Lt]
  rw [hW]
  clear hW hs
  obtain ⟨B, hB⟩ : ∃ B, w.heap.size = B := ⟨_, rfl⟩
  rw [hB] at hz ⊢
  have HBB := Lib.hid hB
  clear hB
  go_wp2
  go_loopw [5] (fun a wr => ∃ k : Nat, k ≤ xs.length ∧ a = .int .i64 k ∧ lowH xs z.t k ∧ Ext W0 wr) (fun a _ => xs.length - (intOf a).toNat)
  case atStart => exact ⟨0, Nat.zero_le _, rfl, (fun j hj => absurd hj (Nat.not_lt_zero _)), Ext.rf _⟩
  case round =>
    obtain ⟨k, hk, rfl, hG, hE0⟩ := hrel
    have hE := e0.tr hE0
    have hT := hz.ext hE0
    obtain ⟨d0, d1, d2, d3, d4⟩ := hT.cells
    have lB : Lt B wr := hT.2
    have hE0' := Lib.hid hE0
    clear hT
    by_cases hlt : k < xs.length
    · have hil : (k : Int) < xs.length := by omega
      obtain ⟨b, off, rfl, lb, c0, c1, c2, c3, c4⟩ := (s0.ext hE0) k hlt
      obtain ⟨x, hx⟩ : ∃ x, xs[k] = x := ⟨_, rfl⟩
      have hx' : xs[k]? = some x := by rw [List.getElem?_eq_getElem hlt, hx]
      have HX := Lib.hid (HRR.out x (by rw [← hx]; exact List.getElem_mem hlt))
      rw [hx] at c0 c1 c2 c3 c4
      have lbb : Lt b wr := lb
      cases hgb : ltB x.t z.t
      · have hge : geH z.t x = true := by
          unfold ltB at hgb; unfold geH
          have := of_decide_eq_false hgb
          exact decide_eq_true (by omega)
        have hat := Lib.hid (atH_at hx' hG hge)
        have HGB := Lib.hid hgb
        clear hG hx hx' lb hE0 hgb hge
        go_upto_region 2 with (fail)
        refine wp_region_later (by kernel_rfl) (by kernel_rfl) ?_; (repeat (go_big_quiet_step ((go_at_call 49; exact calls_later (rless_any _ _ HX.out HRT.out _))))); refine wpQuiet_nil ?_; intro d
        have hd := later_ext d
        try rw [HGB.out]
        go_upto_region 4 with (fail)
        refine wp_region_K (fun k => w.heap.size + 1 ≤ k) (by kernel_rfl) ?_
        obtain ⟨W5, hW5⟩ : ∃ W5, (later d).drew = W5 := ⟨_, rfl⟩
        have g5 : Ext wr W5 := by rw [← hW5]; exact Ext.dr hd
        rw [hW5]
        clear hW5
        have e5 := hE.tr g5
        have s5 := HS0.out.ext e5
        have z5 := (hz.ext hE0'.out).ext g5
        have hb5 : w.heap.size + 1 ≤ W5.heap.size := by have := z5.2; have := HBB.out; unfold Lt at *; omega
        have hkl : k ≤ xs.length := by omega
        refine withK (N := 12) (R := SchWi) (E := ((Try.f76.body.bind (findR 4)).getD #[])) (by kernel_rfl) schWi (by kernel_rfl) fun hS => ?_
        have hT := hS.2.1
        obtain ⟨q, c2, sq0, hq⟩ := hi_runH HS0.out (k := k) hkl hc
        refine takeD (N := 12) (k := 0) (v := .slice (some ⟨b, off, none⟩) xs.length c) hS.1 hT rfl (by kernel_rfl) (fun _ _ => by kernel_rfl) fun hT => ?_
        refine takeD (N := 12) (k := 1) (v := .int .i64 (k : Nat)) hS.1 hT rfl (by kernel_rfl) (fun _ _ => by kernel_rfl) fun hT => ?_
        refine takeD (N := 12) (k := 2) (v := .slice (some ⟨b, off, none⟩) k c) hS.1 hT rfl (by kernel_rfl) (fun w' _ => lo_runH hkl hc (fun e => by cases e) _ _ _ _ _ _ _ _ (by kernel_rfl) (by kernel_rfl) w') fun hT => ?_
        refine takeD (N := 12) (k := 4) (v := .agg #[.int .u32 z.t.a, .int .u32 z.t.b, .int .u16 z.t.c, .int .u16 z.t.d, .int .i64 z.n]) hS.1 hT rfl (by kernel_rfl) (fun w' hM => ldH_run ⟨by rw [rowD_same (hM.same _ z5.2 (by have := HBB.out; omega))]; exact z5.1, Nat.lt_of_lt_of_le z5.2 hM.size⟩ _ _ _ _ _ _ _ (by kernel_rfl)) fun hT => ?_
        refine takeD (N := 12) (k := 7) (v := .slice (some ⟨b, off, none⟩) xs.length c) hS.1 hT rfl (by kernel_rfl) (fun _ _ => by kernel_rfl) fun hT => ?_
        refine takeD (N := 12) (k := 8) (v := .int .i64 (k : Nat)) hS.1 hT rfl (by kernel_rfl) (fun _ _ => by kernel_rfl) fun hT => ?_
        refine takeD (N := 12) (k := 9) (v := .slice q (xs.drop k).length c2) hS.1 hT rfl (by kernel_rfl) (fun w' _ => hq _ _ _ _ _ _ _ _ (by kernel_rfl) (by kernel_rfl) w') fun hT => ?_
        refine forkM (R := fun v w' => w'.ownsRow (w.heap.size + 1) 70 5 v k (flH (xs.take k))) (V := fun b => .slice (some ⟨b, 0, none⟩) 1 1) (o := .cells #[.int .u32 z.t.a, .int .u32 z.t.b, .int .u16 z.t.c, .int .u16 z.t.d, .int .i64 z.n] 70) hS.2.2.1 hS.2.2.2.1 hS.2.2.2.2.1 hS.2.2.2.2.2.1 rfl rfl (fun _ => rfl) (fun _ => rfl) (fun _ => by kernel_rfl) (fun _ _ => by kernel_rfl)
          (fun w' => bldH_run (z := z) _ _ _ _ _ _ _ (by kernel_rfl) w') (fun _ w' => bldH_run (z := z) _ _ _ _ _ _ _ (by kernel_rfl) w')
          (fun w' e => (own_takeH (some ⟨b, off, none⟩) xs k c w' (s5.ext e) hkl hl).mono fun e2 w'' ⟨v, h1, h2, h3⟩ => ⟨v, h1, ownsRow_le h2 (Nat.le_trans hb5 e.size), h3⟩) (fun v w1 w2 h e => own_ext h e) (fun _ _ => by kernel_rfl) ?_
        intro v1 bx W6 g6 o6 hbx
        have sx : SlH W6 (some ⟨bx, 0, none⟩) [z] := SlH.one hbx
        have hb6 := Nat.le_trans hb5 g6.size
        refine soleD hS.2.2.2.2.2.2.1 (appDH (v1 := v1) (q := some ⟨bx, 0, none⟩) (ys := [z]) (c2 := 1) rfl (by kernel_rfl) (by kernel_rfl) o6 sx (by simp; omega) hb6 fun v7 W7 gr7 m7 o7 => ?_)
        have sq7 : SlH W7 q (xs.drop k) := sq0.ext (Mv.ext_of (e5.tr g6) m7 (fun k h => by omega))
        refine soleD hS.2.2.2.2.2.2.2.1 (appDH (v1 := v7) (q := q) (ys := xs.drop k) (c2 := c2) rfl (by kernel_rfl) (by kernel_rfl) o7 sq7 (by simp <;> omega) (Nat.le_trans hb6 m7.size) fun v8 W8 gr8 m8 o8 => ?_)
        have hT := hS.2.2.2.2.2.2.2.2.1
        refine takeD (N := 12) (k := 11) (v := v8) hS.1 hT rfl (by kernel_rfl) (fun _ _ => by kernel_rfl) fun hT => ?_
        refine doneK hS.2.2.2.2.2.2.2.2.2 ?_
        have E8 : Ext w W8 := Mv.ext_of (e5.tr g6) (m7.trans m8) (fun k h => by omega)
        have HF := Lib.hid (show k + [z].length + (xs.drop k).length = (insAt xs (atH xs z.t) z).length ∧ flH (xs.take k) ++ flH [z] ++ flH (xs.drop k) = flH (insAt xs (atH xs z.t) z) by
          rw [hat.out]
          refine ⟨by rw [insAt_len, List.length_drop]; simp <;> omega, ?_⟩
          unfold insAt flH; simp)
        have HO8 := Lib.hid (ownsRow_le o8 (Nat.le_succ w.heap.size))
        clear hS hT o6 o7 o8 m7 m8 gr7 gr8
        go_simp
        go_wp2
        exact bodyPost_ret (v := v8) (by simp [results, Try.results76, go_sem]) rfl ⟨v8, rfl, by rw [← HF.out.1, ← HF.out.2]; exact HO8.out, E8⟩
      · have HN := Lib.hid (show lowH xs z.t (k + 1) by
          intro j hj y hy
          by_cases hjk : j < k
          · exact hG j hjk y hy
          · obtain rfl : j = k := by omega
            rw [hx'] at hy; cases hy
            unfold ltB at hgb; unfold geH
            have := of_decide_eq_true hgb
            exact decide_eq_false (by omega))
        have HGB := Lib.hid hgb
        clear hG hx hx' lb hE0 hgb
        go_upto_region 2 with (fail)
        refine wp_region_later (by kernel_rfl) (by kernel_rfl) ?_; (repeat (go_big_quiet_step ((go_at_call 49; exact calls_later (rless_any _ _ HX.out HRT.out _))))); refine wpQuiet_nil ?_; intro d
        have hd := later_ext d
        try rw [HGB.out]
        go_wp2
        go_roundw
        case rel => exact ⟨k + 1, by omega, by go_num, HN.out, hE0'.out.tr hd⟩
        case measure => simp [intOf]; omega
    · have hil : ¬ ((k : Int) < xs.length) := by omega
      have hat := Lib.hid (atH_end hlt hG)
      obtain rfl : k = xs.length := by omega
      clear hG hE0 hil
      go_upto_region 2 with (fail)
      refine wp_region_later (by kernel_rfl) (by kernel_rfl) ?_; (repeat (go_big_quiet_step (fail))); refine wpQuiet_nil ?_; intro d
      have hd := later_ext d
      go_upto_region 4 with (fail)
      refine wp_region_K (fun k => w.heap.size + 1 ≤ k) (by kernel_rfl) ?_
      obtain ⟨W5, hW5⟩ : ∃ W5, (later d).drew = W5 := ⟨_, rfl⟩
      have g5 : Ext wr W5 := by rw [← hW5]; exact Ext.dr hd
      rw [hW5]
      clear hW5
      have e5 := hE.tr g5
      have s5 := HS0.out.ext e5
      have z5 := (hz.ext hE0'.out).ext g5
      have hb5 : w.heap.size + 1 ≤ W5.heap.size := by have := z5.2; have := HBB.out; unfold Lt at *; omega
      have hkl : xs.length ≤ xs.length := by omega
      refine withK (N := 12) (R := SchWi) (E := ((Try.f76.body.bind (findR 4)).getD #[])) (by kernel_rfl) schWi (by kernel_rfl) fun hS => ?_
      have hT := hS.2.1
      obtain ⟨q, c2, sq0, hq⟩ := hi_runH HS0.out (k := xs.length) hkl hc
      refine takeD (N := 12) (k := 0) (v := .slice p xs.length c) hS.1 hT rfl (by kernel_rfl) (fun _ _ => by kernel_rfl) fun hT => ?_
      refine takeD (N := 12) (k := 1) (v := .int .i64 (xs.length : Nat)) hS.1 hT rfl (by kernel_rfl) (fun _ _ => by kernel_rfl) fun hT => ?_
      refine takeD (N := 12) (k := 2) (v := .slice p xs.length c) hS.1 hT rfl (by kernel_rfl) (fun w' _ => lo_runH hkl hc (fun e => by subst e; have := s5.nil_of; subst this; exact .inr rfl) _ _ _ _ _ _ _ _ (by kernel_rfl) (by kernel_rfl) w') fun hT => ?_
      refine takeD (N := 12) (k := 4) (v := .agg #[.int .u32 z.t.a, .int .u32 z.t.b, .int .u16 z.t.c, .int .u16 z.t.d, .int .i64 z.n]) hS.1 hT rfl (by kernel_rfl) (fun w' hM => ldH_run ⟨by rw [rowD_same (hM.same _ z5.2 (by have := HBB.out; omega))]; exact z5.1, Nat.lt_of_lt_of_le z5.2 hM.size⟩ _ _ _ _ _ _ _ (by kernel_rfl)) fun hT => ?_
      refine takeD (N := 12) (k := 7) (v := .slice p xs.length c) hS.1 hT rfl (by kernel_rfl) (fun _ _ => by kernel_rfl) fun hT => ?_
      refine takeD (N := 12) (k := 8) (v := .int .i64 (xs.length : Nat)) hS.1 hT rfl (by kernel_rfl) (fun _ _ => by kernel_rfl) fun hT => ?_
      refine takeD (N := 12) (k := 9) (v := .slice q (xs.drop xs.length).length c2) hS.1 hT rfl (by kernel_rfl) (fun w' _ => hq _ _ _ _ _ _ _ _ (by kernel_rfl) (by kernel_rfl) w') fun hT => ?_
      refine forkM (R := fun v w' => w'.ownsRow (w.heap.size + 1) 70 5 v xs.length (flH (xs.take xs.length))) (V := fun b => .slice (some ⟨b, 0, none⟩) 1 1) (o := .cells #[.int .u32 z.t.a, .int .u32 z.t.b, .int .u16 z.t.c, .int .u16 z.t.d, .int .i64 z.n] 70) hS.2.2.1 hS.2.2.2.1 hS.2.2.2.2.1 hS.2.2.2.2.2.1 rfl rfl (fun _ => rfl) (fun _ => rfl) (fun _ => by kernel_rfl) (fun _ _ => by kernel_rfl)
        (fun w' => bldH_run (z := z) _ _ _ _ _ _ _ (by kernel_rfl) w') (fun _ w' => bldH_run (z := z) _ _ _ _ _ _ _ (by kernel_rfl) w')
        (fun w' e => (own_takeH p xs xs.length c w' (s5.ext e) hkl hl).mono fun e2 w'' ⟨v, h1, h2, h3⟩ => ⟨v, h1, ownsRow_le h2 (Nat.le_trans hb5 e.size), h3⟩) (fun v w1 w2 h e => own_ext h e) (fun _ _ => by kernel_rfl) ?_
      intro v1 bx W6 g6 o6 hbx
      have sx : SlH W6 (some ⟨bx, 0, none⟩) [z] := SlH.one hbx
      have hb6 := Nat.le_trans hb5 g6.size
      refine soleD hS.2.2.2.2.2.2.1 (appDH (v1 := v1) (q := some ⟨bx, 0, none⟩) (ys := [z]) (c2 := 1) rfl (by kernel_rfl) (by kernel_rfl) o6 sx (by simp; omega) hb6 fun v7 W7 gr7 m7 o7 => ?_)
      have sq7 : SlH W7 q (xs.drop xs.length) := sq0.ext (Mv.ext_of (e5.tr g6) m7 (fun k h => by omega))
      refine soleD hS.2.2.2.2.2.2.2.1 (appDH (v1 := v7) (q := q) (ys := xs.drop xs.length) (c2 := c2) rfl (by kernel_rfl) (by kernel_rfl) o7 sq7 (by simp <;> omega) (Nat.le_trans hb6 m7.size) fun v8 W8 gr8 m8 o8 => ?_)
      have hT := hS.2.2.2.2.2.2.2.2.1
      refine takeD (N := 12) (k := 11) (v := v8) hS.1 hT rfl (by kernel_rfl) (fun _ _ => by kernel_rfl) fun hT => ?_
      refine doneK hS.2.2.2.2.2.2.2.2.2 ?_
      have E8 : Ext w W8 := Mv.ext_of (e5.tr g6) (m7.trans m8) (fun k h => by omega)
      have HF := Lib.hid (show xs.length + [z].length + (xs.drop xs.length).length = (insAt xs (atH xs z.t) z).length ∧ flH (xs.take xs.length) ++ flH [z] ++ flH (xs.drop xs.length) = flH (insAt xs (atH xs z.t) z) by
        rw [hat.out]
        refine ⟨by rw [insAt_len, List.length_drop]; simp <;> omega, ?_⟩
        unfold insAt flH; simp)
      have HO8 := Lib.hid (ownsRow_le o8 (Nat.le_succ w.heap.size))
      clear hS hT o6 o7 o8 m7 m8 gr7 gr8
      go_simp
      go_wp2
      exact bodyPost_ret (v := v8) (by simp [results, Try.results76, go_sem]) rfl ⟨v8, rfl, by rw [← HF.out.1, ← HF.out.2]; exact HO8.out, E8⟩

end Go.Proofs.Ytookffaojlkfaaa

/- The document's without. -/
namespace Go.Proofs.Ytookffaojlkfaaa
open Go.RowKit

theorem ho_one (x : Ho) : ∀ u ∈ x.cl, u.oneCell' = true := by
  intro u hu
  unfold Ho.cl at hu
  simp only [List.mem_cons, List.not_mem_nil, or_false] at hu
  rcases hu with rfl | rfl | rfl | rfl | rfl <;> rfl
theorem cell_ho_new (W : World) (x : Ho) (t : TypeId) : ∀ j u, x.cl[j]? = some u → (W.alloc (.cells #[.int .u32 x.t.a, .int .u32 x.t.b, .int .u16 x.t.c, .int .u16 x.t.d, .int .i64 x.n] t)).cell? ((⟨W.heap.size, 0, none⟩ : Addr).add j) = some u := by
  intro j u hu
  have hj : j < 5 := (List.getElem?_eq_some_iff.1 hu).1
  have e : (⟨W.heap.size, 0, none⟩ : Addr).add j = ⟨W.heap.size, j, none⟩ := by unfold Addr.add; split <;> simp_all
  rw [e, cell_rowD, rowD_new, ← hu]
  obtain rfl | rfl | rfl | rfl | rfl : j = 0 ∨ j = 1 ∨ j = 2 ∨ j = 3 ∨ j = 4 := by omega
  all_goals rfl
def kepN (so : Ho → Bool) (xs : List Ho) (k : Nat) : List Ho := (xs.take k).filter so
theorem kepN_yes (so : Ho → Bool) (xs : List Ho) (k : Nat) (x : Ho) (h : k < xs.length) (hx : xs[k] = x) (hs : so x = true) : kepN so xs (k + 1) = kepN so xs k ++ [x] := by
  unfold kepN
  rw [List.take_succ_eq_append_getElem h, List.filter_append, hx]
  simp [hs]
theorem kepN_no (so : Ho → Bool) (xs : List Ho) (k : Nat) (x : Ho) (h : k < xs.length) (hx : xs[k] = x) (hs : so x = false) : kepN so xs (k + 1) = kepN so xs k := by
  unfold kepN
  rw [List.take_succ_eq_append_getElem h, List.filter_append, hx]
  simp [hs]
theorem kepN_len (so : Ho → Bool) (xs : List Ho) (k : Nat) : (kepN so xs k).length ≤ xs.length := by
  unfold kepN
  exact Nat.le_trans (List.length_filter_le _ _) (List.length_take_le' _ _)
theorem neqT_run {s t : Tu} {q : Bool} (h : eqT s t = q) (ρ : Operand → Value) (dst : Option Tmp) (x y : Operand) (ty : TypeId) (pos : String) (after : Array Edge) (g : Option (Nat × Bool)) (hx : ρ x = tu s.a s.b s.c s.d) (hy : ρ y = tu t.a t.b t.c t.d) (w : World) :
    (execOp ρ ⟨dst, .binOp .neq 26 x y 26, ty, pos, after, g⟩).run Try.prog w = .ok (.value (.bool (!q))) w := by
  subst h
  simp only [execOp, hx, hy]
  go_simp
  try (unfold eqT; repeat' split)
  all_goals simp_all

set_option maxRecDepth 100000 in
set_option maxHeartbeats 8000000 in
theorem wou_any (t : Tu) (k : Int) (p : Option Addr) (xs : List Ho) (c : Nat) (w : World) (hs : SlH w p xs) (hl : xs.length ≤ 1000) :
    Calls Try.prog 77 #[.slice p xs.length c, tu t.a t.b t.c t.d, .int .i64 k, .bool false] w fun e w' => ∃ v, e = .returned v ∧ w'.ownsRow w.heap.size 70 5 v (xs.filter (fun x => !eqH t x)).length (flH (xs.filter (fun x => !eqH t x))) ∧ Ext w w' := by
  obtain ⟨i0, hi, hz0, hz1, hz2⟩ := info_parts info_H
  go_enter Try.func77, Try.ntmps77
  go_upto_region 1 with (fail)
  obtain ⟨W0, hW⟩ : ∃ W0, w.alloc (.cells #[.int .u32 t.a, .int .u32 t.b, .int .u16 t.c, .int .u16 t.d] 26) = W0 := ⟨_, rfl⟩
  have e0 : Ext w W0 := by rw [← hW]; exact Ext.al (Ext.rf _) _
  have s0 := hs.ext e0
  have ht : TuAt W0 w.heap.size t := by rw [← hW]; unfold TuAt; simp [go_sem, Lt]
  have hsz : w.heap.size ≤ W0.heap.size := e0.size
  rw [hW]
  clear hW hs
  go_wp2
  go_loopw [9, 10] (fun v a wr => ∃ q : Nat, q ≤ xs.length ∧ a = .int .i64 q ∧ wr.ownsRow W0.heap.size 70 5 v (kepN (fun x => !eqH t x) xs q).length (flH (kepN (fun x => !eqH t x) xs q)) ∧ Ext W0 wr) (fun _ a _ => xs.length - (intOf a).toNat)
  case atStart => exact ⟨0, Nat.zero_le _, rfl, World.ownsRow_nil _ _ _ _, Ext.rf _⟩
  case round =>
    obtain ⟨q, hq, rfl, hy, hE0⟩ := hrel
    have hE := e0.tr hE0
    have hT := ht.ext hE0
    obtain ⟨d0, d1, d2, d3⟩ := hT.cells
    have lB : Lt w.heap.size wr := hT.2
    have hE0' := Lib.hid hE0
    clear hT
    by_cases hlt : q < xs.length
    · have hil : (q : Int) < xs.length := by omega
      obtain ⟨b, off, rfl, hb, c0, c1, c2, c3, c4⟩ := (s0.ext hE0) q hlt
      have lbb : Lt b wr := hb
      obtain ⟨x, hx⟩ : ∃ x, xs[q] = x := ⟨_, rfl⟩
      rw [hx] at c0 c1 c2 c3 c4
      have HY := Lib.hid hy
      have hlen := kepN_len (fun x => !eqH t x) xs q
      have hbw := hE.size
      clear hy hb hE0
      by_cases hk : eqT x.t t = true
      · have hso : (fun x => !eqH t x) x = false := by show (!eqT x.t t) = false; rw [hk]; rfl
        have hkd := hk
        have HQ := Lib.hid hkd
        clear hkd
        have n1 := kepN_no (fun x => !eqH t x) xs q x hlt hx hso
        have HN1 := Lib.hid n1
        clear n1 hx hk hso
        go_upto_region 5 with (fail)
        refine wp_region_later (by kernel_rfl) (by kernel_rfl) ?_; (repeat (go_big_quiet_step (fail)))
        refine wpQuiet_val (v := .bool false) (by kernel_rfl) (neqT_run HQ.out _ _ _ _ _ _ _ _ (by kernel_rfl) (by kernel_rfl)) ?_
        go_simp
        (repeat (go_big_quiet_step (fail)))
        refine wpQuiet_nil ?_; intro d
        have hd := later_ext d
        go_wp2
        go_roundw
        case rel => exact ⟨q + 1, by omega, by go_num, by rw [HN1.out]; exact own_ext HY.out hd, hE0'.out.tr hd⟩
        case measure => simp [intOf]; omega
      · have hk := (Bool.not_eq_true _).mp hk
        have hso : (fun x => !eqH t x) x = true := by show (!eqT x.t t) = true; rw [hk]; rfl
        have hkd := hk
        have HQ := Lib.hid hkd
        clear hkd
        have n1 := kepN_yes (fun x => !eqH t x) xs q x hlt hx hso
        have HN1 := Lib.hid n1
        clear n1 hx hk hso
        go_upto_region 5 with (fail)
        refine wp_region_later (by kernel_rfl) (by kernel_rfl) ?_; (repeat (go_big_quiet_step (fail)))
        refine wpQuiet_val (v := .bool true) (by kernel_rfl) (neqT_run HQ.out _ _ _ _ _ _ _ _ (by kernel_rfl) (by kernel_rfl)) ?_
        go_simp
        (repeat (go_big_quiet_step (fail)))
        refine wpQuiet_nil ?_; intro d
        have hd := later_ext d
        obtain ⟨W5, hW5⟩ : ∃ W5, later d = W5 := ⟨_, rfl⟩
        rw [hW5] at hd ⊢
        clear hW5
        have c0 := (hd.cell (p := ⟨b, _, none⟩) lbb).trans c0
        have c1 := (hd.cell (p := ⟨b, _, none⟩) lbb).trans c1
        have c2 := (hd.cell (p := ⟨b, _, none⟩) lbb).trans c2
        have c3 := (hd.cell (p := ⟨b, _, none⟩) lbb).trans c3
        have c4 := (hd.cell (p := ⟨b, _, none⟩) lbb).trans c4
        have lbb : Lt b W5 := Nat.lt_of_lt_of_le lbb hd.size
        have HOY := Lib.hid (own_ext HY.out hd)
        have E5 := hE0'.out.tr hd
        have hsz5 := E5.size
        clear d0 d1 d2 d3 lB hE hd
        go_wp2_with ((at_builtin; go_must (refine wpList_append_own_at _ rfl _ _ 50 rfl W0.heap.size 70 i0 (.agg #[.int .u32 0, .int .u32 0, .int .u16 0, .int .u16 0, .int .i64 0]) 5 24 Try.underlying50 hi hz0 hz1 hz2 rfl (by decide) u9 _ _ rfl (HOY.out.alloc _) ⟨W5.heap.size, 0, none⟩ 1 1 x.cl rfl rfl (cell_ho_new _ _ _) (ho_one x) (by unfold maxLen; omega) (by omega) (by simp; omega) ?_); intro v' w3 hown' hgrow _ hat; have HOW := Lib.hid hown'; have HG := Lib.hid hgrow; have HAT := Lib.hid hat; clear hown' hgrow hat))
        go_roundw
        case rel =>
          refine ⟨q + 1, by omega, by go_num, ?_, Mv.ext_of (E5.tr (Ext.al (Ext.rf _) _)) (Mv.of_grown (C := fun k => W0.heap.size ≤ k) HG.out fun r e => .inl (ownBlock_ge HOY.out r e)) (fun k h => h)⟩
          rw [HN1.out, List.length_append, flH_snoc]; exact HOW.out
        case measure => simp [intOf]; omega
    · have hil : ¬ ((q : Int) < xs.length) := by omega
      have HY := Lib.hid hy
      have HE := Lib.hid (show kepN (fun x => !eqH t x) xs q = xs.filter (fun x => !eqH t x) by unfold kepN; rw [List.take_of_length_le (by omega)])
      clear hy
      go_wp2
      refine bodyPost_ret (v := u9) (by simp [results, Try.results77, go_sem]) rfl ⟨u9, rfl, ?_, hE⟩
      rw [← HE.out]; exact ownsRow_le HY.out hsz

set_option maxRecDepth 100000 in
set_option maxHeartbeats 8000000 in
theorem wok_any (t : Tu) (k : Int) (p : Option Addr) (xs : List Ho) (c : Nat) (w : World) (hs : SlH w p xs) (hl : xs.length ≤ 1000) :
    Calls Try.prog 77 #[.slice p xs.length c, tu t.a t.b t.c t.d, .int .i64 k, .bool true] w fun e w' => ∃ v, e = .returned v ∧ w'.ownsRow w.heap.size 70 5 v (xs.filter (fun x => !isN k x)).length (flH (xs.filter (fun x => !isN k x))) ∧ Ext w w' := by
  obtain ⟨i0, hi, hz0, hz1, hz2⟩ := info_parts info_H
  go_enter Try.func77, Try.ntmps77
  go_upto_region 1 with (fail)
  obtain ⟨W0, hW⟩ : ∃ W0, w.alloc (.cells #[.int .u32 t.a, .int .u32 t.b, .int .u16 t.c, .int .u16 t.d] 26) = W0 := ⟨_, rfl⟩
  have e0 : Ext w W0 := by rw [← hW]; exact Ext.al (Ext.rf _) _
  have s0 := hs.ext e0
  have ht : TuAt W0 w.heap.size t := by rw [← hW]; unfold TuAt; simp [go_sem, Lt]
  have hsz : w.heap.size ≤ W0.heap.size := e0.size
  rw [hW]
  clear hW hs
  go_wp2
  go_loopw [9, 10] (fun v a wr => ∃ q : Nat, q ≤ xs.length ∧ a = .int .i64 q ∧ wr.ownsRow W0.heap.size 70 5 v (kepN (fun x => !isN k x) xs q).length (flH (kepN (fun x => !isN k x) xs q)) ∧ Ext W0 wr) (fun _ a _ => xs.length - (intOf a).toNat)
  case atStart => exact ⟨0, Nat.zero_le _, rfl, World.ownsRow_nil _ _ _ _, Ext.rf _⟩
  case round =>
    obtain ⟨q, hq, rfl, hy, hE0⟩ := hrel
    have hE := e0.tr hE0
    have hT := ht.ext hE0
    obtain ⟨d0, d1, d2, d3⟩ := hT.cells
    have lB : Lt w.heap.size wr := hT.2
    have hE0' := Lib.hid hE0
    clear hT
    by_cases hlt : q < xs.length
    · have hil : (q : Int) < xs.length := by omega
      obtain ⟨b, off, rfl, hb, c0, c1, c2, c3, c4⟩ := (s0.ext hE0) q hlt
      have lbb : Lt b wr := hb
      obtain ⟨x, hx⟩ : ∃ x, xs[q] = x := ⟨_, rfl⟩
      rw [hx] at c0 c1 c2 c3 c4
      have HY := Lib.hid hy
      have hlen := kepN_len (fun x => !isN k x) xs q
      have hbw := hE.size
      clear hy hb hE0
      by_cases hk : (x.n == k) = true
      · have hso : (fun x => !isN k x) x = false := by show (!(x.n == k)) = false; rw [hk]; rfl
        have hkd := hk
        have hkn : (x.n != k) = false := by rw [bne, hkd]; rfl
        have n1 := kepN_no (fun x => !isN k x) xs q x hlt hx hso
        have HN1 := Lib.hid n1
        clear n1 hx hk hso
        go_upto_region 5 with (fail)
        refine wp_region_later (by kernel_rfl) (by kernel_rfl) ?_; (repeat (go_big_quiet_step (fail)))
        refine wpQuiet_nil ?_; intro d
        have hd := later_ext d
        go_wp2
        go_roundw
        case rel => exact ⟨q + 1, by omega, by go_num, by rw [HN1.out]; exact own_ext HY.out hd, hE0'.out.tr hd⟩
        case measure => simp [intOf]; omega
      · have hk := (Bool.not_eq_true _).mp hk
        have hso : (fun x => !isN k x) x = true := by show (!(x.n == k)) = true; rw [hk]; rfl
        have hkd := hk
        have hkn : (x.n != k) = true := by rw [bne, hkd]; rfl
        have n1 := kepN_yes (fun x => !isN k x) xs q x hlt hx hso
        have HN1 := Lib.hid n1
        clear n1 hx hk hso
        go_upto_region 5 with (fail)
        refine wp_region_later (by kernel_rfl) (by kernel_rfl) ?_; (repeat (go_big_quiet_step (fail)))
        refine wpQuiet_nil ?_; intro d
        have hd := later_ext d
        obtain ⟨W5, hW5⟩ : ∃ W5, later d = W5 := ⟨_, rfl⟩
        rw [hW5] at hd ⊢
        clear hW5
        have c0 := (hd.cell (p := ⟨b, _, none⟩) lbb).trans c0
        have c1 := (hd.cell (p := ⟨b, _, none⟩) lbb).trans c1
        have c2 := (hd.cell (p := ⟨b, _, none⟩) lbb).trans c2
        have c3 := (hd.cell (p := ⟨b, _, none⟩) lbb).trans c3
        have c4 := (hd.cell (p := ⟨b, _, none⟩) lbb).trans c4
        have lbb : Lt b W5 := Nat.lt_of_lt_of_le lbb hd.size
        have HOY := Lib.hid (own_ext HY.out hd)
        have E5 := hE0'.out.tr hd
        have hsz5 := E5.size
        clear d0 d1 d2 d3 lB hE hd
        go_wp2_with ((at_builtin; go_must (refine wpList_append_own_at _ rfl _ _ 50 rfl W0.heap.size 70 i0 (.agg #[.int .u32 0, .int .u32 0, .int .u16 0, .int .u16 0, .int .i64 0]) 5 24 Try.underlying50 hi hz0 hz1 hz2 rfl (by decide) u9 _ _ rfl (HOY.out.alloc _) ⟨W5.heap.size, 0, none⟩ 1 1 x.cl rfl rfl (cell_ho_new _ _ _) (ho_one x) (by unfold maxLen; omega) (by omega) (by simp; omega) ?_); intro v' w3 hown' hgrow _ hat; have HOW := Lib.hid hown'; have HG := Lib.hid hgrow; have HAT := Lib.hid hat; clear hown' hgrow hat))
        go_roundw
        case rel =>
          refine ⟨q + 1, by omega, by go_num, ?_, Mv.ext_of (E5.tr (Ext.al (Ext.rf _) _)) (Mv.of_grown (C := fun k => W0.heap.size ≤ k) HG.out fun r e => .inl (ownBlock_ge HOY.out r e)) (fun k h => h)⟩
          rw [HN1.out, List.length_append, flH_snoc]; exact HOW.out
        case measure => simp [intOf]; omega
    · have hil : ¬ ((q : Int) < xs.length) := by omega
      have HY := Lib.hid hy
      have HE := Lib.hid (show kepN (fun x => !isN k x) xs q = xs.filter (fun x => !isN k x) by unfold kepN; rw [List.take_of_length_le (by omega)])
      clear hy
      go_wp2
      refine bodyPost_ret (v := u9) (by simp [results, Try.results77, go_sem]) rfl ⟨u9, rfl, ?_, hE⟩
      rw [← HE.out]; exact ownsRow_le HY.out hsz

end Go.Proofs.Ytookffaojlkfaaa
