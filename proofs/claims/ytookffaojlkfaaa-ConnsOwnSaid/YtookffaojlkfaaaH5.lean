/- A tuple's bytes. -/
import Derived.Test.YtookffaojlkfaaaH4
import Derived.Test.YtookffaojlkfaaaHW
set_option linter.unusedSimpArgs false
set_option linter.unusedVariables false
namespace Go.Proofs.Ytookffaojlkfaaa
open Go.RowKit

def partN (x : Int × Int) : List Int := byN x.1 x.2.toNat
def tb (t : Tu) : List Int := (partsL t).flatMap partN
/-- A variable holds a row of twelve that is being filled. -/
def BAt (W : World) (Bv Br : Nat) (bs : List Int) : Prop := W.cell? ⟨Bv, 0, none⟩ = some (.slice (some ⟨Br, 0, none⟩) bs.length 12) ∧ frzD W Bv = (0, 0) ∧ Lt Bv W ∧ ∃ cur : Array Value, W.heap[Br]? = some (.cells cur 5 (0, 0)) ∧ cur.size = 12 ∧ cur.toList.take bs.length = bs.map (Value.int .u8)
theorem BAt.same {A B : World} {Bv Br : Nat} {bs : List Int} (h : BAt A Bv Br bs) (hs : A.heap.size ≤ B.heap.size) (h1 : B.heap[Bv]? = A.heap[Bv]?) (h2 : B.heap[Br]? = A.heap[Br]?) : BAt B Bv Br bs := by
  obtain ⟨a1, a2, a3, cur, a4, a5, a6⟩ := h
  exact ⟨by rw [cell_rowD, rowD_same h1, ← cell_rowD]; exact a1, by unfold frzD at a2 ⊢; rw [h1]; exact a2, Nat.lt_of_lt_of_le a3 hs, cur, by rw [h2]; exact a4, a5, a6⟩
theorem BAt.push {W : World} {Bv Br L : Nat} {bs bs' : List Int} {v : Int} (hne : Bv ≠ Br) (h : BAt W Bv Br bs) (hL : bs.length = L) (h12 : L < 12) (hb : bs ++ [v] = bs') : BAt ((W.setCells Br (0 + L * 1) [.int .u8 v]).setCell ⟨Bv, 0, none⟩ (.slice (some ⟨Br, 0, none⟩) (L + 1) 12)) Bv Br bs' := by
  obtain ⟨a1, a2, a3, cur, a4, a5, a6⟩ := h
  subst hL hb
  have hl : bs.length + 1 = (bs ++ [v]).length := by simp
  rw [show 0 + bs.length * 1 = bs.length by omega]
  have e1 : (W.setCells Br bs.length [.int .u8 v]) = W.setCell ⟨Br, bs.length, none⟩ (.int .u8 v) := rfl
  rw [e1]
  refine ⟨?_, by rw [frzD_setCell, frzD_setCell]; exact a2, by rw [Lt_setCell, Lt_setCell]; exact a3, cur.setIfInBounds bs.length (.int .u8 v), ?_, by simpa using a5, ?_⟩
  · rw [← hl]
    have a7 : (W.setCell ⟨Br, bs.length, none⟩ (.int .u8 v)).cell? ⟨Bv, 0, none⟩ = some (.slice (some ⟨Br, 0, none⟩) bs.length 12) := by
      rw [World.cell?_setCell_other _ _ _ _ (fun e => hne (by first | exact congrArg Addr.block e | exact (congrArg Addr.block e).symm))]
      exact a1
    exact World.cell?_setCell_same _ _ _ a7
  · simp only [World.setCell]
    rw [Array.getElem?_modify, if_neg (by simpa using hne), Array.getElem?_modify, if_pos rfl, a4]
    rfl
  · have hlt : bs.length < cur.toList.length := by simpa [a5] using h12
    rw [Array.toList_setIfInBounds, ← hl, List.take_add_one, List.take_set_of_le (Nat.le_refl _), a6, List.getElem?_set_self hlt]
    simp
def zrow : Array Value := Array.replicate 12 (Value.int .u8 0)
theorem mk12 (w : World) : (Instr.makeSlice 104 (.int .i64 0) (.int .i64 12)).run Try.prog w = .ok (.slice (some ⟨w.heap.size, 0, none⟩) 0 12) (w.alloc (.cells zrow 5)) := by kernel_rfl
attribute [local go_sem] Oper.semAt_some
set_option maxRecDepth 100000 in
set_option maxHeartbeats 8000000 in
theorem bytes_any (t : Tu) (hc : t.c % 4294967296 = t.c) (hd : t.d % 4294967296 = t.d) (w : World) :
    Calls Try.prog 115 #[tu t.a t.b t.c t.d] w fun e w' => ∃ b, e = .returned (.slice (some ⟨b, 0, none⟩) 12 12) ∧ SlB w' (some ⟨b, 0, none⟩) (tb t) ∧ Ext w w' := by
  refine (callsIn_wide (n := 5)).1 ?_
  refine callsIn_of_wp_marks Try.func115 rfl trivial ?_ rfl
  simp only [Try.ntmps115, List.size_toArray, List.length_cons, List.length_nil, Nat.reduceAdd, Nat.reduceSub, Array.replicate_succ, Array.replicate_zero, List.push_toArray, List.append_toArray, List.nil_append, List.cons_append]
  refine wpIn_wide.2 ?_
  have mk := mk12
  go_wp2_with (go_at_call 122; (with_reducible refine (parts_any t _).mono ?_); rintro e w2 ⟨rfl, rfl⟩)
  obtain ⟨W2, hW2⟩ : ∃ W2, ((((w.alloc (.cells #[.int .u32 t.a, .int .u32 t.b, .int .u16 t.c, .int .u16 t.d] 26)).alloc (.cells zrow 5)).alloc (.cells #[.slice (some ⟨w.heap.size + 1, 0, none⟩) 0 12] 104)).alloc (.cells #[.int .u32 t.a, .int .u32 t.b, .int .u16 t.c, .int .u16 t.d] 26)) = W2 := ⟨_, rfl⟩
  have g2 : Ext w W2 := by rw [← hW2]; exact Ext.al (Ext.al (Ext.al (Ext.al (Ext.rf _) _) _) _) _
  have hsz2 : W2.heap.size = w.heap.size + 4 := by rw [← hW2]; simp
  have ht2 : TuAt W2 (w.heap.size + 3) t := ⟨by rw [← hW2]; simp [go_sem], by unfold Lt; omega⟩
  have hB2 : BAt W2 (w.heap.size + 2) (w.heap.size + 1) [] := by
    refine ⟨by rw [← hW2]; simp [go_sem], by rw [← hW2]; simp [go_sem], by unfold Lt; omega, zrow, ?_, rfl, rfl⟩
    rw [← hW2]
    rw [Below.heap_alloc _ _ _ (by simp), Below.heap_alloc _ _ _ (by simp)]
    have := World.alloc_heap_new (w.alloc (.cells #[.int .u32 t.a, .int .u32 t.b, .int .u16 t.c, .int .u16 t.d] 26)) (.cells zrow 5)
    rwa [World.size_alloc] at this
  rw [hW2]
  clear hW2 mk
  refine (wpIn_wide (n := 5)).1 ?_
  refine wpIn_range rfl (by omega) (gf := 126) (lb := #[.pointer (some ⟨w.heap.size + 3, 0, none⟩)]) rfl trivial enters_parts
    (parts_iter _ t hc hd W2 (w.heap.size + 3) (fun k => k = w.heap.size + 1 ∨ k = w.heap.size + 2) ht2 (fun k e => by omega))
    (fun k e => e.elim) (fun k e => by omega) (fun _ => rfl)
    (fun i W => BAt W (w.heap.size + 2) (w.heap.size + 1) (((partsL t).take i).flatMap partN)) (fun _ _ => False)
    (fun i A B h hm => h.same hm.size (hm.same _ h.2.2.1 (by rintro (h | h | h) <;> first | exact h.elim | omega)) (hm.same _ (Nat.lt_of_lt_of_le (Nat.lt_succ_self _) (Nat.le_of_lt h.2.2.1)) (by rintro (h | h | h) <;> first | exact h.elim | omega)))
    (fun _ _ _ h _ => h) hB2
    (fun x a' W => a' = { tmps := #[tu t.a t.b t.c t.d, .pointer (some ⟨w.heap.size, 0, none⟩), .slice none 0 0, .pointer (some ⟨w.heap.size + 2, 0, none⟩), .int .u32 x.1, .int .i64 x.2, .slice (some ⟨w.heap.size + 1, 0, none⟩) 0 12, tu t.a t.b t.c t.d, .func (.func 126) #[] #[.pointer (some ⟨w.heap.size + 3, 0, none⟩)], .int .u32 x.1, .int .i64 x.2, undef, undef, undef, undef, undef, undef, undef, undef, undef, undef, undef, undef, undef, undef, undef], defers := [] })
    (fun x a' A B h hm => h)
    ?assign ?body ?done ?stop
  case assign =>
    rintro y i x W K hsz' hv hI hx hK
    gi_wp2
    repeat (rw [Oper.semAt_some _ _ _ (by intro c h; cases h)]; go_simp; gi_wp2)
    exact hK _ _ (Mv.refl _ _) hI rfl
  case body =>
    rintro y i x a' W hyl ⟨rr, hr⟩ hsz' hv hI hx rfl
    obtain ⟨n, q, rfl⟩ : ∃ n q, x = (n, q) := ⟨x.1, x.2, rfl⟩
    obtain ⟨bs, hbs⟩ : ∃ bs, ((partsL t).take i).flatMap partN = bs := ⟨_, rfl⟩
    obtain ⟨m, rfl, hm4, hm12, hnext⟩ : ∃ m : Nat, q = m ∧ m ≤ 4 ∧ bs.length + m ≤ 12 ∧ ((partsL t).take (i + 1)).flatMap partN = bs ++ byN n m := by
      subst hbs
      match i, hx with
      | 0, h => cases h; exact ⟨4, rfl, by omega, by simp [partsL, partN, byN], rfl⟩
      | 1, h => cases h; exact ⟨4, rfl, by omega, by simp [partsL, partN, byN], rfl⟩
      | 2, h => cases h; exact ⟨2, rfl, by omega, by simp [partsL, partN, byN], rfl⟩
      | 3, h => cases h; exact ⟨2, rfl, by omega, by simp [partsL, partN, byN], rfl⟩
    rw [hbs] at hI
    have HNX := Lib.hid hnext
    clear hbs hnext hx hr hv
    gi_wp2
    repeat (rw [Oper.semAt_some _ _ _ (by intro c h; cases h)]; go_simp; gi_wp2)
    gi_loopw [5] (fun a wr => ∃ q : Nat, q ≤ m ∧ a = .int .i64 ((q : Int) - 1) ∧ BAt wr (w.heap.size + 2) (w.heap.size + 1) (bs ++ (byN n m).take (m - q)) ∧ Mv (fun k => (k = w.heap.size + 1 ∨ k = w.heap.size + 2) ∨ W2.heap.size + 2 ≤ k) W wr) (fun a _ => (intOf a + 1).toNat)
    case atStart => exact ⟨m, Nat.le_refl _, rfl, by rw [Nat.sub_self]; simpa using hI, Mv.refl _ _⟩
    case round =>
      obtain ⟨q, hq, rfl, hB, hM⟩ := hrel
      clear hI
      by_cases h0 : q = 0
      · subst h0
        have HB := Lib.hid hB
        clear hB
        gi_wp2
        refine ⟨hM, ?_⟩
        show BAt wr _ _ (List.flatMap partN (List.take (i + 1) (partsL t)))
        rw [HNX.out]
        have := HB.out
        rwa [Nat.sub_zero, List.take_of_length_le (by rw [byN_len]; omega)] at this
      · obtain ⟨j, rfl⟩ : ∃ j, q = j + 1 := ⟨q - 1, by omega⟩
        have hb0 : decide ((0 : Int) ≤ ((j + 1 : Nat) : Int) - 1) = true := decide_eq_true (by omega)
        have HB := Lib.hid hB
        have HM := Lib.hid hM
        obtain ⟨b1, b2, b3, -⟩ := hB
        clear hM
        obtain ⟨L, hL⟩ : ∃ L, (bs ++ (byN n m).take (m - (j + 1))).length = L := ⟨_, rfl⟩
        rw [hL] at b1
        have HL := Lib.hid hL
        clear hL hB2 ht2
        have hL12 : L < 12 := by rw [← HL.out, List.length_append, List.length_take]; omega
        have hLc : L + 1 ≤ 12 := by omega
        gi_wp2
        repeat (rw [Oper.semAt_some _ _ _ (by intro c h; cases h)]; go_simp; gi_wp2)
        rw [show (((j + 1 : Nat) : Int) - 1) = j by omega]
        go_wp2_with (fail)
        refine wp_region_W (F := _) 8 (fun k => k = w.heap.size + 1) (fun _ => trivial) (by kernel_rfl) (by kernel_rfl) ?_
        obtain ⟨W1, hW1⟩ : ∃ W1, wr.drew = W1 := ⟨_, rfl⟩
        have g1 : Ext wr W1 := by rw [← hW1]; exact Ext.dr (Ext.rf _)
        rw [hW1]
        clear hW1
        have lt1 : Lt (w.heap.size + 2) W1 := Nat.lt_of_lt_of_le b3 g1.size
        have hBL : BAt W1 (w.heap.size + 2) (w.heap.size + 1) (bs ++ (byN n m).take (m - (j + 1))) := HB.out.same g1.size (g1.block _ b3) (g1.block _ (Nat.lt_of_lt_of_le (Nat.lt_succ_self _) (Nat.le_of_lt b3)))
        have d1 : W1.cell? ⟨w.heap.size + 2, 0, none⟩ = some (.slice (some ⟨w.heap.size + 1, 0, none⟩) L 12) := (g1.cell (p := ⟨w.heap.size + 2, 0, none⟩) b3).trans b1
        have hj4 : j < 4 := by omega
        refine withW (N := 9) (R := SchB) (E := ((Try.f115.body.bind (findR 8)).getD #[])) (by kernel_rfl) schB (by kernel_rfl) fun hS => ?_
        refine takeW (N := 9) (k := 0) (l := [7, 8]) (v := .slice (some ⟨w.heap.size + 1, 0, none⟩) L 12) hS.1 (hS.2.1 0 (by decide)) (hS.2.2.1 0 (by decide)) (hS.2.2.2.1 0 [7, 8] (by decide)) rfl (by decide) rfl (by kernel_rfl) (load_bs_W d1 lt1 (by omega) _ _ _ _ _ _ _ (by kernel_rfl)) ?_
        refine takeW (N := 9) (k := 1) (l := [4, 5, 6, 7, 8]) (v := .int .u32 n) hS.1 (hS.2.1 1 (by decide)) (hS.2.2.1 1 (by decide)) (hS.2.2.2.1 1 [4, 5, 6, 7, 8] (by decide)) rfl (by decide) rfl (by kernel_rfl) (fun _ _ => by kernel_rfl) ?_
        refine takeW (N := 9) (k := 2) (l := [3, 4, 5, 6, 7, 8]) (v := .int .i64 (j : Nat)) hS.1 (hS.2.1 2 (by decide)) (hS.2.2.1 2 (by decide)) (hS.2.2.2.1 2 [3, 4, 5, 6, 7, 8] (by decide)) rfl (by decide) rfl (by kernel_rfl) (fun _ _ => by kernel_rfl) ?_
        refine takeW (N := 9) (k := 3) (l := [4, 5, 6, 7, 8]) (v := .int .i64 ((8 * j : Nat) : Int)) hS.1 (hS.2.1 3 (by decide)) (hS.2.2.1 3 (by decide)) (hS.2.2.2.1 3 [4, 5, 6, 7, 8] (by decide)) rfl (by decide) rfl (by kernel_rfl) (fun w' _ => mul8_run hj4 _ _ _ _ _ _ _ _ (by kernel_rfl) rfl w') ?_
        refine takeW (N := 9) (k := 4) (l := [5, 6, 7, 8]) (v := .int .u32 (n / 256 ^ j)) hS.1 (hS.2.1 4 (by decide)) (hS.2.2.1 4 (by decide)) (hS.2.2.2.1 4 [5, 6, 7, 8] (by decide)) rfl (by decide) rfl (by kernel_rfl) (fun w' _ => shr8_run hj4 _ _ _ _ 3 3 _ _ _ _ (by kernel_rfl) (by kernel_rfl) w') ?_
        refine takeW (N := 9) (k := 5) (l := [6, 7, 8]) (v := .int .u8 (n / 256 ^ j % 256)) hS.1 (hS.2.1 5 (by decide)) (hS.2.2.1 5 (by decide)) (hS.2.2.2.1 5 [6, 7, 8] (by decide)) rfl (by decide) rfl (by kernel_rfl) (fun w' _ => conv8_run _ _ _ _ _ _ _ (by kernel_rfl) w') ?_
        refine makeW (N := 9) (k := 6) hS.2.2.2.2.1 rfl (by kernel_rfl) (build_run (v := n / 256 ^ j % 256) _ _ _ _ _ _ _ (by kernel_rfl) _) (.inr (Mv.of_ext (Ext.al (Ext.rf _) _))) ?_
        obtain ⟨W3, hW3⟩ : ∃ W3, W1.alloc (.cells #[.int .u8 (n / 256 ^ j % 256)] 5) = W3 := ⟨_, rfl⟩
        have g3 : Ext W1 W3 := by rw [← hW3]; exact Ext.al (Ext.rf _) _
        have cA : W3.cell? ⟨W1.heap.size, 0, none⟩ = some (.int .u8 (n / 256 ^ j % 256)) := by rw [← hW3]; simp [go_sem]
        rw [hW3]
        clear hW3
        have hB3 : BAt W3 (w.heap.size + 2) (w.heap.size + 1) (bs ++ (byN n m).take (m - (j + 1))) := hBL.same g3.size (g3.block _ lt1) (g3.block _ (Nat.lt_of_lt_of_le (Nat.lt_succ_self _) (Nat.le_of_lt lt1)))
        have hM3 : Mv (fun k => (k = w.heap.size + 1 ∨ k = w.heap.size + 2) ∨ W2.heap.size + 2 ≤ k) W W3 := (HM.out.tr g1).tr g3
        obtain ⟨f1, f2, f3, cur, f4, f5, f6⟩ := Lib.hid hB3
        have hc5 : L < cur.size := by rw [f5]; exact hL12
        refine makeW (N := 9) (k := 7) hS.2.2.2.2.2.1 rfl (by kernel_rfl) (app_run (u := cur[L]'hc5) cA hLc (by rw [cell_rowD]; unfold rowD; rw [f4]; exact Array.getElem?_eq_getElem hc5) (frozen_of_frz (by unfold frzD; rw [f4]) L) _ _ _ _ _ _ _ _ (by kernel_rfl) (by kernel_rfl)) (.inr (Mv.sc (C := fun k => k = w.heap.size + 1) rfl _ _ _ _ (Mv.refl _ _))) ?_
        refine skipW (N := 9) (k := 8) hS.2.2.2.2.2.2.1 rfl (by kernel_rfl) (store_run (B := w.heap.size + 2) (v := .slice (some ⟨w.heap.size + 1, 0, none⟩) (L + 1) 12) (u := .slice (some ⟨w.heap.size + 1, 0, none⟩) L 12) ?_ ?_ ⟨_, _, _, rfl⟩ _ _ _ _ _ _ _ _ (by kernel_rfl) (by kernel_rfl)) (.inl rfl) ?_
        rotate_left 2
        refine doneW hS.2.2.2.2.2.2.2 ?_
        have hB4 := BAt.push (v := n / 256 ^ j % 256) (by omega) hB3 HL.out hL12 (by rw [List.append_assoc, byN_take n m j (by omega)])
        have hM4 : Mv (fun k => (k = w.heap.size + 1 ∨ k = w.heap.size + 2) ∨ W2.heap.size + 2 ≤ k) W ((W3.setCells (w.heap.size + 1) (0 + L * 1) [.int .u8 (n / 256 ^ j % 256)]).setCell ⟨w.heap.size + 2, 0, none⟩ (.slice (some ⟨w.heap.size + 1, 0, none⟩) (L + 1) 12)) :=
          Mv.st _ (.inl (.inl (.inr rfl))) (Mv.sc (.inl (.inl rfl)) _ _ _ _ hM3)
        obtain ⟨W4, hW4⟩ : ∃ W4, ((W3.setCells (w.heap.size + 1) (0 + L * 1) [.int .u8 (n / 256 ^ j % 256)]).setCell ⟨w.heap.size + 2, 0, none⟩ (.slice (some ⟨w.heap.size + 1, 0, none⟩) (L + 1) 12)) = W4 := ⟨_, rfl⟩
        rw [hW4] at hB4 hM4 ⊢
        clear hW4 hS hB3 hM3 HM HB HNX hBL d1 f1 f2 f4 f5 f6 b1 b2
        have hw1 : IntKind.i64.wrap ((j : Int) - 1) = (j : Int) - 1 := by rw [IntKind.wrap_i64]; omega
        go_simp
        gi_wp2
        repeat (rw [Oper.semAt_some _ _ _ (by intro c h; cases h)]; go_simp; gi_wp2)
        exact ⟨⟨j, by omega, rfl, hB4, hM4⟩, by first | (simp [intOf]; done) | (simp [intOf]; omega)⟩
        · show (W3.setCell ⟨w.heap.size + 1, 0 + L * 1, none⟩ _).cell? _ = _
          rw [World.cell?_setCell_other _ _ _ _ (fun e => (show w.heap.size + 2 ≠ w.heap.size + 1 by omega) (by first | exact congrArg Addr.block e | exact (congrArg Addr.block e).symm))]
          have := hB3.1
          rwa [HL.out] at this
        · refine frozen_of_frz ?_ 0
          rw [frz_setCells]
          exact f2
  case done =>
    rintro W ⟨c1, c2, c3, cur, c4, c5, c6⟩ hv hK
    rw [List.take_length] at c1 c6
    change W.cell? _ = some (.slice _ (tb t).length 12) at c1
    change List.take (tb t).length _ = (tb t).map _ at c6
    rw [show (tb t).length = 12 from rfl] at c1 c6
    have c1' := c1
    go_wp2
    refine ⟨by simp, .inl ⟨_, _, rfl, run_takeDeferred hK, ?_⟩⟩
    refine ⟨_, results_tmp rfl _ _ _, ⟨_, rfl, ?_, ?_⟩⟩
    · intro k hk
      have hB1 : w.heap.size + 1 < W.heap.size := Nat.lt_of_lt_of_le (Nat.lt_succ_self _) (Nat.le_of_lt c3)
      have hmp : Mv (fun k => k = W2.heap.size) W (W.putObj W2.heap.size (.deferred none)) := Mv.put _ _ _ rfl
      have hk' : k < 12 := hk
      refine ⟨w.heap.size + 1, 0, rfl, Nat.lt_of_lt_of_le hB1 hmp.size, ?_⟩
      rw [cell_rowD, rowD_same (hmp.same _ hB1 (by omega))]
      unfold rowD
      rw [c4]
      have e1 : (List.take 12 cur.toList)[k]? = ((tb t).map (Value.int .u8))[k]? := by rw [c6]
      rw [List.getElem?_take, if_pos hk', Array.getElem?_toList, List.getElem?_map, List.getElem?_eq_getElem hk] at e1
      rw [Nat.zero_add]
      exact e1
    · have hE2 : Ext w W := Mv.ext_of g2 hv (fun k h => by rcases h with (h | h) | h <;> omega)
      exact Mv.ext_of hE2 (Mv.put (C := fun k => k = W2.heap.size) _ _ _ rfl) (fun k h => by omega)
  case stop => intro _ _ h; exact h.elim

end Go.Proofs.Ytookffaojlkfaaa
