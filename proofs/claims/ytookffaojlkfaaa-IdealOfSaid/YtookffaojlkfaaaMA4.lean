/- Lemmas of this claim, put together out of: H5, H6, I1, XK, I2, I3, I4, J2, J3, PC. -/
import Derived.Test.YtookffaojlkfaaaMA3
import Derived.Laws.BitsLemmas
set_option linter.unusedSimpArgs false
set_option linter.unusedVariables false
/- A tuple's bytes. -/
namespace Go.Proofs.Ytookffaojlkfaaa
open Go.RowKit

def partN (x : Int × Int) : List Int := byN x.1 x.2.toNat
def tb (t : Tu) : List Int := (partsL t).flatMap partN
/-- A variable holds a row of twelve that is being filled. -/
def BAt (W : World) (Bv Br : Nat) (bs : List Int) : Prop := W.cell? ⟨Bv, 0, none⟩ = some (.slice (some ⟨Br, 0, none⟩) bs.length 12) ∧ frzD W Bv = (0, 0) ∧ Lt Bv W ∧ ∃ cur : Array Value, W.heap[Br]? = some (.cells cur 5 (0, 0)) ∧ cur.size = 12 ∧ cur.toList.take bs.length = bs.map (Value.int .u8)
theorem BAt.same {A B : World} {Bv Br : Nat} {bs : List Int} (h : BAt A Bv Br bs) (hs : A.heap.size ≤ B.heap.size) (h1 : B.heap[Bv]? = A.heap[Bv]?) (h2 : B.heap[Br]? = A.heap[Br]?) : BAt B Bv Br bs := by
  obtain ⟨a1, a2, a3, cur, a4, a5, a6⟩ := h
  exact ⟨by rw [cell_rowD, rowD_same h1, ← cell_rowD]; exact a1, by unfold frzD at a2 ⊢; rw [h1]; exact a2, Nat.lt_of_lt_of_le a3 hs, cur, by rw [h2]; exact a4, a5, a6⟩
theorem BAt.push {W : World} {Bv Br L : Nat} {bs bs' : List Int} {v : Int} (hne : Bv ≠ Br) (h : BAt W Bv Br bs) (hL : bs.length = L) (h12 : L < 12) (hb : bs ++ [v] = bs') : BAt ((W.setCells Br (0 + L * 1) [.int .u8 v]).setCell ⟨Bv, 0, none⟩ (.slice (some ⟨Br, 0, none⟩) (L + 1) 12)) Bv Br bs' := by
  obtain ⟨a1, a2, a3, cur, a4, a5, a6⟩ := h
  subst hL hb
  have hl : bs.length + 1 = (bs ++ [v]).length := by simp
  rw [show 0 + bs.length * 1 = bs.length by omega]
  have e1 : (W.setCells Br bs.length [.int .u8 v]) = W.setCell ⟨Br, bs.length, none⟩ (.int .u8 v) := rfl
  rw [e1]
  refine ⟨?_, by rw [frzD_setCell, frzD_setCell]; exact a2, by rw [Lt_setCell, Lt_setCell]; exact a3, cur.setIfInBounds bs.length (.int .u8 v), ?_, by simpa using a5, ?_⟩
  · rw [← hl]
    have a7 : (W.setCell ⟨Br, bs.length, none⟩ (.int .u8 v)).cell? ⟨Bv, 0, none⟩ = some (.slice (some ⟨Br, 0, none⟩) bs.length 12) := by
      rw [World.cell?_setCell_other _ _ _ _ (fun e => hne (by first | exact congrArg Addr.block e | exact (congrArg Addr.block e).symm))]
      exact a1
    exact World.cell?_setCell_same _ _ _ a7
  · simp only [World.setCell]
    rw [Array.getElem?_modify, if_neg (by simpa using hne), Array.getElem?_modify, if_pos rfl, a4]
    rfl
  · have hlt : bs.length < cur.toList.length := by simpa [a5] using h12
    rw [Array.toList_setIfInBounds, ← hl, List.take_add_one, List.take_set_of_le (Nat.le_refl _), a6, List.getElem?_set_self hlt]
    simp
def zrow : Array Value := Array.replicate 12 (Value.int .u8 0)
theorem mk12 (w : World) : (Instr.makeSlice 104 (.int .i64 0) (.int .i64 12)).run Try.prog w = .ok (.slice (some ⟨w.heap.size, 0, none⟩) 0 12) (w.alloc (.cells zrow 5)) := by kernel_rfl
attribute [local go_sem] Oper.semAt_some
set_option maxRecDepth 100000 in
set_option maxHeartbeats 8000000 in
theorem bytes_any (t : Tu) (hc : t.c % 4294967296 = t.c) (hd : t.d % 4294967296 = t.d) (w : World) :
    Calls Try.prog 115 #[tu t.a t.b t.c t.d] w fun e w' => ∃ b, e = .returned (.slice (some ⟨b, 0, none⟩) 12 12) ∧ SlB w' (some ⟨b, 0, none⟩) (tb t) ∧ Ext w w' := by
  refine (callsIn_wide (n := 5)).1 ?_
  refine callsIn_of_wp_marks Try.func115 rfl trivial ?_ rfl
  simp only [Try.ntmps115, List.size_toArray, List.length_cons, List.length_nil, Nat.reduceAdd, Nat.reduceSub, Array.replicate_succ, Array.replicate_zero, List.push_toArray, List.append_toArray, List.nil_append, List.cons_append]
  refine wpIn_wide.2 ?_
  have mk := mk12
  go_wp2_with (go_at_call 122; (with_reducible refine (parts_any t _).mono ?_); rintro e w2 ⟨rfl, rfl⟩)
  obtain ⟨W2, hW2⟩ : ∃ W2, ((((w.alloc (.cells #[.int .u32 t.a, .int .u32 t.b, .int .u16 t.c, .int .u16 t.d] 26)).alloc (.cells zrow 5)).alloc (.cells #[.slice (some ⟨w.heap.size + 1, 0, none⟩) 0 12] 104)).alloc (.cells #[.int .u32 t.a, .int .u32 t.b, .int .u16 t.c, .int .u16 t.d] 26)) = W2 := ⟨_, rfl⟩
  have g2 : Ext w W2 := by rw [← hW2]; exact Ext.al (Ext.al (Ext.al (Ext.al (Ext.rf _) _) _) _) _
  have hsz2 : W2.heap.size = w.heap.size + 4 := by rw [← hW2]; simp
  have ht2 : TuAt W2 (w.heap.size + 3) t := ⟨by rw [← hW2]; simp [go_sem], by unfold Lt; omega⟩
  have hB2 : BAt W2 (w.heap.size + 2) (w.heap.size + 1) [] := by
    refine ⟨by rw [← hW2]; simp [go_sem], by rw [← hW2]; simp [go_sem], by unfold Lt; omega, zrow, ?_, rfl, rfl⟩
    rw [← hW2]
    rw [Below.heap_alloc _ _ _ (by simp), Below.heap_alloc _ _ _ (by simp)]
    have := World.alloc_heap_new (w.alloc (.cells #[.int .u32 t.a, .int .u32 t.b, .int .u16 t.c, .int .u16 t.d] 26)) (.cells zrow 5)
    rwa [World.size_alloc] at this
  rw [hW2]
  clear hW2 mk
  refine (wpIn_wide (n := 5)).1 ?_
  refine wpIn_range rfl (by omega) (gf := 126) (lb := #[.pointer (some ⟨w.heap.size + 3, 0, none⟩)]) rfl trivial enters_parts
    (parts_iter _ t hc hd W2 (w.heap.size + 3) (fun k => k = w.heap.size + 1 ∨ k = w.heap.size + 2) ht2 (fun k e => by omega))
    (fun k e => e.elim) (fun k e => by omega) (fun _ => rfl)
    (fun i W => BAt W (w.heap.size + 2) (w.heap.size + 1) (((partsL t).take i).flatMap partN)) (fun _ _ => False)
    (fun i A B h hm => h.same hm.size (hm.same _ h.2.2.1 (by rintro (h | h | h) <;> first | exact h.elim | omega)) (hm.same _ (Nat.lt_of_lt_of_le (Nat.lt_succ_self _) (Nat.le_of_lt h.2.2.1)) (by rintro (h | h | h) <;> first | exact h.elim | omega)))
    (fun _ _ _ h _ => h) hB2
    (fun x a' W => a' = { tmps := #[tu t.a t.b t.c t.d, .pointer (some ⟨w.heap.size, 0, none⟩), .slice none 0 0, .pointer (some ⟨w.heap.size + 2, 0, none⟩), .int .u32 x.1, .int .i64 x.2, .slice (some ⟨w.heap.size + 1, 0, none⟩) 0 12, tu t.a t.b t.c t.d, .func (.func 126) #[] #[.pointer (some ⟨w.heap.size + 3, 0, none⟩)], .int .u32 x.1, .int .i64 x.2, undef, undef, undef, undef, undef, undef, undef, undef, undef, undef, undef, undef, undef, undef, undef], defers := [] })
    (fun x a' A B h hm => h)
    ?assign ?body ?done ?stop
  case assign =>
    rintro y i x W K hsz' hv hI hx hK
    gi_wp2
    repeat (rw [Oper.semAt_some _ _ _ (by intro c h; cases h)]; go_simp; gi_wp2)
    exact hK _ _ (Mv.refl _ _) hI rfl
  case body =>
    rintro y i x a' W hyl ⟨rr, hr⟩ hsz' hv hI hx rfl
    obtain ⟨n, q, rfl⟩ : ∃ n q, x = (n, q) := ⟨x.1, x.2, rfl⟩
    obtain ⟨bs, hbs⟩ : ∃ bs, ((partsL t).take i).flatMap partN = bs := ⟨_, rfl⟩
    obtain ⟨m, rfl, hm4, hm12, hnext⟩ : ∃ m : Nat, q = m ∧ m ≤ 4 ∧ bs.length + m ≤ 12 ∧ ((partsL t).take (i + 1)).flatMap partN = bs ++ byN n m := by
      subst hbs
      match i, hx with
      | 0, h => cases h; exact ⟨4, rfl, by omega, by simp [partsL, partN, byN], rfl⟩
      | 1, h => cases h; exact ⟨4, rfl, by omega, by simp [partsL, partN, byN], rfl⟩
      | 2, h => cases h; exact ⟨2, rfl, by omega, by simp [partsL, partN, byN], rfl⟩
      | 3, h => cases h; exact ⟨2, rfl, by omega, by simp [partsL, partN, byN], rfl⟩
    rw [hbs] at hI
    have HNX := Lib.hid hnext
    clear hbs hnext hx hr hv
    gi_wp2
    repeat (rw [Oper.semAt_some _ _ _ (by intro c h; cases h)]; go_simp; gi_wp2)
    gi_loopw [5] (fun a wr => ∃ q : Nat, q ≤ m ∧ a = .int .i64 ((q : Int) - 1) ∧ BAt wr (w.heap.size + 2) (w.heap.size + 1) (bs ++ (byN n m).take (m - q)) ∧ Mv (fun k => (k = w.heap.size + 1 ∨ k = w.heap.size + 2) ∨ W2.heap.size + 2 ≤ k) W wr) (fun a _ => (intOf a + 1).toNat)
    case atStart => exact ⟨m, Nat.le_refl _, rfl, by rw [Nat.sub_self]; simpa using hI, Mv.refl _ _⟩
    case round =>
      obtain ⟨q, hq, rfl, hB, hM⟩ := hrel
      clear hI
      by_cases h0 : q = 0
      · subst h0
        have HB := Lib.hid hB
        clear hB
        gi_wp2
        refine ⟨hM, ?_⟩
        show BAt wr _ _ (List.flatMap partN (List.take (i + 1) (partsL t)))
        rw [HNX.out]
        have := HB.out
        rwa [Nat.sub_zero, List.take_of_length_le (by rw [byN_len]; omega)] at this
      · obtain ⟨j, rfl⟩ : ∃ j, q = j + 1 := ⟨q - 1, by omega⟩
        have hb0 : decide ((0 : Int) ≤ ((j + 1 : Nat) : Int) - 1) = true := decide_eq_true (by omega)
        have HB := Lib.hid hB
        have HM := Lib.hid hM
        obtain ⟨b1, b2, b3, -⟩ := hB
        clear hM
        obtain ⟨L, hL⟩ : ∃ L, (bs ++ (byN n m).take (m - (j + 1))).length = L := ⟨_, rfl⟩
        rw [hL] at b1
        have HL := Lib.hid hL
        clear hL hB2 ht2
        have hL12 : L < 12 := by rw [← HL.out, List.length_append, List.length_take]; omega
        have hLc : L + 1 ≤ 12 := by omega
        gi_wp2
        repeat (rw [Oper.semAt_some _ _ _ (by intro c h; cases h)]; go_simp; gi_wp2)
        rw [show (((j + 1 : Nat) : Int) - 1) = j by omega]
        go_wp2_with (fail)
        refine wp_region_W (F := _) 8 (fun k => k = w.heap.size + 1) (fun _ => trivial) (by kernel_rfl) (by kernel_rfl) ?_
        obtain ⟨W1, hW1⟩ : ∃ W1, wr.drew = W1 := ⟨_, rfl⟩
        have g1 : Ext wr W1 := by rw [← hW1]; exact Ext.dr (Ext.rf _)
        rw [hW1]
        clear hW1
        have lt1 : Lt (w.heap.size + 2) W1 := Nat.lt_of_lt_of_le b3 g1.size
        have hBL : BAt W1 (w.heap.size + 2) (w.heap.size + 1) (bs ++ (byN n m).take (m - (j + 1))) := HB.out.same g1.size (g1.block _ b3) (g1.block _ (Nat.lt_of_lt_of_le (Nat.lt_succ_self _) (Nat.le_of_lt b3)))
        have d1 : W1.cell? ⟨w.heap.size + 2, 0, none⟩ = some (.slice (some ⟨w.heap.size + 1, 0, none⟩) L 12) := (g1.cell (p := ⟨w.heap.size + 2, 0, none⟩) b3).trans b1
        have hj4 : j < 4 := by omega
        refine withW (N := 9) (R := SchB) (E := ((Try.f115.body.bind (findR 8)).getD #[])) (by kernel_rfl) schB (by kernel_rfl) fun hS => ?_
        refine takeW (N := 9) (k := 0) (l := [7, 8]) (v := .slice (some ⟨w.heap.size + 1, 0, none⟩) L 12) hS.1 (hS.2.1 0 (by decide)) (hS.2.2.1 0 (by decide)) (hS.2.2.2.1 0 [7, 8] (by decide)) rfl (by decide) rfl (by kernel_rfl) (load_bs_W d1 lt1 (by omega) _ _ _ _ _ _ _ (by kernel_rfl)) ?_
        refine takeW (N := 9) (k := 1) (l := [4, 5, 6, 7, 8]) (v := .int .u32 n) hS.1 (hS.2.1 1 (by decide)) (hS.2.2.1 1 (by decide)) (hS.2.2.2.1 1 [4, 5, 6, 7, 8] (by decide)) rfl (by decide) rfl (by kernel_rfl) (fun _ _ => by kernel_rfl) ?_
        refine takeW (N := 9) (k := 2) (l := [3, 4, 5, 6, 7, 8]) (v := .int .i64 (j : Nat)) hS.1 (hS.2.1 2 (by decide)) (hS.2.2.1 2 (by decide)) (hS.2.2.2.1 2 [3, 4, 5, 6, 7, 8] (by decide)) rfl (by decide) rfl (by kernel_rfl) (fun _ _ => by kernel_rfl) ?_
        refine takeW (N := 9) (k := 3) (l := [4, 5, 6, 7, 8]) (v := .int .i64 ((8 * j : Nat) : Int)) hS.1 (hS.2.1 3 (by decide)) (hS.2.2.1 3 (by decide)) (hS.2.2.2.1 3 [4, 5, 6, 7, 8] (by decide)) rfl (by decide) rfl (by kernel_rfl) (fun w' _ => mul8_run hj4 _ _ _ _ _ _ _ _ (by kernel_rfl) rfl w') ?_
        refine takeW (N := 9) (k := 4) (l := [5, 6, 7, 8]) (v := .int .u32 (n / 256 ^ j)) hS.1 (hS.2.1 4 (by decide)) (hS.2.2.1 4 (by decide)) (hS.2.2.2.1 4 [5, 6, 7, 8] (by decide)) rfl (by decide) rfl (by kernel_rfl) (fun w' _ => shr8_run hj4 _ _ _ _ 3 3 _ _ _ _ (by kernel_rfl) (by kernel_rfl) w') ?_
        refine takeW (N := 9) (k := 5) (l := [6, 7, 8]) (v := .int .u8 (n / 256 ^ j % 256)) hS.1 (hS.2.1 5 (by decide)) (hS.2.2.1 5 (by decide)) (hS.2.2.2.1 5 [6, 7, 8] (by decide)) rfl (by decide) rfl (by kernel_rfl) (fun w' _ => conv8_run _ _ _ _ _ _ _ (by kernel_rfl) w') ?_
        refine makeW (N := 9) (k := 6) hS.2.2.2.2.1 rfl (by kernel_rfl) (build_run (v := n / 256 ^ j % 256) _ _ _ _ _ _ _ (by kernel_rfl) _) (.inr (Mv.of_ext (Ext.al (Ext.rf _) _))) ?_
        obtain ⟨W3, hW3⟩ : ∃ W3, W1.alloc (.cells #[.int .u8 (n / 256 ^ j % 256)] 5) = W3 := ⟨_, rfl⟩
        have g3 : Ext W1 W3 := by rw [← hW3]; exact Ext.al (Ext.rf _) _
        have cA : W3.cell? ⟨W1.heap.size, 0, none⟩ = some (.int .u8 (n / 256 ^ j % 256)) := by rw [← hW3]; simp [go_sem]
        rw [hW3]
        clear hW3
        have hB3 : BAt W3 (w.heap.size + 2) (w.heap.size + 1) (bs ++ (byN n m).take (m - (j + 1))) := hBL.same g3.size (g3.block _ lt1) (g3.block _ (Nat.lt_of_lt_of_le (Nat.lt_succ_self _) (Nat.le_of_lt lt1)))
        have hM3 : Mv (fun k => (k = w.heap.size + 1 ∨ k = w.heap.size + 2) ∨ W2.heap.size + 2 ≤ k) W W3 := (HM.out.tr g1).tr g3
        obtain ⟨f1, f2, f3, cur, f4, f5, f6⟩ := Lib.hid hB3
        have hc5 : L < cur.size := by rw [f5]; exact hL12
        refine makeW (N := 9) (k := 7) hS.2.2.2.2.2.1 rfl (by kernel_rfl) (app_run (u := cur[L]'hc5) cA hLc (by rw [cell_rowD]; unfold rowD; rw [f4]; exact Array.getElem?_eq_getElem hc5) (frozen_of_frz (by unfold frzD; rw [f4]) L) _ _ _ _ _ _ _ _ (by kernel_rfl) (by kernel_rfl)) (.inr (Mv.sc (C := fun k => k = w.heap.size + 1) rfl _ _ _ _ (Mv.refl _ _))) ?_
        refine skipW (N := 9) (k := 8) hS.2.2.2.2.2.2.1 rfl (by kernel_rfl) (store_run (B := w.heap.size + 2) (v := .slice (some ⟨w.heap.size + 1, 0, none⟩) (L + 1) 12) (u := .slice (some ⟨w.heap.size + 1, 0, none⟩) L 12) ?_ ?_ ⟨_, _, _, rfl⟩ _ _ _ _ _ _ _ _ (by kernel_rfl) (by kernel_rfl)) (.inl rfl) ?_
        rotate_left 2
        refine doneW hS.2.2.2.2.2.2.2 ?_
        have hB4 := BAt.push (v := n / 256 ^ j % 256) (by omega) hB3 HL.out hL12 (by rw [List.append_assoc, byN_take n m j (by omega)])
        have hM4 : Mv (fun k => (k = w.heap.size + 1 ∨ k = w.heap.size + 2) ∨ W2.heap.size + 2 ≤ k) W ((W3.setCells (w.heap.size + 1) (0 + L * 1) [.int .u8 (n / 256 ^ j % 256)]).setCell ⟨w.heap.size + 2, 0, none⟩ (.slice (some ⟨w.heap.size + 1, 0, none⟩) (L + 1) 12)) :=
          Mv.st _ (.inl (.inl (.inr rfl))) (Mv.sc (.inl (.inl rfl)) _ _ _ _ hM3)
        obtain ⟨W4, hW4⟩ : ∃ W4, ((W3.setCells (w.heap.size + 1) (0 + L * 1) [.int .u8 (n / 256 ^ j % 256)]).setCell ⟨w.heap.size + 2, 0, none⟩ (.slice (some ⟨w.heap.size + 1, 0, none⟩) (L + 1) 12)) = W4 := ⟨_, rfl⟩
        rw [hW4] at hB4 hM4 ⊢
        clear hW4 hS hB3 hM3 HM HB HNX hBL d1 f1 f2 f4 f5 f6 b1 b2
        have hw1 : IntKind.i64.wrap ((j : Int) - 1) = (j : Int) - 1 := by rw [IntKind.wrap_i64]; omega
        go_simp
        gi_wp2
        repeat (rw [Oper.semAt_some _ _ _ (by intro c h; cases h)]; go_simp; gi_wp2)
        exact ⟨⟨j, by omega, rfl, hB4, hM4⟩, by first | (simp [intOf]; done) | (simp [intOf]; omega)⟩
        · show (W3.setCell ⟨w.heap.size + 1, 0 + L * 1, none⟩ _).cell? _ = _
          rw [World.cell?_setCell_other _ _ _ _ (fun e => (show w.heap.size + 2 ≠ w.heap.size + 1 by omega) (by first | exact congrArg Addr.block e | exact (congrArg Addr.block e).symm))]
          have := hB3.1
          rwa [HL.out] at this
        · refine frozen_of_frz ?_ 0
          rw [frz_setCells]
          exact f2
  case done =>
    rintro W ⟨c1, c2, c3, cur, c4, c5, c6⟩ hv hK
    rw [List.take_length] at c1 c6
    change W.cell? _ = some (.slice _ (tb t).length 12) at c1
    change List.take (tb t).length _ = (tb t).map _ at c6
    rw [show (tb t).length = 12 from rfl] at c1 c6
    have c1' := c1
    go_wp2
    refine ⟨by simp, .inl ⟨_, _, rfl, run_takeDeferred hK, ?_⟩⟩
    refine ⟨_, results_tmp rfl _ _ _, ⟨_, rfl, ?_, ?_⟩⟩
    · intro k hk
      have hB1 : w.heap.size + 1 < W.heap.size := Nat.lt_of_lt_of_le (Nat.lt_succ_self _) (Nat.le_of_lt c3)
      have hmp : Mv (fun k => k = W2.heap.size) W (W.putObj W2.heap.size (.deferred none)) := Mv.put _ _ _ rfl
      have hk' : k < 12 := hk
      refine ⟨w.heap.size + 1, 0, rfl, Nat.lt_of_lt_of_le hB1 hmp.size, ?_⟩
      rw [cell_rowD, rowD_same (hmp.same _ hB1 (by omega))]
      unfold rowD
      rw [c4]
      have e1 : (List.take 12 cur.toList)[k]? = ((tb t).map (Value.int .u8))[k]? := by rw [c6]
      rw [List.getElem?_take, if_pos hk', Array.getElem?_toList, List.getElem?_map, List.getElem?_eq_getElem hk] at e1
      rw [Nat.zero_add]
      exact e1
    · have hE2 : Ext w W := Mv.ext_of g2 hv (fun k h => by rcases h with (h | h) | h <;> omega)
      exact Mv.ext_of hE2 (Mv.put (C := fun k => k = W2.heap.size) _ _ _ rfl) (fun k h => by omega)
  case stop => intro _ _ h; exact h.elim

end Go.Proofs.Ytookffaojlkfaaa

/- A tuple's bucket; a bucket's connections, and the others. -/
namespace Go.Proofs.Ytookffaojlkfaaa
open Go.RowKit

def TuR (t : Tu) : Prop := (0 ≤ t.a ∧ t.a < 4294967296) ∧ (0 ≤ t.b ∧ t.b < 4294967296) ∧ (0 ≤ t.c ∧ t.c < 65536) ∧ (0 ≤ t.d ∧ t.d < 65536)
def sumT (t : Tu) : Int := goL 0 (tb t)
def ofT (t : Tu) : Int := fold (sumT t)
theorem sumT_bd (t : Tu) : 0 ≤ sumT t ∧ sumT t < 256 := goL_bd _ _ (by omega) (by omega)
theorem tb_len (t : Tu) : (tb t).length = 12 := rfl
theorem ofT_bd (t : Tu) : 0 ≤ ofT t ∧ ofT t < 16 := fold_bd _ (sumT_bd t).1 (sumT_bd t).2
def inB (k : Int) (x : Co) : Bool := ofT x.t == k
theorem go12 (t : Tu) (p : Option Addr) (w : World) (hb : SlB w p (tb t)) : Calls Try.prog 114 #[.int .u8 0, .slice p 12 12] w fun e w' => e = .returned (.int .u8 (sumT t)) ∧ Ext w w' := go_any 0 (tb t) p 12 w hb (by rw [tb_len]; omega)
set_option maxHeartbeats 1000000 in
theorem sum_any (t : Tu) (hr : TuR t) (w : World) :
    Calls Try.prog 93 #[tu t.a t.b t.c t.d] w fun e w' => e = .returned (.int .u8 (sumT t)) ∧ Ext w w' := by
  have hc : t.c % 4294967296 = t.c := by obtain ⟨-, -, h, -⟩ := hr; omega
  have hd : t.d % 4294967296 = t.d := by obtain ⟨-, -, -, h⟩ := hr; omega
  have HC := Lib.hid hc
  have HD := Lib.hid hd
  clear hc hd hr
  go_enter Try.func93, Try.ntmps93
  go_wp2_with (first | (go_at_call 115; (with_reducible refine (bytes_any t HC.out HD.out _).mono ?_); rintro e w1 ⟨b, rfl, hb, hE1⟩; have HB := Lib.hid hb; clear hb) | (go_at_call 114; (with_reducible refine (go12 t _ _ HB.out).mono ?_); rintro e w2 ⟨rfl, hE2⟩))
  go_ret
  refine ⟨rfl, ?_⟩
  exact (Ext.tr (Ext.al (Ext.rf _) _) hE1).tr hE2
set_option maxHeartbeats 1000000 in
theorem of_any (t : Tu) (hr : TuR t) (w : World) :
    Calls Try.prog 69 #[tu t.a t.b t.c t.d] w fun e w' => e = .returned (.int .i64 (ofT t)) ∧ Ext w w' := by
  have HR := Lib.hid hr
  clear hr
  go_enter Try.func69, Try.ntmps69
  go_wp2_with (first | (go_at_call 93; (with_reducible refine (sum_any t HR.out _).mono ?_); rintro e w1 ⟨rfl, hE1⟩) | (go_at_call 92; (with_reducible refine (folded_any (sumT t) _ (sumT_bd t).1 (sumT_bd t).2).mono ?_); rintro e w2 ⟨rfl, rfl⟩))
  go_ret
  exact ⟨rfl, Ext.tr (Ext.al (Ext.rf _) _) hE1⟩

set_option maxHeartbeats 1000000 in
theorem cof1_any (x : Co) (hr : TuR x.t) (k : Int) (bk : Nat) (w : World) (lk : Lt bk w) (hk : w.cell? ⟨bk, 0, none⟩ = some (.int .i64 k)) :
    Calls Try.prog 68 #[.agg #[.int .u32 x.t.a, .int .u32 x.t.b, .int .u16 x.t.c, .int .u16 x.t.d, .int .i64 x.s, .int .i64 x.l], .pointer (some ⟨bk, 0, none⟩)] w fun e w' => e = .returned (.bool (inB k x)) ∧ Ext w w' := by
  have HR := Lib.hid hr
  clear hr
  go_enter Try.func68, Try.ntmps68
  go_upto_region 1 with (fail)
  obtain ⟨W0, hW⟩ : ∃ W0, w.alloc (.cells #[.int .u32 x.t.a, .int .u32 x.t.b, .int .u16 x.t.c, .int .u16 x.t.d, .int .i64 x.s, .int .i64 x.l] 43) = W0 := ⟨_, rfl⟩
  have e0 : Ext w W0 := by rw [← hW]; exact Ext.al (Ext.rf _) _
  have c0 : W0.cell? ⟨w.heap.size, 0, none⟩ = some (.int .u32 x.t.a) := by rw [← hW]; simp [go_sem]
  have c1 : W0.cell? ⟨w.heap.size, 1, none⟩ = some (.int .u32 x.t.b) := by rw [← hW]; simp [go_sem]
  have c2 : W0.cell? ⟨w.heap.size, 2, none⟩ = some (.int .u16 x.t.c) := by rw [← hW]; simp [go_sem]
  have c3 : W0.cell? ⟨w.heap.size, 3, none⟩ = some (.int .u16 x.t.d) := by rw [← hW]; simp [go_sem]
  have l0 : Lt w.heap.size W0 := by rw [← hW]; simp [Lt]
  have lk0 : Lt bk W0 := Nat.lt_of_lt_of_le lk e0.size
  have hk0 : W0.cell? ⟨bk, 0, none⟩ = some (.int .i64 k) := (e0.cell (p := ⟨bk, 0, none⟩) lk).trans hk
  rw [hW]
  clear hW hk
  generalize w.heap.size = B at *
  refine wp_region_later (by kernel_rfl) (by kernel_rfl) ?_; (repeat (go_big_quiet_step ((go_at_call 69; exact calls_later (of_any x.t HR.out _))))); refine wpQuiet_nil ?_; intro d
  have hd := later_ext d
  go_wp2
  go_ret
  exact ⟨rfl, e0.tr hd⟩
theorem cof1_cl (x : Co) (hr : TuR x.t) (k : Int) (bk : Nat) (w : World) (lk : Lt bk w) (hk : w.cell? ⟨bk, 0, none⟩ = some (.int .i64 k)) :
    Calls Try.prog 68 (#[.agg #[.int .u32 x.t.a, .int .u32 x.t.b, .int .u16 x.t.c, .int .u16 x.t.d, .int .i64 x.s, .int .i64 x.l]] ++ #[.pointer (some ⟨bk, 0, none⟩)]) w fun e w' => e = .returned (.bool (inB k x)) ∧ Ext w w' := by
  rw [show (#[Value.agg #[.int .u32 x.t.a, .int .u32 x.t.b, .int .u16 x.t.c, .int .u16 x.t.d, .int .i64 x.s, .int .i64 x.l]] ++ #[Value.pointer (some ⟨bk, 0, none⟩)] : Array Value) = #[.agg #[.int .u32 x.t.a, .int .u32 x.t.b, .int .u16 x.t.c, .int .u16 x.t.d, .int .i64 x.s, .int .i64 x.l], .pointer (some ⟨bk, 0, none⟩)] from rfl]
  exact cof1_any x hr k bk w lk hk
theorem enters_cof : ∀ args w, (callFunc 68 args).run Try.prog w = .ok (.enter 68 args) w := enters_of Try.func68 (by kernel_rfl) rfl

set_option maxHeartbeats 1000000 in
theorem cwo1_any (x : Co) (hr : TuR x.t) (k : Int) (bk : Nat) (w : World) (lk : Lt bk w) (hk : w.cell? ⟨bk, 0, none⟩ = some (.int .i64 k)) :
    Calls Try.prog 70 #[.agg #[.int .u32 x.t.a, .int .u32 x.t.b, .int .u16 x.t.c, .int .u16 x.t.d, .int .i64 x.s, .int .i64 x.l], .pointer (some ⟨bk, 0, none⟩)] w fun e w' => e = .returned (.bool (inB k x)) ∧ Ext w w' := by
  have HR := Lib.hid hr
  clear hr
  go_enter Try.func70, Try.ntmps70
  go_upto_region 1 with (fail)
  obtain ⟨W0, hW⟩ : ∃ W0, w.alloc (.cells #[.int .u32 x.t.a, .int .u32 x.t.b, .int .u16 x.t.c, .int .u16 x.t.d, .int .i64 x.s, .int .i64 x.l] 43) = W0 := ⟨_, rfl⟩
  have e0 : Ext w W0 := by rw [← hW]; exact Ext.al (Ext.rf _) _
  have c0 : W0.cell? ⟨w.heap.size, 0, none⟩ = some (.int .u32 x.t.a) := by rw [← hW]; simp [go_sem]
  have c1 : W0.cell? ⟨w.heap.size, 1, none⟩ = some (.int .u32 x.t.b) := by rw [← hW]; simp [go_sem]
  have c2 : W0.cell? ⟨w.heap.size, 2, none⟩ = some (.int .u16 x.t.c) := by rw [← hW]; simp [go_sem]
  have c3 : W0.cell? ⟨w.heap.size, 3, none⟩ = some (.int .u16 x.t.d) := by rw [← hW]; simp [go_sem]
  have l0 : Lt w.heap.size W0 := by rw [← hW]; simp [Lt]
  have lk0 : Lt bk W0 := Nat.lt_of_lt_of_le lk e0.size
  have hk0 : W0.cell? ⟨bk, 0, none⟩ = some (.int .i64 k) := (e0.cell (p := ⟨bk, 0, none⟩) lk).trans hk
  rw [hW]
  clear hW hk
  generalize w.heap.size = B at *
  refine wp_region_later (by kernel_rfl) (by kernel_rfl) ?_; (repeat (go_big_quiet_step ((go_at_call 69; exact calls_later (of_any x.t HR.out _))))); refine wpQuiet_nil ?_; intro d
  have hd := later_ext d
  go_wp2
  go_ret
  exact ⟨rfl, e0.tr hd⟩
theorem cwo1_cl (x : Co) (hr : TuR x.t) (k : Int) (bk : Nat) (w : World) (lk : Lt bk w) (hk : w.cell? ⟨bk, 0, none⟩ = some (.int .i64 k)) :
    Calls Try.prog 70 (#[.agg #[.int .u32 x.t.a, .int .u32 x.t.b, .int .u16 x.t.c, .int .u16 x.t.d, .int .i64 x.s, .int .i64 x.l]] ++ #[.pointer (some ⟨bk, 0, none⟩)]) w fun e w' => e = .returned (.bool (inB k x)) ∧ Ext w w' := by
  rw [show (#[Value.agg #[.int .u32 x.t.a, .int .u32 x.t.b, .int .u16 x.t.c, .int .u16 x.t.d, .int .i64 x.s, .int .i64 x.l]] ++ #[Value.pointer (some ⟨bk, 0, none⟩)] : Array Value) = #[.agg #[.int .u32 x.t.a, .int .u32 x.t.b, .int .u16 x.t.c, .int .u16 x.t.d, .int .i64 x.s, .int .i64 x.l], .pointer (some ⟨bk, 0, none⟩)] from rfl]
  exact cwo1_any x hr k bk w lk hk
theorem enters_cwo : ∀ args w, (callFunc 70 args).run Try.prog w = .ok (.enter 70 args) w := enters_of Try.func70 (by kernel_rfl) rfl

set_option maxRecDepth 20000 in
set_option maxHeartbeats 2000000 in
theorem cof_any (p : Option Addr) (xs : List Co) (c : Nat) (k : Int) (w : World) (hs : SlC w p xs) (hl : xs.length ≤ 1000) (hr : ∀ x ∈ xs, TuR x.t) :
    Calls Try.prog 30 #[.slice p xs.length c, .int .i64 k] w fun e w' => ∃ v, e = .returned v ∧ w'.ownsRow w.heap.size 43 6 v (xs.filter (inB k)).length (flC (xs.filter (inB k))) ∧ Ext w w' := by
  have HR := Lib.hid hr
  clear hr
  go_enter Try.func30, Try.ntmps30
  go_upto_region 1 with (fail)
  obtain ⟨W0, hW⟩ : ∃ W0, w.alloc (.cells #[.int .i64 k] 3) = W0 := ⟨_, rfl⟩
  have g0 : Ext w W0 := by rw [← hW]; exact Ext.al (Ext.rf _) _
  have ck : W0.cell? ⟨w.heap.size, 0, none⟩ = some (.int .i64 k) := by rw [← hW]; simp [go_sem]
  have lk : Lt w.heap.size W0 := by rw [← hW]; simp [Lt]
  have s0 := hs.ext g0
  have hsz : w.heap.size ≤ W0.heap.size := g0.size
  rw [hW]
  clear hW hs
  have HCL := Lib.hid (fun (x : Co) (W : World) (hm : x ∈ xs) (hE : Ext W0 W) => cof1_cl x (HR.out x hm) k _ W (Nat.lt_of_lt_of_le lk hE.size) ((hE.cell (p := ⟨w.heap.size, 0, none⟩) lk).trans ck))
  go_wp2_with (go_at_call 59; go_must (with_reducible refine (parted_any 68 #[.pointer (some ⟨w.heap.size, 0, none⟩)] enters_cof (inB k) p xs c _ s0 hl HCL.out).mono ?_); rintro e w' ⟨v1, v2, rfl, ⟨o1, o2, o3⟩, g1⟩; have O1 := Lib.hid o1; have O2 := Lib.hid o2; clear o1 o2 o3)
  exact bodyPost_ret (v := v1) (by simp [results, Try.results30, go_sem]) rfl ⟨v1, rfl, ownsRow_le O1.out hsz, g0.tr g1⟩

set_option maxRecDepth 20000 in
set_option maxHeartbeats 2000000 in
theorem cwo_any (p : Option Addr) (xs : List Co) (c : Nat) (k : Int) (w : World) (hs : SlC w p xs) (hl : xs.length ≤ 1000) (hr : ∀ x ∈ xs, TuR x.t) :
    Calls Try.prog 32 #[.slice p xs.length c, .int .i64 k] w fun e w' => ∃ v, e = .returned v ∧ w'.ownsRow w.heap.size 43 6 v (xs.filter (fun x => !inB k x)).length (flC (xs.filter (fun x => !inB k x))) ∧ Ext w w' := by
  have HR := Lib.hid hr
  clear hr
  go_enter Try.func32, Try.ntmps32
  go_upto_region 1 with (fail)
  obtain ⟨W0, hW⟩ : ∃ W0, w.alloc (.cells #[.int .i64 k] 3) = W0 := ⟨_, rfl⟩
  have g0 : Ext w W0 := by rw [← hW]; exact Ext.al (Ext.rf _) _
  have ck : W0.cell? ⟨w.heap.size, 0, none⟩ = some (.int .i64 k) := by rw [← hW]; simp [go_sem]
  have lk : Lt w.heap.size W0 := by rw [← hW]; simp [Lt]
  have s0 := hs.ext g0
  have hsz : w.heap.size ≤ W0.heap.size := g0.size
  rw [hW]
  clear hW hs
  have HCL := Lib.hid (fun (x : Co) (W : World) (hm : x ∈ xs) (hE : Ext W0 W) => cwo1_cl x (HR.out x hm) k _ W (Nat.lt_of_lt_of_le lk hE.size) ((hE.cell (p := ⟨w.heap.size, 0, none⟩) lk).trans ck))
  go_wp2_with (go_at_call 59; go_must (with_reducible refine (parted_any 70 #[.pointer (some ⟨w.heap.size, 0, none⟩)] enters_cwo (inB k) p xs c _ s0 hl HCL.out).mono ?_); rintro e w' ⟨v1, v2, rfl, ⟨o1, o2, o3⟩, g1⟩; have O1 := Lib.hid o1; have O2 := Lib.hid o2; clear o1 o2 o3)
  exact bodyPost_ret (v := v2) (by simp [results, Try.results32, go_sem]) rfl ⟨v2, rfl, ownsRow_le O2.out hsz, g0.tr g1⟩

end Go.Proofs.Ytookffaojlkfaaa

/- The document's bytes of a number; Go; Turn. -/
namespace Go.Proofs.Ytookffaojlkfaaa
open Go.RowKit

theorem and255 (x : Int) (h0 : 0 ≤ x) (h1 : x < 4294967296) : bits .and .i64 x 255 = x % 256 := by
  have h := bits_mask .i64 32 (by decide) (fun n h0 h1 => by rw [IntKind.wrap_i64]; omega) 8 (by decide) x h0 (by omega)
  have e : ((2 : Int) ^ 8 - 1) = 255 := by decide
  have e2 : ((2 : Int) ^ 8) = 256 := by decide
  rw [e, e2] at h
  exact h
theorem div_lt (x : Int) (h0 : 0 ≤ x) (h1 : x < 4294967296) (k : Int) (hk : 1 ≤ k) : 0 ≤ x / k ∧ x / k < 4294967296 := by
  refine ⟨Int.ediv_nonneg h0 (by omega), ?_⟩
  exact Int.lt_of_le_of_lt (Int.ediv_le_self _ h0) h1
theorem cell_one_new (w : World) (a : Value) (t : TypeId) : ∀ j u, [a][j]? = some u → (w.alloc (.cells #[a] t)).cell? ((⟨w.heap.size, 0, none⟩ : Addr).add j) = some u := by
  intro j u h
  match j, h with
  | 0, h => cases h; simp [go_sem, Addr.add]
set_option maxRecDepth 20000 in
set_option maxHeartbeats 4000000 in
theorem rbytes_any (n : Int) (m : Nat) (hm : m ≤ 4) (h0 : 0 ≤ n) (h1 : n < 4294967296) (w : World) :
    Calls Try.prog 113 #[.int .i64 n, .int .i64 m] w fun e w' => ∃ v, e = .returned v ∧ w'.ownsRow w.heap.size 5 1 v m ((byN n m).map (Value.int .u8)) ∧ Ext w w' := by
  obtain ⟨i0, hi, hz0, hz1, hz2⟩ := info_parts info_U8
  have hwm : IntKind.i64.wrap ((m : Int) - 1) = (m : Int) - 1 := by rw [IntKind.wrap_i64]; omega
  go_enter Try.func113, Try.ntmps113
  go_wp2
  go_loopw [5, 6] (fun v a wr => ∃ q : Nat, q ≤ m ∧ a = .int .i64 ((q : Int) - 1) ∧ wr.ownsRow w.heap.size 5 1 v (m - q) (((byN n m).take (m - q)).map (Value.int .u8)) ∧ Ext w wr) (fun _ a _ => (intOf a + 1).toNat)
  case atStart => exact ⟨m, Nat.le_refl _, rfl, by rw [Nat.sub_self]; exact World.ownsRow_nil _ _ _ _, Ext.rf _⟩
  case round =>
    obtain ⟨q, hq, rfl, ho, hE⟩ := hrel
    by_cases hz : q = 0
    · subst hz
      have HO := Lib.hid ho
      clear ho
      go_wp2
      refine bodyPost_ret (v := u5) (by simp [results, Try.results113, go_sem]) rfl ⟨_, rfl, ?_, hE⟩
      have := HO.out
      rwa [Nat.sub_zero, List.take_of_length_le (by rw [byN_len]; omega)] at this
    · obtain ⟨j, rfl⟩ : ∃ j, q = j + 1 := ⟨q - 1, by omega⟩
      have hb0 : decide ((0 : Int) ≤ ((j + 1 : Nat) : Int) - 1) = true := decide_eq_true (by omega)
      have HT := Lib.hid (byN_take n m j (by omega))
      have HO := Lib.hid ho
      clear ho
      rw [show (((j + 1 : Nat) : Int) - 1) = j by omega] at hb0 ⊢
      have hj : j < 4 := by omega
      obtain rfl | rfl | rfl | rfl : j = 0 ∨ j = 1 ∨ j = 2 ∨ j = 3 := by omega
      · have HV := Lib.hid (show bits .and .i64 n 255 % 256 = n / 256 ^ 0 % 256 by
          rw [and255 _ h0 h1, show (256 : Int) ^ 0 = 1 by decide]; omega)
        go_wp2_with (at_builtin; go_must (refine wpList_append_own _ rfl _ _ 104 rfl w.heap.size 5 i0 (.int .u8 0) 1 1 Try.underlying104 hi hz0 hz1 hz2 rfl (by decide) _ _ _ rfl (HO.out.alloc _) ⟨wr.heap.size, 0, none⟩ 1 1 [.int .u8 (bits .and .i64 n 255 % 256)] rfl rfl (cell_one_new _ _ _) (by intro u hu; simp at hu; subst hu; rfl) (by unfold maxLen; omega) (by omega) (by have := hE.size; simp; omega) ?_); intro v' w3 hown hgrow _; have HN := Lib.hid hown; have HG := Lib.hid hgrow; clear hown hgrow)
        go_roundw
        case rel =>
          refine ⟨0, by omega, by go_num, ?_, Mv.ext_of (Ext.al hE _) (Mv.of_grown (C := fun k => w.heap.size ≤ k) HG.out fun r e => .inl (ownBlock_ge HO.out r e)) (fun k h => h)⟩
          have h := HN.out
          rw [HV.out, show m - (0 + 1) + 1 = m - 0 by omega] at h
          rw [← HT.out, List.map_append]
          exact h
        case measure => first | (simp [intOf]; done) | (simp [intOf]; omega)
      · have HV := Lib.hid (show bits .and .i64 (n / 256) 255 % 256 = n / 256 ^ 1 % 256 by
          rw [and255 _ (div_lt n h0 h1 256 (by omega)).1 (div_lt n h0 h1 256 (by omega)).2, show (256 : Int) ^ 1 = 256 by decide]; omega)
        go_wp2_with (at_builtin; go_must (refine wpList_append_own _ rfl _ _ 104 rfl w.heap.size 5 i0 (.int .u8 0) 1 1 Try.underlying104 hi hz0 hz1 hz2 rfl (by decide) _ _ _ rfl (HO.out.alloc _) ⟨wr.heap.size, 0, none⟩ 1 1 [.int .u8 (bits .and .i64 (n / 256) 255 % 256)] rfl rfl (cell_one_new _ _ _) (by intro u hu; simp at hu; subst hu; rfl) (by unfold maxLen; omega) (by omega) (by have := hE.size; simp; omega) ?_); intro v' w3 hown hgrow _; have HN := Lib.hid hown; have HG := Lib.hid hgrow; clear hown hgrow)
        go_roundw
        case rel =>
          refine ⟨1, by omega, by go_num, ?_, Mv.ext_of (Ext.al hE _) (Mv.of_grown (C := fun k => w.heap.size ≤ k) HG.out fun r e => .inl (ownBlock_ge HO.out r e)) (fun k h => h)⟩
          have h := HN.out
          rw [HV.out, show m - (1 + 1) + 1 = m - 1 by omega] at h
          rw [← HT.out, List.map_append]
          exact h
        case measure => first | (simp [intOf]; done) | (simp [intOf]; omega)
      · have HV := Lib.hid (show bits .and .i64 (n / 65536) 255 % 256 = n / 256 ^ 2 % 256 by
          rw [and255 _ (div_lt n h0 h1 65536 (by omega)).1 (div_lt n h0 h1 65536 (by omega)).2, show (256 : Int) ^ 2 = 65536 by decide]; omega)
        go_wp2_with (at_builtin; go_must (refine wpList_append_own _ rfl _ _ 104 rfl w.heap.size 5 i0 (.int .u8 0) 1 1 Try.underlying104 hi hz0 hz1 hz2 rfl (by decide) _ _ _ rfl (HO.out.alloc _) ⟨wr.heap.size, 0, none⟩ 1 1 [.int .u8 (bits .and .i64 (n / 65536) 255 % 256)] rfl rfl (cell_one_new _ _ _) (by intro u hu; simp at hu; subst hu; rfl) (by unfold maxLen; omega) (by omega) (by have := hE.size; simp; omega) ?_); intro v' w3 hown hgrow _; have HN := Lib.hid hown; have HG := Lib.hid hgrow; clear hown hgrow)
        go_roundw
        case rel =>
          refine ⟨2, by omega, by go_num, ?_, Mv.ext_of (Ext.al hE _) (Mv.of_grown (C := fun k => w.heap.size ≤ k) HG.out fun r e => .inl (ownBlock_ge HO.out r e)) (fun k h => h)⟩
          have h := HN.out
          rw [HV.out, show m - (2 + 1) + 1 = m - 2 by omega] at h
          rw [← HT.out, List.map_append]
          exact h
        case measure => first | (simp [intOf]; done) | (simp [intOf]; omega)
      · have HV := Lib.hid (show bits .and .i64 (n / 16777216) 255 % 256 = n / 256 ^ 3 % 256 by
          rw [and255 _ (div_lt n h0 h1 16777216 (by omega)).1 (div_lt n h0 h1 16777216 (by omega)).2, show (256 : Int) ^ 3 = 16777216 by decide]; omega)
        go_wp2_with (at_builtin; go_must (refine wpList_append_own _ rfl _ _ 104 rfl w.heap.size 5 i0 (.int .u8 0) 1 1 Try.underlying104 hi hz0 hz1 hz2 rfl (by decide) _ _ _ rfl (HO.out.alloc _) ⟨wr.heap.size, 0, none⟩ 1 1 [.int .u8 (bits .and .i64 (n / 16777216) 255 % 256)] rfl rfl (cell_one_new _ _ _) (by intro u hu; simp at hu; subst hu; rfl) (by unfold maxLen; omega) (by omega) (by have := hE.size; simp; omega) ?_); intro v' w3 hown hgrow _; have HN := Lib.hid hown; have HG := Lib.hid hgrow; clear hown hgrow)
        go_roundw
        case rel =>
          refine ⟨3, by omega, by go_num, ?_, Mv.ext_of (Ext.al hE _) (Mv.of_grown (C := fun k => w.heap.size ≤ k) HG.out fun r e => .inl (ownBlock_ge HO.out r e)) (fun k h => h)⟩
          have h := HN.out
          rw [HV.out, show m - (3 + 1) + 1 = m - 3 by omega] at h
          rw [← HT.out, List.map_append]
          exact h
        case measure => first | (simp [intOf]; done) | (simp [intOf]; omega)
set_option maxHeartbeats 1000000 in
theorem rgo_any (s : Int) (bs : List Int) (p : Option Addr) (c : Nat) (w : World) (hb : SlB w p bs) (hl : bs.length ≤ 1000) :
    Calls Try.prog 109 #[.int .u8 s, .slice p bs.length c] w fun e w' => e = .returned (.int .u8 (goL s bs)) ∧ w = w' := by
  go_enter Try.func109, Try.ntmps109
  go_wp2
  go_loopw [0, 5] (fun v a wr => ∃ k : Nat, k ≤ bs.length ∧ a = .int .i64 k ∧ v = .int .u8 (goL s (bs.take k)) ∧ wr = w) (fun _ a _ => bs.length - (intOf a).toNat)
  case atStart => exact ⟨0, Nat.zero_le _, rfl, rfl, rfl⟩
  case round =>
    obtain ⟨k, hk, rfl, rfl, rfl⟩ := hrel
    by_cases hlt : k < bs.length
    · have hil : (k : Int) < bs.length := by omega
      obtain ⟨b, off, rfl, lb, cb⟩ := hb k hlt
      obtain ⟨x, hx⟩ : ∃ x, bs[k] = x := ⟨_, rfl⟩
      have HS := Lib.hid (goL_snoc bs s k hlt)
      rw [hx] at cb HS
      obtain ⟨z, hz⟩ : ∃ z, goL s (bs.take k) = z := ⟨_, rfl⟩
      rw [hz] at HS ⊢
      have hB : 0 ≤ bits BinOp.xor IntKind.u8 z x ∧ bits BinOp.xor IntKind.u8 z x < 256 := xorB_bd z x
      clear hx hz
      go_wp2_with (go_at_call 118; (with_reducible refine (rturn_any (bits BinOp.xor IntKind.u8 z x) _ hB.1 hB.2).mono ?_); rintro e w1 ⟨rfl, rfl⟩)
      go_roundw
      case rel => exact ⟨k + 1, by omega, by go_num, by rw [HS.out]; rfl, trivial⟩
      case measure => simp [intOf]; omega
    · have hil : ¬ ((k : Int) < bs.length) := by omega
      have HK := Lib.hid (show bs.take k = bs by rw [List.take_of_length_le (by omega)])
      go_wp2
      exact bodyPost_ret (v := .int .u8 (goL s (bs.take k))) (by simp [results, Try.results109, go_sem]) rfl ⟨by rw [HK.out], rfl⟩

end Go.Proofs.Ytookffaojlkfaaa

/- A region that draws, whose operations turn blocks of C alone: what reads is taken first, calls and appends come in whatever order. (My own law; any program.) -/
namespace Go.Proofs.Ytookffaojlkfaaa
open Go.RowKit
section
variable {P : Program} {ops : Array Oper} {md : Region.Mode} {C : Nat → Prop}
def xUponK (P : Program) (N : Value → World → Prop) : Result Next → Prop
  | .ok (.value u) w' => N u w'
  | .ok .skip w' => N undef w'
  | .ok (.enter f args) w' => Calls P f args w' (fun e w'' => ∃ v, e = .returned v ∧ N v w'')
  | _ => False
theorem xUponK_mono {N N' : Value → World → Prop} (h : ∀ v w, N v w → N' v w) : ∀ r : Result Next, xUponK P N r → xUponK P N' r
  | .ok (.value u) w', hh => h _ _ hh
  | .ok .skip w', hh => h _ _ hh
  | .ok (.enter f args) w', hh => Calls.mono hh fun e w'' ⟨v, h1, h2⟩ => ⟨v, h1, h _ _ h2⟩
def xOpK (P : Program) (ops : Array Oper) (i : Nat) (K : Act → World → Prop) (a : Act) (w : World) : Prop :=
  match ops[i]? with
  | none => K a w
  | some o => if Region.wanted o (yielded ops a.tmps) = true then xUponK P (fun v w' => K (a.put o.dst v) w') ((execOp a.eval o).run P w) else K (a.put o.dst undef) w
theorem xOpK_mono {i : Nat} {a : Act} {w : World} {K K' : Act → World → Prop} (h : ∀ a w, K a w → K' a w) (hh : xOpK P ops i K a w) : xOpK P ops i K' a w := by
  unfold xOpK at *
  split
  · exact h _ _ (by simpa [*] using hh)
  · rename_i o ho
    simp only [ho] at hh
    split
    · rename_i hw; simp only [hw, if_true] at hh; exact xUponK_mono (fun v w' h1 => h _ _ h1) _ hh
    · rename_i hw; simp only [hw] at hh; exact h _ _ hh
theorem wpOp_of_xOpK {i : Nat} {a : Act} {w : World} {K : Act → World → Prop} {Q : Exit → Act → World → Prop} (hh : xOpK P ops i K a w) : wpOp P ops Q i K a w := by
  unfold xOpK at hh
  unfold wpOp
  split
  · rename_i ho; simp only [ho] at hh; exact hh
  · rename_i o ho
    simp only [ho] at hh
    split
    · rename_i hw
      simp only [hw, if_true] at hh
      left
      unfold Oper.wp
      generalize (execOp a.eval o).run P w = r at *
      cases r with
      | ok n w' =>
        cases n <;> simp only [xUponK] at hh <;> simp only [Oper.upon]
        case value u => exact hh
        case skip => exact hh
        case enter f args => exact hh.mono fun e w'' ⟨v, he, hw''⟩ => by subst he; exact hw''
      | halt x w' => simp only [xUponK] at hh
    · rename_i hw; simp only [hw] at hh; exact hh
/-- Whatever order is picked from here on; each operation makes new blocks alone. -/
def wpAnyK (C : Nat → Prop) (P : Program) (md : Region.Mode) (ops : Array Oper) (Q : Act → World → Prop) : Nat → Array Bool → Act → World → Prop
  | 0, listed, a, w => Region.ready md ops listed = [] ∧ Q a w
  | fuel + 1, listed, a, w => (Region.ready md ops listed = [] → Q a w) ∧
    ∀ i ∈ Region.ready md ops listed, xOpK P ops i (fun a' w' => Mv C w w' ∧ wpAnyK C P md ops Q fuel (listed.setIfInBounds i true) a' w') a w
theorem wpAny_of_K {Q : Act → World → Prop} {Q' : Exit → Act → World → Prop} (hQ : ∀ a w, Q a w → Q' .normal a w) : ∀ (fuel : Nat) (listed : Array Bool) (a : Act) (w : World),
    wpAnyK C P md ops Q fuel listed a w → wpAny P md ops Q' fuel listed a w
  | 0, _, _, _, h => ⟨h.1, hQ _ _ h.2⟩
  | fuel + 1, _, _, _, h => ⟨fun h0 => hQ _ _ (h.1 h0), fun i hi => wpOp_of_xOpK (xOpK_mono (fun a' w' h1 => wpAny_of_K hQ fuel _ a' w' h1.2) (h.2 i hi))⟩
/-- In state 'a', in every world that w grows to, 'o' yields v and does nothing else. -/
def YieldsK (C : Nat → Prop) (P : Program) (ops : Array Oper) (w : World) (o : Oper) (v : Value) (a : Act) : Prop :=
  (Region.wanted o (yielded ops a.tmps) = true ∧ ∀ w', Mv C w w' → (execOp a.eval o).run P w' = .ok (.value v) w') ∨ (Region.wanted o (yielded ops a.tmps) = false ∧ v = undef) ∨
    (Region.wanted o (yielded ops a.tmps) = true ∧ ∃ f args, ∀ w', Mv C w w' → (execOp a.eval o).run P w' = .ok (.enter f args) w' ∧ Calls P f args w' fun e w'' => e = .returned v ∧ w'' = w')
theorem YieldsK.later {w w' : World} {o : Oper} {v : Value} {a : Act} (h : YieldsK C P ops w o v a) (e : Mv C w w') : YieldsK C P ops w' o v a := by
  rcases h with ⟨h1, h2⟩ | h | ⟨h1, f, args, h2⟩
  · exact .inl ⟨h1, fun w2 e2 => h2 w2 (e.trans e2)⟩
  · exact .inr (.inl h)
  · exact .inr (.inr ⟨h1, f, args, fun w2 e2 => h2 w2 (e.trans e2)⟩)
theorem YieldsK.xOpK {w : World} {i : Nat} {o : Oper} {v : Value} {a : Act} (hi : ops[i]? = some o) (hy : YieldsK C P ops w o v a) {K : Act → World → Prop} (h : K (a.put o.dst v) w) : xOpK P ops i K a w := by
  unfold Go.Proofs.Ytookffaojlkfaaa.xOpK
  simp only [hi]
  rcases hy with ⟨hw, hv⟩ | ⟨hw, rfl⟩ | ⟨hw, f, args, hv⟩
  · simp only [hw, if_true, hv w (Mv.refl _ _), xUponK]; exact h
  · simp only [hw, Bool.false_eq_true, if_false]; exact h
  · simp only [hw, if_true, (hv w (Mv.refl _ _)).1, xUponK]
    exact (hv w (Mv.refl _ _)).2.mono fun e w'' ⟨h1, h2⟩ => ⟨v, h1, by rw [h2]; exact h⟩
theorem xOpK_put {j : Nat} {oi oj : Oper} {v : Value} {w : World} (hj : ops[j]? = some oj) (hap : oi.apart ops oj = true)
    (hsi : ∀ cs b, oi.op ≠ .select cs b) (hsj : ∀ cs b, oj.op ≠ .select cs b) {K : Act → World → Prop} {a : Act}
    (hy : YieldsK C P ops w oi v a) (h : xOpK P ops j K (a.put oi.dst v) w) :
    xOpK P ops j (fun a' w' => YieldsK C P ops w oi v a' ∧ K (a'.put oi.dst v) w') a w := by
  obtain ⟨h1, h2, h3⟩ := Oper.apart_spec hap
  have keep : ∀ u, YieldsK C P ops w oi v (a.put oj.dst u) := fun u => by
    unfold YieldsK at *
    rw [execOp_put oi hsi a oj.dst u h3, wanted_put oi a oj.dst u h3]
    exact hy
  unfold xOpK at *
  simp only [hj] at *
  rw [wanted_put oj a oi.dst v h1] at h
  split
  · rename_i hw
    simp only [hw, if_true] at h
    rw [execOp_put oj hsj a oi.dst v h1] at h
    exact xUponK_mono (fun u w' h4 => ⟨keep u, by rw [← Act.put_comm a v u h2]; exact h4⟩) _ h
  · rename_i hw
    simp only [hw] at h
    exact ⟨keep _, by rw [← Act.put_comm a v undef h2]; exact h⟩
/-- What reads may be taken first. -/
theorem wpAnyK_first {Q : Act → World → Prop} {i : Nat} {oi : Oper} {v : Value} (hi : ops[i]? = some oi) (hsel : ∀ (j : Nat) (o : Oper) cs b, ops[j]? = some o → o.op ≠ .select cs b) :
    ∀ (fuel : Nat) (listed : Array Bool) (a : Act) (w : World),
      (∀ j oj, ops[j]? = some oj → j ≠ i → listed.getD j true = false → (∀ e ∈ oj.after, Region.binds md e = true → e.on ≠ i) → oi.apart ops oj = true) →
      i ∈ Region.ready md ops listed → YieldsK C P ops w oi v a →
      wpAnyK C P md ops Q fuel (listed.setIfInBounds i true) (a.put oi.dst v) w → wpAnyK C P md ops Q (fuel + 1) listed a w := by
  intro fuel
  induction fuel with
  | zero =>
    intro listed a w _ hr hy H
    refine ⟨fun h => (by rw [h] at hr; cases hr), fun j hj => ?_⟩
    by_cases hji : j = i
    · subst hji; exact hy.xOpK hi ⟨Mv.refl _ _, H⟩
    · have := ready_mono hj hji
      rw [H.1] at this
      cases this
  | succ fuel ih =>
    intro listed a w hfree hr hy H
    refine ⟨fun h => (by rw [h] at hr; cases hr), fun j hj => ?_⟩
    by_cases hji : j = i
    · subst hji; exact hy.xOpK hi ⟨Mv.refl _ _, H⟩
    · have h1 := H.2 j (ready_mono hj hji)
      obtain ⟨hjun, oj, hoj, hall⟩ := mem_ready.1 hj
      have hnot : ∀ e ∈ oj.after, Region.binds md e = true → e.on ≠ i := fun e he hb heq => by
        have h1 := hall e he hb
        have h0 := (mem_ready.1 hr).1
        rw [heq] at h1
        rcases Nat.lt_or_ge i listed.size with h' | h'
        · simp [h'] at h0 h1; rw [h0] at h1; cases h1
        · simp [Array.getElem?_eq_none h'] at h1
      have h2 := xOpK_put hoj (hfree j oj hoj hji hjun hnot) (fun cs b => hsel i oi cs b hi) (fun cs b => hsel j oj cs b hoj) hy h1
      have hfree' : ∀ k ok, ops[k]? = some ok → k ≠ i → (listed.setIfInBounds j true).getD k true = false →
          (∀ e ∈ ok.after, Region.binds md e = true → e.on ≠ i) → oi.apart ops ok = true := fun k ok hk hki hun hno => by
        refine hfree k ok hk hki ?_ hno
        by_cases hjk : j = k
        · subst hjk; exact hjun
        · rw [getD_set_ne true hjk] at hun; exact hun
      refine xOpK_mono (fun a' w' h3 => ⟨h3.2.1, ih (listed.setIfInBounds j true) a' w' hfree' (ready_mono hr (Ne.symm hji)) (h3.1.later h3.2.1) ?_⟩) h2
      have h4 := h3.2.2
      rw [Array.setIfInBounds_comm _ _ hji]
      exact h4
theorem takeK {Q : Act → World → Prop} {i : Nat} {oi : Oper} {v : Value} {fuel : Nat} {listed : Array Bool} {a : Act} {w : World} (hi : ops[i]? = some oi) (hs : Region.noSelect ops = true)
    (hf : Region.free md ops listed i = true) (hr : (Region.ready md ops listed).contains i = true) (hw : Region.wanted oi (yielded ops a.tmps) = true)
    (hy : ∀ w', Mv C w w' → (execOp a.eval oi).run P w' = .ok (.value v) w')
    (H : wpAnyK C P md ops Q fuel (listed.setIfInBounds i true) (a.put oi.dst v) w) : wpAnyK C P md ops Q (fuel + 1) listed a w :=
  wpAnyK_first hi (Region.noSelect_spec hs) fuel listed a w (Region.free_spec hi hf) (by simpa using hr) (.inl ⟨hw, hy⟩) H
theorem doneK {Q : Act → World → Prop} {fuel : Nat} {listed : Array Bool} {a : Act} {w : World} (hr : Region.ready md ops listed = []) (H : Q a w) : wpAnyK C P md ops Q fuel listed a w := by
  cases fuel with
  | zero => exact ⟨hr, H⟩
  | succ n => exact ⟨fun _ => H, fun i hi => by rw [hr] at hi; cases hi⟩
theorem wp_region_K {id : Nat} {Q : Exit → Act → World → Prop} {a : Act} {w : World} (C : Nat → Prop) (hm : P.follows .mixedOrders = true)
    (h : wpAnyK C P .any ops (fun a w => Q .normal a w) ops.size (Array.replicate ops.size false) a w.drew) : (Code.region id ops true).wp P Q a w :=
  wp_region_any hm (wpAny_of_K (fun _ _ h => h) _ _ _ _ h)
/-- Those of l are done. -/
def don (n : Nat) (l : List Nat) : Array Bool := ((List.range n).map fun j => l.contains j).toArray
theorem don_set (n k : Nat) (l : List Nat) : (don n l).setIfInBounds k true = don n (k :: l) := by
  unfold don
  refine Array.ext_getElem? fun i => ?_
  rw [Array.getElem?_setIfInBounds]
  by_cases hi : i < n
  · by_cases h : k = i
    · subst h; simp [hi]
    · have h' : ¬ i = k := fun e => h e.symm
      simp [h, h', hi]
  · by_cases h : k = i
    · subst h; simp [hi]
    · simp [h, hi]
theorem don_zero (n : Nat) : Array.replicate n false = don n [] := by
  unfold don
  refine Array.ext_getElem? fun i => ?_
  by_cases hi : i < n <;> simp [hi, Array.getElem?_replicate]
/-- These may be taken one behind the other. -/
def takesB (ops : Array Oper) (n : Nat) : List Nat → List Nat → Bool
  | [], _ => true
  | k :: rest, d => Region.free .any ops (don n d) k && upX ops (don n d) k && takesB ops n rest (k :: d)
theorem takeD {Q : Act → World → Prop} {N k : Nat} {d rest : List Nat} {oi : Oper} {v : Value} {fuel : Nat} {a : Act} {w : World} (hs : Region.noSelect ops = true) (ht : takesB ops N (k :: rest) d = true)
    (hi : ops[k]? = some oi) (hw : Region.wanted oi (yielded ops a.tmps) = true) (hy : ∀ w', Mv C w w' → (execOp a.eval oi).run P w' = .ok (.value v) w')
    (H : takesB ops N rest (k :: d) = true → wpAnyK C P .any ops Q fuel (don N (k :: d)) (a.put oi.dst v) w) : wpAnyK C P .any ops Q (fuel + 1) (don N d) a w := by
  unfold takesB at ht
  simp only [Bool.and_eq_true] at ht
  obtain ⟨⟨t1, t2⟩, t5⟩ := ht
  refine takeK hi hs t1 (upX_ready t2) hw hy ?_
  rw [don_set]
  exact H t5
/-- One operation, and then the others. -/
def stepK (C : Nat → Prop) (P : Program) (ops : Array Oper) (Q : Act → World → Prop) (fuel N k : Nat) (d : List Nat) (a : Act) (w : World) : Prop :=
  xOpK P ops k (fun a' w' => Mv C w w' ∧ wpAnyK C P .any ops Q fuel (don N (k :: d)) a' w') a w
theorem soleD {Q : Act → World → Prop} {N k : Nat} {d : List Nat} {fuel : Nat} {a : Act} {w : World} (hr : Region.ready .any ops (don N d) = [k]) (H : stepK C P ops Q fuel N k d a w) : wpAnyK C P .any ops Q (fuel + 1) (don N d) a w := by
  refine ⟨fun h0 => ?_, fun j hj => ?_⟩
  · rw [hr] at h0; cases h0
  · rw [hr] at hj
    obtain rfl : j = k := by simpa using hj
    rw [don_set]
    exact H
theorem forkD {Q : Act → World → Prop} {N i j : Nat} {d : List Nat} {fuel : Nat} {a : Act} {w : World} (hr : Region.ready .any ops (don N d) = [i, j]) (Hi : stepK C P ops Q fuel N i d a w) (Hj : stepK C P ops Q fuel N j d a w) : wpAnyK C P .any ops Q (fuel + 1) (don N d) a w := by
  refine ⟨fun h0 => ?_, fun k hk => ?_⟩
  · rw [hr] at h0; cases h0
  · rw [hr] at hk
    have hk' : k = i ∨ k = j := by simpa using hk
    rw [don_set]
    rcases hk' with rfl | rfl
    · exact Hi
    · exact Hj
theorem makeD {Q : Act → World → Prop} {N k : Nat} {d : List Nat} {oi : Oper} {v : Value} {fuel : Nat} {a : Act} {w w1 : World} (hi : ops[k]? = some oi) (hw : Region.wanted oi (yielded ops a.tmps) = true)
    (he : (execOp a.eval oi).run P w = .ok (.value v) w1) (hE : Mv C w w1) (H : wpAnyK C P .any ops Q fuel (don N (k :: d)) (a.put oi.dst v) w1) : stepK C P ops Q fuel N k d a w := by
  unfold stepK xOpK
  simp only [hi, hw, if_true, he]
  exact ⟨hE, H⟩
theorem callD {R : Value → World → Prop} {Q : Act → World → Prop} {N k : Nat} {d : List Nat} {oi : Oper} {f : FuncId} {args : Array Value} {fuel : Nat} {a : Act} {w : World} (hi : ops[k]? = some oi) (hw : Region.wanted oi (yielded ops a.tmps) = true)
    (he : (execOp a.eval oi).run P w = .ok (.enter f args) w) (hc : Calls P f args w fun e w' => ∃ v, e = .returned v ∧ R v w' ∧ Ext w w')
    (H : ∀ v w', Ext w w' → R v w' → wpAnyK C P .any ops Q fuel (don N (k :: d)) (a.put oi.dst v) w') : stepK C P ops Q fuel N k d a w := by
  unfold stepK xOpK
  simp only [hi, hw, if_true, he]
  exact hc.mono fun e w' ⟨v, h1, h2, h3⟩ => ⟨v, h1, Mv.of_ext h3, H v w' h3 h2⟩
theorem withK {P : Program} {ops E : Array Oper} {Q : Act → World → Prop} {N : Nat} {a : Act} {w : World} {R : Array Oper → Prop} (h : ops = E) (hR : R E) (hf : ops.size = N)
    (H : R ops → wpAnyK C P .any ops Q N (don N []) a w) : wpAnyK C P .any ops Q ops.size (Array.replicate ops.size false) a w := by
  rw [hf, don_zero]; exact H (h ▸ hR)
end

end Go.Proofs.Ytookffaojlkfaaa

/- The document's bytes of a tuple: rows that are put together. -/
namespace Go.Proofs.Ytookffaojlkfaaa
open Go.RowKit

def OB (w : World) (base : Nat) (v : Value) (bs : List Int) : Prop := w.ownsRow base 5 1 v bs.length (bs.map (Value.int .u8))
theorem OB.ext {w w' : World} {base : Nat} {v : Value} {bs : List Int} (h : OB w base v bs) (e : Ext w w') : OB w' base v bs := own_ext h e
theorem OB.le {w : World} {base b' : Nat} {v : Value} {bs : List Int} (h : OB w base v bs) (e : b' ≤ base) : OB w b' v bs := ownsRow_le h e
theorem OB.cells {w : World} {base : Nat} {v : Value} {bs : List Int} (h : OB w base v bs) (hn : 0 < bs.length) : ∃ g c, v = .slice (some ⟨g, 0, none⟩) bs.length c ∧ base ≤ g ∧ g < w.heap.size ∧ ∀ j u, (bs.map (Value.int .u8))[j]? = some u → w.cell? ⟨g, j, none⟩ = some u := by
  rcases h.2 with ⟨rfl, h0⟩ | ⟨g, cap, cur, rfl, hg, hgb, h1, h2, h3, h4⟩
  · omega
  · refine ⟨g, cap, rfl, hg, (Array.getElem?_eq_some_iff.1 hgb).1, fun j u hu => ?_⟩
    rw [← h4] at hu
    rw [cell_rowD]
    unfold rowD
    rw [hgb]
    obtain ⟨hj, -⟩ := List.getElem?_eq_some_iff.1 hu
    rw [List.length_take] at hj
    rw [List.getElem?_take, if_pos (by omega), Array.getElem?_toList] at hu
    exact hu
theorem OB.sl {w : World} {base : Nat} {v : Value} {bs : List Int} (h : OB w base v bs) (hn : 0 < bs.length) : ∃ p c, v = .slice p bs.length c ∧ SlB w p bs := by
  obtain ⟨g, c, rfl, h1, h2, h3⟩ := h.cells hn
  refine ⟨_, c, rfl, fun k hk => ⟨g, 0, rfl, h2, ?_⟩⟩
  rw [Nat.zero_add]
  refine h3 k _ ?_
  rw [List.getElem?_map, List.getElem?_eq_getElem hk]
  rfl
theorem app_OB {w : World} {base : Nat} {v1 v2 : Value} {b1 b2 : List Int} {base2 : Nat} (h1 : OB w base v1 b1) (h2 : OB w base2 v2 b2) (hp : 0 < b2.length) (hl : b1.length + b2.length ≤ 1000) (hb : base ≤ w.heap.size)
    (ρ : Operand → Value) (dst : Option Tmp) (x y : Operand) (ty : TypeId) (pos : String) (after : Array Edge) (g : Option (Nat × Bool)) (hx : ρ x = v1) (hy : ρ y = v2) :
    ∃ v' w', (execOp ρ ⟨dst, .call { callee := .builtin .append, args := #[x, y], argTypes := #[104, 104] }, ty, pos, after, g⟩).run Try.prog w = .ok (.value v') w' ∧ OB w' base v' (b1 ++ b2) ∧ w.grownBy w' v1.ownBlock := by
  obtain ⟨i0, hi, hz0, hz, hz2⟩ := info_parts info_U8
  obtain ⟨gg, c, rfl, h3, h4, h5⟩ := h2.cells hp
  obtain ⟨v', w', hr, ho, hg, -, -⟩ := run_append_own_at (P := Try.prog) w base 104 ty 5 i0 (.int .u8 0) 1 1 Try.underlying104 hi hz0 hz hz2 rfl (by decide) v1 b1.length _ h1 ⟨gg, 0, none⟩ b2.length c (b2.map (Value.int .u8)) (by simp) (fun j u hu => by
    have := h5 j u hu
    by_cases hj : j = 0 <;> simp_all [Addr.add]) (by intro u hu; obtain ⟨z, -, rfl⟩ := List.mem_map.1 hu; rfl) (by unfold maxLen; omega) (by omega) hb
  refine ⟨v', w', ?_, ?_, hg⟩
  · simp [execOp, resolve, invoke, builtin, hx, hy, hr, Result.andThen]
  · unfold OB
    rw [List.length_append, List.map_append]
    exact ho
theorem grown_mv {w w' : World} {base : Nat} {v : Value} {bs : List Int} (h : OB w base v bs) (hg : w.grownBy w' v.ownBlock) : Mv (fun k => base ≤ k) w w' := Mv.of_grown hg fun r e => .inl (ownBlock_ge h r e)
theorem OB.keep {w w' : World} {base b2 : Nat} {v u : Value} {bs cs : List Int} (h : OB w base v bs) (hg : w.grownBy w' v.ownBlock) (h2 : OB w b2 u cs) (hn : ∀ g, v.ownBlock = some g → g < b2) : OB w' b2 u cs :=
  own_keep h2 hg fun g hu hv => by
    have a1 := ownBlock_ge h2 g hu
    have a2 := hn g hv
    omega
theorem appD {ops : Array Oper} {Q : Act → World → Prop} {N k : Nat} {d : List Nat} {dst : Option Tmp} {x y : Operand} {ty : TypeId} {pos : String} {after : Array Edge} {fuel : Nat} {a : Act} {w : World} {base base2 : Nat} {v1 v2 : Value} {b1 b2 : List Int}
    (hi : ops[k]? = some ⟨dst, .call { callee := .builtin .append, args := #[x, y], argTypes := #[104, 104] }, ty, pos, after, none⟩) (hx : a.eval x = v1) (hy : a.eval y = v2) (h1 : OB w base v1 b1) (h2 : OB w base2 v2 b2) (hp : 0 < b2.length) (hl : b1.length + b2.length ≤ 1000) (hb : base ≤ w.heap.size)
    (H : ∀ v' w', Mv (fun k => base ≤ k) w w' → OB w' base v' (b1 ++ b2) → wpAnyK (fun k => base ≤ k) Try.prog .any ops Q fuel (don N (k :: d)) (a.put dst v') w') : stepK (fun k => base ≤ k) Try.prog ops Q fuel N k d a w := by
  obtain ⟨v', w', hr, ho, hg⟩ := app_OB h1 h2 hp hl hb a.eval dst x y ty pos after none hx hy
  exact makeD hi rfl hr (grown_mv h1 hg) (H v' w' (grown_mv h1 hg) ho)

end Go.Proofs.Ytookffaojlkfaaa

/- The document's bytes of a tuple. -/
namespace Go.Proofs.Ytookffaojlkfaaa
open Go.RowKit

def SchQ1 (ops : Array Oper) : Prop := Region.noSelect ops = true ∧ takesB ops 10 [0, 1, 2, 4, 5, 6] [] = true ∧ Region.ready .any ops (don 10 [6, 5, 4, 2, 1, 0]) = [3] ∧ Region.ready .any ops (don 10 [3, 6, 5, 4, 2, 1, 0]) = [7] ∧ Region.ready .any ops (don 10 [7, 3, 6, 5, 4, 2, 1, 0]) = [8] ∧ Region.ready .any ops (don 10 [8, 7, 3, 6, 5, 4, 2, 1, 0]) = [9] ∧ Region.ready .any ops (don 10 [9, 8, 7, 3, 6, 5, 4, 2, 1, 0]) = []
theorem schSchQ1 : SchQ1 ((Try.f90.body.bind (findR 1)).getD #[]) := ⟨by kernel_rfl, by kernel_rfl, by kernel_rfl, by kernel_rfl, by kernel_rfl, by kernel_rfl, by kernel_rfl⟩

def SchQ2 (ops : Array Oper) : Prop := Region.noSelect ops = true ∧ takesB ops 12 [0, 1, 2, 3, 6, 7, 8] [] = true ∧ Region.ready .any ops (don 12 [8, 7, 6, 3, 2, 1, 0]) = [4] ∧ Region.ready .any ops (don 12 [4, 8, 7, 6, 3, 2, 1, 0]) = [5] ∧ Region.ready .any ops (don 12 [5, 4, 8, 7, 6, 3, 2, 1, 0]) = [9] ∧ Region.ready .any ops (don 12 [9, 5, 4, 8, 7, 6, 3, 2, 1, 0]) = [10] ∧ Region.ready .any ops (don 12 [10, 9, 5, 4, 8, 7, 6, 3, 2, 1, 0]) = [11] ∧ Region.ready .any ops (don 12 [11, 10, 9, 5, 4, 8, 7, 6, 3, 2, 1, 0]) = []
theorem schSchQ2 : SchQ2 ((Try.f90.body.bind (findR 2)).getD #[]) := ⟨by kernel_rfl, by kernel_rfl, by kernel_rfl, by kernel_rfl, by kernel_rfl, by kernel_rfl, by kernel_rfl, by kernel_rfl⟩

theorem loadK {C : Nat → Prop} {w : World} {B k : Nat} {n : Int} {kd : IntKind} (h0 : w.cell? ⟨B, k, none⟩ = some (.int kd n)) (hl : Lt B w) (hC : ¬ C B) (ρ : Operand → Value) (o : Oper)
    (hr : ∀ w' : World, w'.cell? ⟨B, k, none⟩ = some (.int kd n) → (execOp ρ o).run Try.prog w' = .ok (.value (.int kd n)) w') : ∀ w', Mv C w w' → (execOp ρ o).run Try.prog w' = .ok (.value (.int kd n)) w' := by
  intro w' hE
  exact hr w' (by rw [cell_rowD, rowD_same (hE.same B hl hC), ← cell_rowD]; exact h0)
theorem ld32_run {w : World} {B k : Nat} {n : Int} (h0 : w.cell? ⟨B, k, none⟩ = some (.int .u32 n)) (ρ : Operand → Value) (dst : Option Tmp) (x : Operand) (ty : TypeId) (pos : String) (after : Array Edge) (g : Option (Nat × Bool)) (hx : ρ x = .pointer (some ⟨B, k, none⟩)) :
    (execOp ρ ⟨dst, .load 23 x, ty, pos, after, g⟩).run Try.prog w = .ok (.value (.int .u32 n)) w := by
  simp only [execOp, hx]
  go_simp
theorem ld16_run {w : World} {B k : Nat} {n : Int} (h0 : w.cell? ⟨B, k, none⟩ = some (.int .u16 n)) (ρ : Operand → Value) (dst : Option Tmp) (x : Operand) (ty : TypeId) (pos : String) (after : Array Edge) (g : Option (Nat × Bool)) (hx : ρ x = .pointer (some ⟨B, k, none⟩)) :
    (execOp ρ ⟨dst, .load 24 x, ty, pos, after, g⟩).run Try.prog w = .ok (.value (.int .u16 n)) w := by
  simp only [execOp, hx]
  go_simp
theorem cv32_run {n : Int} (hn : IntKind.i64.wrap n = n) (ρ : Operand → Value) (dst : Option Tmp) (x : Operand) (ty : TypeId) (pos : String) (after : Array Edge) (g : Option (Nat × Bool)) (hx : ρ x = .int .u32 n) (w : World) :
    (execOp ρ ⟨dst, .convert 23 3 x, ty, pos, after, g⟩).run Try.prog w = .ok (.value (.int .i64 n)) w := by
  simp only [execOp, hx]
  go_simp
  try simp [hn]
theorem cv16_run {n : Int} (hn : IntKind.i64.wrap n = n) (ρ : Operand → Value) (dst : Option Tmp) (x : Operand) (ty : TypeId) (pos : String) (after : Array Edge) (g : Option (Nat × Bool)) (hx : ρ x = .int .u16 n) (w : World) :
    (execOp ρ ⟨dst, .convert 24 3 x, ty, pos, after, g⟩).run Try.prog w = .ok (.value (.int .i64 n)) w := by
  simp only [execOp, hx]
  go_simp
  try simp [hn]
theorem rb_any (n : Int) (m : Nat) (hm : m ≤ 4) (h0 : 0 ≤ n) (h1 : n < 4294967296) (w : World) :
    Calls Try.prog 113 #[.int .i64 n, .int .i64 m] w fun e w' => ∃ v, e = .returned v ∧ OB w' w.heap.size v (byN n m) ∧ Ext w w' :=
  (rbytes_any n m hm h0 h1 w).mono fun e w' ⟨v, h1, h2, h3⟩ => ⟨v, h1, by unfold OB; rw [byN_len]; exact h2, h3⟩

set_option maxRecDepth 100000 in
set_option maxHeartbeats 8000000 in
theorem rBytes_any (t : Tu) (hr : TuR t) (w : World) :
    Calls Try.prog 90 #[tu t.a t.b t.c t.d] w fun e w' => ∃ v, e = .returned v ∧ OB w' w.heap.size v (tb t) ∧ Ext w w' := by
  obtain ⟨⟨a0, a1⟩, ⟨b0, b1⟩, ⟨c0, c1⟩, ⟨d0, d1⟩⟩ := hr
  have wa : IntKind.i64.wrap t.a = t.a := by rw [IntKind.wrap_i64]; omega
  have wb : IntKind.i64.wrap t.b = t.b := by rw [IntKind.wrap_i64]; omega
  have wc : IntKind.i64.wrap t.c = t.c := by rw [IntKind.wrap_i64]; omega
  have wd : IntKind.i64.wrap t.d = t.d := by rw [IntKind.wrap_i64]; omega
  go_enter Try.func90, Try.ntmps90
  go_upto_region 1 with (fail)
  obtain ⟨W0, hW⟩ : ∃ W0, w.alloc (.cells #[.int .u32 t.a, .int .u32 t.b, .int .u16 t.c, .int .u16 t.d] 26) = W0 := ⟨_, rfl⟩
  have g0 : Ext w W0 := by rw [← hW]; exact Ext.al (Ext.rf _) _
  have x0 : W0.cell? ⟨w.heap.size, 0, none⟩ = some (.int .u32 t.a) := by rw [← hW]; simp [go_sem]
  have x1 : W0.cell? ⟨w.heap.size, 1, none⟩ = some (.int .u32 t.b) := by rw [← hW]; simp [go_sem]
  have x2 : W0.cell? ⟨w.heap.size, 2, none⟩ = some (.int .u16 t.c) := by rw [← hW]; simp [go_sem]
  have x3 : W0.cell? ⟨w.heap.size, 3, none⟩ = some (.int .u16 t.d) := by rw [← hW]; simp [go_sem]
  have hsz : W0.heap.size = w.heap.size + 1 := by rw [← hW]; simp
  have lB : Lt w.heap.size W0 := by unfold Lt; omega
  rw [hW]
  clear hW
  refine wp_region_K (fun k => W0.heap.size ≤ k) (by kernel_rfl) ?_
  obtain ⟨W1, hW1⟩ : ∃ W1, W0.drew = W1 := ⟨_, rfl⟩
  have g1 : Ext W0 W1 := by rw [← hW1]; exact Ext.dr (Ext.rf _)
  rw [hW1]
  clear hW1
  have hnC : ¬ (W0.heap.size ≤ w.heap.size) := by omega
  have y0 := (g1.cell (p := ⟨w.heap.size, 0, none⟩) lB).trans x0
  have y1 := (g1.cell (p := ⟨w.heap.size, 1, none⟩) lB).trans x1
  have lB1 : Lt w.heap.size W1 := Nat.lt_of_lt_of_le lB g1.size
  refine withK (N := 10) (R := SchQ1) (E := ((Try.f90.body.bind (findR 1)).getD #[])) (by kernel_rfl) schSchQ1 (by kernel_rfl) fun hS => ?_
  have hT := hS.2.1
  refine takeD (N := 10) (k := 0) (v := .pointer (some ⟨w.heap.size, 0, none⟩)) hS.1 hT rfl (by kernel_rfl) (fun _ _ => by kernel_rfl) fun hT => ?_
  refine takeD (N := 10) (k := 1) (v := .int .u32 t.a) hS.1 hT rfl (by kernel_rfl) (loadK y0 lB1 hnC _ _ fun w' h => ld32_run h _ _ _ _ _ _ _ (by kernel_rfl)) fun hT => ?_
  refine takeD (N := 10) (k := 2) (v := .int .i64 t.a) hS.1 hT rfl (by kernel_rfl) (fun w' _ => cv32_run wa _ _ _ _ _ _ _ (by kernel_rfl) w') fun hT => ?_
  refine takeD (N := 10) (k := 4) (v := .pointer (some ⟨w.heap.size, 1, none⟩)) hS.1 hT rfl (by kernel_rfl) (fun _ _ => by kernel_rfl) fun hT => ?_
  refine takeD (N := 10) (k := 5) (v := .int .u32 t.b) hS.1 hT rfl (by kernel_rfl) (loadK y1 lB1 hnC _ _ fun w' h => ld32_run h _ _ _ _ _ _ _ (by kernel_rfl)) fun hT => ?_
  refine takeD (N := 10) (k := 6) (v := .int .i64 t.b) hS.1 hT rfl (by kernel_rfl) (fun w' _ => cv32_run wb _ _ _ _ _ _ _ (by kernel_rfl) w') fun hT => ?_
  refine soleD hS.2.2.1 (callD (R := fun v w' => OB w' W1.heap.size v (byN t.a 4)) rfl rfl (by kernel_rfl) (rb_any t.a 4 (by omega) a0 a1 W1) fun v1 W2 g2 o1 => ?_)
  refine soleD hS.2.2.2.1 (callD (R := fun v w' => OB w' W2.heap.size v (byN t.b 4)) rfl rfl (by kernel_rfl) (rb_any t.b 4 (by omega) b0 b1 W2) fun v2 W3 g3 o2 => ?_)
  have hb2 : W0.heap.size ≤ W3.heap.size := (g1.tr (g2.tr g3)).size
  refine soleD hS.2.2.2.2.1 (appD rfl (by kernel_rfl) (by kernel_rfl) ((o1.ext g3).le g1.size) o2 (by rw [byN_len]; omega) (by rw [byN_len, byN_len]; omega) hb2 fun v3 W4 m4 o3 => ?_)
  refine soleD hS.2.2.2.2.2.1 (makeD (v := v3) rfl rfl (by kernel_rfl) (Mv.refl _ _) ?_)
  refine doneK hS.2.2.2.2.2.2 ?_
  have M4 : Mv (fun k => W0.heap.size ≤ k) W0 W4 := (Mv.of_ext (g1.tr (g2.tr g3))).trans m4
  have hO := Lib.hid o3
  have z2 : W4.cell? ⟨w.heap.size, 2, none⟩ = some (.int .u16 t.c) := by rw [cell_rowD, rowD_same (M4.same _ lB hnC), ← cell_rowD]; exact x2
  have z3 : W4.cell? ⟨w.heap.size, 3, none⟩ = some (.int .u16 t.d) := by rw [cell_rowD, rowD_same (M4.same _ lB hnC), ← cell_rowD]; exact x3
  have lB4 : Lt w.heap.size W4 := Nat.lt_of_lt_of_le lB M4.size
  have hb4 := M4.size
  clear hS hT m4 o1 o2 o3 y0 y1 x0 x1 x2 x3
  go_simp
  go_upto_region 2 with (fail)
  refine wp_region_K (fun k => W0.heap.size ≤ k) (by kernel_rfl) ?_
  obtain ⟨W5, hW5⟩ : ∃ W5, W4.drew = W5 := ⟨_, rfl⟩
  have g5 : Ext W4 W5 := by rw [← hW5]; exact Ext.dr (Ext.rf _)
  rw [hW5]
  clear hW5
  have y2 := (g5.cell (p := ⟨w.heap.size, 2, none⟩) lB4).trans z2
  have y3 := (g5.cell (p := ⟨w.heap.size, 3, none⟩) lB4).trans z3
  have lB5 : Lt w.heap.size W5 := Nat.lt_of_lt_of_le lB4 g5.size
  have hO5 := hO.out.ext g5
  have hb5 := Nat.le_trans hb4 g5.size
  refine withK (N := 12) (R := SchQ2) (E := ((Try.f90.body.bind (findR 2)).getD #[])) (by kernel_rfl) schSchQ2 (by kernel_rfl) fun hS => ?_
  have hT := hS.2.1
  refine takeD (N := 12) (k := 0) (v := v3) hS.1 hT rfl (by kernel_rfl) (fun _ _ => by kernel_rfl) fun hT => ?_
  refine takeD (N := 12) (k := 1) (v := .pointer (some ⟨w.heap.size, 2, none⟩)) hS.1 hT rfl (by kernel_rfl) (fun _ _ => by kernel_rfl) fun hT => ?_
  refine takeD (N := 12) (k := 2) (v := .int .u16 t.c) hS.1 hT rfl (by kernel_rfl) (loadK y2 lB5 hnC _ _ fun w' h => ld16_run h _ _ _ _ _ _ _ (by kernel_rfl)) fun hT => ?_
  refine takeD (N := 12) (k := 3) (v := .int .i64 t.c) hS.1 hT rfl (by kernel_rfl) (fun w' _ => cv16_run wc _ _ _ _ _ _ _ (by kernel_rfl) w') fun hT => ?_
  refine takeD (N := 12) (k := 6) (v := .pointer (some ⟨w.heap.size, 3, none⟩)) hS.1 hT rfl (by kernel_rfl) (fun _ _ => by kernel_rfl) fun hT => ?_
  refine takeD (N := 12) (k := 7) (v := .int .u16 t.d) hS.1 hT rfl (by kernel_rfl) (loadK y3 lB5 hnC _ _ fun w' h => ld16_run h _ _ _ _ _ _ _ (by kernel_rfl)) fun hT => ?_
  refine takeD (N := 12) (k := 8) (v := .int .i64 t.d) hS.1 hT rfl (by kernel_rfl) (fun w' _ => cv16_run wd _ _ _ _ _ _ _ (by kernel_rfl) w') fun hT => ?_
  refine soleD hS.2.2.1 (callD (R := fun v w' => OB w' W5.heap.size v (byN t.c 2)) rfl rfl (by kernel_rfl) (rb_any t.c 2 (by omega) c0 (by omega) W5) fun v4 W6 g6 o4 => ?_)
  refine soleD hS.2.2.2.1 (appD rfl (by kernel_rfl) (by kernel_rfl) (hO5.ext g6) o4 (by rw [byN_len]; omega) (by simp only [List.length_append, byN_len]; omega) (Nat.le_trans hb5 g6.size) fun v5 W7 m7 o5 => ?_)
  refine soleD hS.2.2.2.2.1 (callD (R := fun v w' => OB w' W7.heap.size v (byN t.d 2)) rfl rfl (by kernel_rfl) (rb_any t.d 2 (by omega) d0 (by omega) W7) fun v6 W8 g8 o6 => ?_)
  refine soleD hS.2.2.2.2.2.1 (appD rfl (by kernel_rfl) (by kernel_rfl) (o5.ext g8) o6 (by rw [byN_len]; omega) (by simp only [List.length_append, byN_len]; omega) (Nat.le_trans (Nat.le_trans hb5 g6.size) (Nat.le_trans m7.size g8.size)) fun v7 W9 m9 o7 => ?_)
  refine soleD hS.2.2.2.2.2.2.1 (makeD (v := v7) rfl rfl (by kernel_rfl) (Mv.refl _ _) ?_)
  refine doneK hS.2.2.2.2.2.2.2 ?_
  have M9 : Mv (fun k => W0.heap.size ≤ k) W4 W9 := (((Mv.of_ext (g5.tr g6)).trans m7).tr g8).trans m9
  clear hS hT
  go_simp
  go_wp2
  refine bodyPost_ret (v := v7) (by simp [results, Try.results90, go_sem]) rfl ⟨v7, rfl, ?_, ?_⟩
  · have h := o7.le (b' := w.heap.size) (by omega)
    have e : byN t.a 4 ++ byN t.b 4 ++ byN t.c 2 ++ byN t.d 2 = tb t := rfl
    rw [e] at h
    exact h
  · exact Mv.ext_of g0 (M4.trans M9) (fun k h => by omega)

end Go.Proofs.Ytookffaojlkfaaa

/- The document's buckets; the document's order. -/
namespace Go.Proofs.Ytookffaojlkfaaa
open Go.RowKit

theorem rfold_val2 (n : Int) (h0 : 0 ≤ n) (h1 : n < 256) : bits BinOp.xor IntKind.i64 (wrap64 ((wrap64 n).tdiv 16)) ((wrap64 n).tmod 16) = fold n := by
  refine by256 (fun n => bits BinOp.xor IntKind.i64 (wrap64 ((wrap64 n).tdiv 16)) ((wrap64 n).tmod 16) = fold n) ?_ h0 h1
  kernel_rfl
set_option maxHeartbeats 1000000 in
theorem rsum_any (t : Tu) (hr : TuR t) (w : World) :
    Calls Try.prog 84 #[tu t.a t.b t.c t.d] w fun e w' => e = .returned (.int .u8 (sumT t)) ∧ Ext w w' := by
  have HR := Lib.hid hr
  clear hr
  go_enter Try.func84, Try.ntmps84
  go_wp2_with (first | (go_at_call 90; (with_reducible refine (rBytes_any t HR.out _).mono ?_); rintro e w1 ⟨v, rfl, ho, hE1⟩; obtain ⟨p, c, rfl, hs⟩ := ho.sl (by rw [tb_len]; omega); have HB := Lib.hid hs; have hE0 := Ext.tr (Ext.al (Ext.rf _) _) hE1; clear hs ho) | (go_at_call 109; (with_reducible refine (rgo_any 0 (tb t) _ _ _ HB.out (by rw [tb_len]; omega)).mono ?_); rintro e w2 ⟨rfl, rfl⟩))
  go_ret
  exact ⟨rfl, hE0⟩
set_option maxHeartbeats 1000000 in
theorem rof_any (t : Tu) (hr : TuR t) (w : World) :
    Calls Try.prog 51 #[tu t.a t.b t.c t.d] w fun e w' => e = .returned (.int .i64 (ofT t)) ∧ Ext w w' := by
  have HR := Lib.hid hr
  have HV := Lib.hid (rfold_val2 (sumT t) (sumT_bd t).1 (sumT_bd t).2)
  clear hr
  go_enter Try.func51, Try.ntmps51
  go_wp2_with (go_at_call 84; (with_reducible refine (rsum_any t HR.out _).mono ?_); rintro e w1 ⟨rfl, hE1⟩; have hE0 := Ext.tr (Ext.al (Ext.rf _) _) hE1)
  go_ret
  exact ⟨by show _ = Ending.returned (.int .i64 (fold (sumT t))); rw [← HV.out]; rfl, hE0⟩
/-- Rows of bytes, in order. -/
def lexB : List Int → List Int → Int
  | x :: xs, y :: ys => if x < y then -1 else if y < x then 1 else lexB xs ys
  | _, _ => 0
theorem lex4 (n k : Int) (xs ys : List Int) (h0 : 0 ≤ n ∧ n < 4294967296) (h1 : 0 ≤ k ∧ k < 4294967296) : lexB (byN n 4 ++ xs) (byN k 4 ++ ys) = if n < k then -1 else if k < n then 1 else lexB xs ys := by
  have e3 : (256 : Int) ^ 3 = 16777216 := by decide
  have e2 : (256 : Int) ^ 2 = 65536 := by decide
  have e1 : (256 : Int) ^ 1 = 256 := by decide
  have e0 : (256 : Int) ^ 0 = 1 := by decide
  simp only [byN, List.cons_append, List.nil_append, lexB, e3, e2, e1, e0]
  repeat' split
  all_goals first | rfl | (exfalso; omega)
theorem lex2 (n k : Int) (xs ys : List Int) (h0 : 0 ≤ n ∧ n < 65536) (h1 : 0 ≤ k ∧ k < 65536) : lexB (byN n 2 ++ xs) (byN k 2 ++ ys) = if n < k then -1 else if k < n then 1 else lexB xs ys := by
  have e1 : (256 : Int) ^ 1 = 256 := by decide
  have e0 : (256 : Int) ^ 0 = 1 := by decide
  simp only [byN, List.cons_append, List.nil_append, lexB, e1, e0]
  repeat' split
  all_goals first | rfl | (exfalso; omega)
theorem lex_cmp (s t : Tu) (hs : TuR s) (ht : TuR t) : lexB (tb s) (tb t) = cmpT s t := by
  have e : ∀ t : Tu, tb t = byN t.a 4 ++ (byN t.b 4 ++ (byN t.c 2 ++ (byN t.d 2 ++ []))) := fun t => rfl
  rw [e s, e t, lex4 _ _ _ _ hs.1 ht.1, lex4 _ _ _ _ hs.2.1 ht.2.1, lex2 _ _ _ _ hs.2.2.1 ht.2.2.1, lex2 _ _ _ _ hs.2.2.2 ht.2.2.2]
  have key : ∀ (x y r : Int), (if cmpI x y = 0 then r else cmpI x y) = if x < y then -1 else if y < x then 1 else r := by
    intro x y r
    unfold cmpI
    by_cases h1 : x < y
    · simp [h1]
    · by_cases h2 : y < x
      · simp [h1, h2]
      · simp [h1, h2]
  show _ = (if cmpI s.a t.a = 0 then (if cmpI s.b t.b = 0 then (if cmpI s.c t.c = 0 then (if cmpI s.d t.d = 0 then 0 else cmpI s.d t.d) else cmpI s.c t.c) else cmpI s.b t.b) else cmpI s.a t.a)
  rw [key, key, key, key]
  rfl
def SchM (ops : Array Oper) : Prop := Region.noSelect ops = true ∧ takesB ops 6 [0, 2] [] = true ∧ Region.ready .any ops (don 6 [2, 0]) = [1] ∧ Region.ready .any ops (don 6 [1, 2, 0]) = [3] ∧ takesB ops 6 [4, 5] [3, 1, 2, 0] = true ∧ Region.ready .any ops (don 6 [5, 4, 3, 1, 2, 0]) = []
theorem schM : SchM ((Try.f64.body.bind (findR 1)).getD #[]) := ⟨by kernel_rfl, by kernel_rfl, by kernel_rfl, by kernel_rfl, by kernel_rfl, by kernel_rfl⟩
theorem ldT_run {C : Nat → Prop} {w : World} {B : Nat} {t : Tu} (h : TuAt w B t) (hC : ¬ C B) (ρ : Operand → Value) (dst : Option Tmp) (x : Operand) (ty : TypeId) (pos : String) (after : Array Edge) (g : Option (Nat × Bool)) (hx : ρ x = .pointer (some ⟨B, 0, none⟩)) :
    ∀ w', Mv C w w' → (execOp ρ ⟨dst, .load 26 x, ty, pos, after, g⟩).run Try.prog w' = .ok (.value (tu t.a t.b t.c t.d)) w' := by
  intro w' hm
  obtain ⟨d0, d1, d2, d3⟩ := h.cells
  have hs := rowD_same (hm.same B h.2 hC)
  have q0 : w'.cell? ⟨B, 0, none⟩ = some (.int .u32 t.a) := by rw [cell_rowD, hs, ← cell_rowD]; exact d0
  have q1 : w'.cell? ⟨B, 1, none⟩ = some (.int .u32 t.b) := by rw [cell_rowD, hs, ← cell_rowD]; exact d1
  have q2 : w'.cell? ⟨B, 2, none⟩ = some (.int .u16 t.c) := by rw [cell_rowD, hs, ← cell_rowD]; exact d2
  have q3 : w'.cell? ⟨B, 3, none⟩ = some (.int .u16 t.d) := by rw [cell_rowD, hs, ← cell_rowD]; exact d3
  simp only [execOp, hx]
  go_simp
theorem lex_step (xs ys : List Int) (k : Nat) (hx : k < xs.length) (hy : k < ys.length) : lexB (xs.drop k) (ys.drop k) = if xs[k] < ys[k] then -1 else if ys[k] < xs[k] then 1 else lexB (xs.drop (k + 1)) (ys.drop (k + 1)) := by
  rw [List.drop_eq_getElem_cons hx, List.drop_eq_getElem_cons hy]
  rfl
set_option maxRecDepth 100000 in
set_option maxHeartbeats 4000000 in
theorem rcmp_any (s t : Tu) (hs : TuR s) (ht : TuR t) (w : World) :
    Calls Try.prog 64 #[tu s.a s.b s.c s.d, tu t.a t.b t.c t.d] w fun e w' => e = .returned (.int .i64 (cmpT s t)) ∧ Ext w w' := by
  rw [← lex_cmp s t hs ht]
  have HS := Lib.hid hs
  have HT := Lib.hid ht
  clear hs ht
  go_enter Try.func64, Try.ntmps64
  go_upto_region 1 with (fail)
  obtain ⟨W0, hW⟩ : ∃ W0, (w.alloc (.cells #[.int .u32 s.a, .int .u32 s.b, .int .u16 s.c, .int .u16 s.d] 26)).alloc (.cells #[.int .u32 t.a, .int .u32 t.b, .int .u16 t.c, .int .u16 t.d] 26) = W0 := ⟨_, rfl⟩
  have g0 : Ext w W0 := by rw [← hW]; exact Ext.al (Ext.al (Ext.rf _) _) _
  have hsz : W0.heap.size = w.heap.size + 2 := by rw [← hW]; simp
  have ts : TuAt W0 w.heap.size s := by rw [← hW]; unfold TuAt; simp [go_sem, Lt]; try omega
  have tt : TuAt W0 (w.heap.size + 1) t := by rw [← hW]; unfold TuAt; simp [go_sem, Lt]; try omega
  rw [hW]
  clear hW
  refine wp_region_K (fun k => W0.heap.size ≤ k) (by kernel_rfl) ?_
  obtain ⟨W1, hW1⟩ : ∃ W1, W0.drew = W1 := ⟨_, rfl⟩
  have g1 : Ext W0 W1 := by rw [← hW1]; exact Ext.dr (Ext.rf _)
  rw [hW1]
  clear hW1
  refine withK (N := 6) (R := SchM) (E := ((Try.f64.body.bind (findR 1)).getD #[])) (by kernel_rfl) schM (by kernel_rfl) fun hS => ?_
  have hT := hS.2.1
  refine takeD (N := 6) (k := 0) (v := (tu s.a s.b s.c s.d)) hS.1 hT rfl (by kernel_rfl) (ldT_run (ts.ext g1) (by omega) _ _ _ _ _ _ _ (by kernel_rfl)) fun hT => ?_
  refine takeD (N := 6) (k := 2) (v := (tu t.a t.b t.c t.d)) hS.1 hT rfl (by kernel_rfl) (ldT_run (tt.ext g1) (by omega) _ _ _ _ _ _ _ (by kernel_rfl)) fun hT => ?_
  refine soleD hS.2.2.1 (callD (R := fun v w' => OB w' W1.heap.size v (tb s)) rfl rfl (by kernel_rfl) (rBytes_any s HS.out W1) fun v1 W2 g2 o1 => ?_)
  refine soleD hS.2.2.2.1 (callD (R := fun v w' => OB w' W2.heap.size v (tb t)) rfl rfl (by kernel_rfl) (rBytes_any t HT.out W2) fun v2 W3 g3 o2 => ?_)
  have hT := hS.2.2.2.2.1
  refine takeD (N := 6) (k := 4) (v := v1) hS.1 hT rfl (by kernel_rfl) (fun _ _ => by kernel_rfl) fun hT => ?_
  refine takeD (N := 6) (k := 5) (v := v2) hS.1 hT rfl (by kernel_rfl) (fun _ _ => by kernel_rfl) fun hT => ?_
  refine doneK hS.2.2.2.2.2 ?_
  clear hS hT
  go_simp
  have E3 := g0.tr (g1.tr (g2.tr g3))
  obtain ⟨p1, c1, rfl, s1⟩ := (o1.ext g3).sl (by rw [tb_len]; omega)
  obtain ⟨p2, c2, rfl, s2⟩ := o2.sl (by rw [tb_len]; omega)
  obtain ⟨xs, hxs⟩ : ∃ xs, tb s = xs := ⟨_, rfl⟩
  obtain ⟨ys, hys⟩ : ∃ ys, tb t = ys := ⟨_, rfl⟩
  have lx : xs.length = 12 := by rw [← hxs]; rfl
  have ly : ys.length = 12 := by rw [← hys]; rfl
  rw [hxs] at s1 ⊢
  rw [hys] at s2 ⊢
  rw [lx, ly]
  have HXS := Lib.hid hxs
  have HYS := Lib.hid hys
  clear o1 o2 ts tt hxs hys g0 g1 g2 g3
  go_wp2
  go_loopw [7] (fun a wr => ∃ k : Nat, k ≤ 12 ∧ a = .int .i64 k ∧ lexB xs ys = lexB (xs.drop k) (ys.drop k) ∧ Ext w wr ∧ SlB wr p1 xs ∧ SlB wr p2 ys) (fun a _ => 12 - (intOf a).toNat)
  case atStart => exact ⟨0, by omega, rfl, rfl, E3, s1, s2⟩
  case round =>
    clear s1 s2 E3
    obtain ⟨k, hk, rfl, hlx, hE, h1, h2⟩ := hrel
    by_cases hlt : k < 12
    · have hil : (k : Int) < 12 := by omega
      have H1 := Lib.hid h1
      have H2 := Lib.hid h2
      obtain ⟨b1, o1, rfl, l1, c1'⟩ := h1 k (by omega)
      obtain ⟨b2, o2, rfl, l2, c2'⟩ := h2 k (by omega)
      have hst := hlx.trans (lex_step xs ys k (by omega) (by omega))
      obtain ⟨x, hx⟩ : ∃ x, xs[k]'(by omega) = x := ⟨_, rfl⟩
      obtain ⟨y, hy⟩ : ∃ y, ys[k]'(by omega) = y := ⟨_, rfl⟩
      rw [hx] at c1' hst
      rw [hy] at c2' hst
      have L1 : Lt b1 wr := l1
      have L2 : Lt b2 wr := l2
      clear h1 h2 l1 l2 hx hy hlx
      by_cases hxy : x < y
      · rw [if_pos hxy] at hst
        have HR := Lib.hid hst
        clear hst
        have hdx : decide (x < y) = true := decide_eq_true hxy
        go_upto_region 5 with (fail)
        refine wp_region_later (by kernel_rfl) (by kernel_rfl) ?_; (repeat (go_big_quiet_step (fail))); refine wpQuiet_nil ?_; intro d
        have hd := later_ext d
        go_wp2
        exact bodyPost_ret (v := .int .i64 (-1)) (by simp [results, Try.results64, go_sem]) rfl ⟨by rw [HXS.out, HYS.out, HR.out], hE.tr hd⟩
      · rw [if_neg hxy] at hst
        have hdx : decide (x < y) = false := decide_eq_false hxy
        have HX := Lib.hid hxy
        by_cases hyx : y < x
        · rw [if_pos hyx] at hst
          have HR := Lib.hid hst
          clear hst
          have hdy : decide (y < x) = true := decide_eq_true hyx
          go_upto_region 5 with (fail)
          refine wp_region_later (by kernel_rfl) (by kernel_rfl) ?_; (repeat (go_big_quiet_step (fail))); refine wpQuiet_nil ?_; intro d
          have hd := later_ext d
          obtain ⟨W5, hW5⟩ : ∃ W5, later d = W5 := ⟨_, rfl⟩
          rw [hW5] at hd ⊢
          clear hW5
          have q1 := (hd.cell (p := ⟨b1, _, none⟩) L1).trans c1'
          have q2 := (hd.cell (p := ⟨b2, _, none⟩) L2).trans c2'
          have K1 : Lt b1 W5 := Nat.lt_of_lt_of_le L1 hd.size
          have K2 : Lt b2 W5 := Nat.lt_of_lt_of_le L2 hd.size
          go_upto_region 7 with (fail)
          refine wp_region_later (by kernel_rfl) (by kernel_rfl) ?_; (repeat (go_big_quiet_step (fail))); refine wpQuiet_nil ?_; intro d2
          have hd2 := later_ext d2
          go_wp2
          exact bodyPost_ret (v := .int .i64 1) (by simp [results, Try.results64, go_sem]) rfl ⟨by rw [HXS.out, HYS.out, HR.out], (hE.tr hd).tr hd2⟩
        · rw [if_neg hyx] at hst
          have HR := Lib.hid hst
          clear hst
          have hdy : decide (y < x) = false := decide_eq_false hyx
          go_upto_region 5 with (fail)
          refine wp_region_later (by kernel_rfl) (by kernel_rfl) ?_; (repeat (go_big_quiet_step (fail))); refine wpQuiet_nil ?_; intro d
          have hd := later_ext d
          obtain ⟨W5, hW5⟩ : ∃ W5, later d = W5 := ⟨_, rfl⟩
          rw [hW5] at hd ⊢
          clear hW5
          have q1 := (hd.cell (p := ⟨b1, _, none⟩) L1).trans c1'
          have q2 := (hd.cell (p := ⟨b2, _, none⟩) L2).trans c2'
          have K1 : Lt b1 W5 := Nat.lt_of_lt_of_le L1 hd.size
          have K2 : Lt b2 W5 := Nat.lt_of_lt_of_le L2 hd.size
          go_upto_region 7 with (fail)
          refine wp_region_later (by kernel_rfl) (by kernel_rfl) ?_; (repeat (go_big_quiet_step (fail))); refine wpQuiet_nil ?_; intro d2
          have hd2 := later_ext d2
          go_wp2
          go_roundw
          case rel => exact ⟨k + 1, by omega, by go_num, HR.out, (hE.tr hd).tr hd2, (H1.out.ext hd).ext hd2, (H2.out.ext hd).ext hd2⟩
          case measure => simp [intOf]; omega
    · have hil : ¬ ((k : Int) < 12) := by omega
      have HR := Lib.hid (show lexB xs ys = 0 by rw [hlx, List.drop_of_length_le (by omega)]; rfl)
      clear hlx
      go_wp2
      exact bodyPost_ret (v := .int .i64 0) (by simp [results, Try.results64, go_sem]) rfl ⟨by rw [HXS.out, HYS.out, HR.out], hE⟩

end Go.Proofs.Ytookffaojlkfaaa

/- The document's Find and Right. -/
namespace Go.Proofs.Ytookffaojlkfaaa
open Go.RowKit

def badAt (xs : List Co) (k : Nat) : Prop := ∃ x, xs[k]? = some x ∧ (wrongC x = true ∨ ∃ m y, k = m + 1 ∧ xs[m]? = some y ∧ 0 ≤ cmpT y.t x.t)
def goodTo (xs : List Co) (k : Nat) : Prop := ∀ j, j < k → ¬ badAt xs j
theorem rightC_iff (xs : List Co) : rightC xs = true ↔ xs.length ≤ 32 ∧ goodTo xs xs.length := by
  unfold rightC
  simp only [Bool.and_eq_true, decide_eq_true_eq, Bool.not_eq_true', and_assoc]
  refine and_congr_right fun _ => ⟨fun ⟨h1, h2⟩ j hj ⟨x, hx, hb⟩ => ?_, fun h => ⟨?_, ?_⟩⟩
  · rcases hb with hb | ⟨m, y, rfl, hy, hc⟩
    · rw [List.any_eq_false] at h1
      exact h1 x (List.mem_of_getElem? hx) hb
    · have hp := pairsC_get xs m (by omega)
      have := List.all_eq_true.1 h2 _ (List.mem_of_getElem? hp)
      unfold lessC at this
      rw [List.getElem?_eq_getElem hj] at hx
      rw [List.getElem?_eq_getElem (by omega)] at hy
      have ex := Option.some.inj hx
      have ey := Option.some.inj hy
      rw [← ex, ← ey] at hc
      have := of_decide_eq_true this
      simp only at this
      omega
  · rw [List.any_eq_false]
    intro x hx hw
    obtain ⟨j, hj, hjx⟩ := List.getElem_of_mem hx
    exact h j hj ⟨x, by rw [List.getElem?_eq_getElem hj, hjx], .inl hw⟩
  · rw [List.all_eq_true]
    intro p hp
    obtain ⟨m, hm, hmp⟩ := List.getElem_of_mem hp
    have hm' : m + 1 < xs.length := by rw [pairsC_len] at hm; omega
    have hg := pairsC_get xs m hm'
    rw [List.getElem?_eq_getElem hm, hmp] at hg
    cases hg
    unfold lessC
    refine decide_eq_true (Int.not_le.1 fun hc => h (m + 1) hm' ⟨xs[m + 1], List.getElem?_eq_getElem hm', .inr ⟨m, xs[m], rfl, List.getElem?_eq_getElem (by omega), hc⟩⟩)
theorem rightC_bad {xs : List Co} {k : Nat} (hk : k < xs.length) (h : badAt xs k) : rightC xs = false := by
  rw [Bool.eq_false_iff]
  intro e
  exact ((rightC_iff xs).1 e).2 k hk h
theorem good_end {xs : List Co} {k : Nat} (hk : ¬ k < xs.length) (h : goodTo xs k) : rightC xs = decide ((xs.length : Int) ≤ 32) := by
  have hg : goodTo xs xs.length := fun j hj => h j (by omega)
  by_cases hl : xs.length ≤ 32
  · rw [(rightC_iff xs).2 ⟨hl, hg⟩, decide_eq_true (by omega)]
  · rw [decide_eq_false (by omega), Bool.eq_false_iff]
    exact fun e => hl ((rightC_iff xs).1 e).1
theorem good_next {xs : List Co} {k : Nat} {x : Co} (hx : xs[k]? = some x) (h : goodTo xs k) (hw : wrongC x = false) (hc : ∀ m y, k = m + 1 → xs[m]? = some y → cmpT y.t x.t < 0) : goodTo xs (k + 1) := by
  intro j hj
  by_cases hjk : j < k
  · exact h j hjk
  · obtain rfl : j = k := by omega
    rintro ⟨z, hz, hb⟩
    rw [hx] at hz
    cases hz
    rcases hb with hb | ⟨m, y, e, hy, hge⟩
    · rw [hw] at hb; cases hb
    · have := hc m y e hy
      omega
set_option maxRecDepth 100000 in
set_option maxHeartbeats 8000000 in
theorem rright_any (p : Option Addr) (xs : List Co) (c : Nat) (w : World) (hs : SlC w p xs) (hl : xs.length ≤ 1000) (hr : ∀ x ∈ xs, TuR x.t) :
    Calls Try.prog 27 #[.slice p xs.length c] w fun e w' => e = .returned (.bool (rightC xs)) ∧ Ext w w' := by
  have HRR := Lib.hid hr
  clear hr
  go_enter Try.func27, Try.ntmps27
  go_wp2
  go_loopw [3] (fun a wr => ∃ k : Nat, k ≤ xs.length ∧ a = .int .i64 k ∧ goodTo xs k ∧ Ext w wr) (fun a _ => xs.length - (intOf a).toNat)
  case atStart => exact ⟨0, Nat.zero_le _, rfl, (fun j hj => absurd hj (Nat.not_lt_zero _)), Ext.rf _⟩
  case round =>
    obtain ⟨k, hk, rfl, hG, hE⟩ := hrel
    by_cases hlt : k < xs.length
    · have hil : (k : Int) < xs.length := by omega
      obtain ⟨b, off, rfl, lb, c0, c1, c2, c3, c4, c5⟩ := (hs.ext hE) k hlt
      obtain ⟨x, hx⟩ : ∃ x, xs[k] = x := ⟨_, rfl⟩
      have hx' : xs[k]? = some x := by rw [List.getElem?_eq_getElem hlt, hx]
      have HX := Lib.hid (HRR.out x (by rw [← hx]; exact List.getElem_mem hlt))
      rw [hx] at c0 c1 c2 c3 c4 c5
      have lbb : Lt b wr := lb
      have HBAD := fun h => Lib.hid (rightC_bad hlt ⟨x, hx', h⟩)
      have HNEXT := fun hw hc => Lib.hid (good_next hx' hG hw hc)
      have HSS := Lib.hid hs
      clear hG
      by_cases h1 : x.s < 0
      · have HR := HBAD (.inl (by unfold wrongC; simp [h1]))
        clear HBAD HNEXT hx hx' hs lb
        go_upto_region 4 with (fail)
        refine wp_region_later (by kernel_rfl) (by kernel_rfl) ?_; (repeat (go_big_quiet_step (fail))); refine wpQuiet_nil ?_; intro d
        have hd := later_ext d
        go_wp2
        exact bodyPost_ret (v := .bool false) (by simp [results, Try.results27, go_sem]) rfl ⟨by rw [HR.out], hE.tr hd⟩
      · by_cases h2 : x.l < x.s
        · have HR := HBAD (.inl (by unfold wrongC; simp [h2]))
          clear HBAD HNEXT hx hx' hs lb
          go_upto_region 4 with (fail)
          refine wp_region_later (by kernel_rfl) (by kernel_rfl) ?_; (repeat (go_big_quiet_step (fail))); refine wpQuiet_nil ?_; intro d
          have hd := later_ext d
          go_wp2
          exact bodyPost_ret (v := .bool false) (by simp [results, Try.results27, go_sem]) rfl ⟨by rw [HR.out], hE.tr hd⟩
        · by_cases h3 : 1099511627776 < x.l
          · have HR := HBAD (.inl (by unfold wrongC; simp [h3]))
            clear HBAD HNEXT hx hx' hs lb
            go_upto_region 4 with (fail)
            refine wp_region_later (by kernel_rfl) (by kernel_rfl) ?_; (repeat (go_big_quiet_step (fail))); refine wpQuiet_nil ?_; intro d
            have hd := later_ext d
            go_wp2
            exact bodyPost_ret (v := .bool false) (by simp [results, Try.results27, go_sem]) rfl ⟨by rw [HR.out], hE.tr hd⟩
          · have hw : wrongC x = false := by unfold wrongC; simp; omega
            by_cases hk0 : k = 0
            · have HN := HNEXT hw (fun m y e _ => by omega)
              clear HBAD HNEXT hx hx' hs lb hw
              subst hk0
              go_upto_region 4 with (fail)
              refine wp_region_later (by kernel_rfl) (by kernel_rfl) ?_; (repeat (go_big_quiet_step (fail))); refine wpQuiet_nil ?_; intro d
              have hd := later_ext d
              go_wp2
              go_roundw
              case rel => exact ⟨1, by omega, by go_num, HN.out, hE.tr hd⟩
              case measure => simp [intOf]; omega
            · obtain ⟨m, rfl⟩ : ∃ m, k = m + 1 := ⟨k - 1, by omega⟩
              obtain ⟨b', off', hpe, -, d0, d1, d2, d3, d4, d5⟩ := (hs.ext hE) m (by omega)
              cases hpe
              have hml : m < xs.length := by omega
              obtain ⟨y, hy⟩ : ∃ y, xs[m] = y := ⟨_, rfl⟩
              have hy' : xs[m]? = some y := by rw [List.getElem?_eq_getElem hml, hy]
              have HY := Lib.hid (HRR.out y (by rw [← hy]; exact List.getElem_mem hml))
              rw [hy] at d0 d1 d2 d3 d4 d5
              have hkp : (0 : Int) < ((m + 1 : Nat) : Int) := by omega
              have hi1 : (m : Int) < xs.length := by omega
              have hmw : IntKind.i64.wrap (((m + 1 : Nat) : Int) - 1) = m := by rw [IntKind.wrap_i64]; omega
              clear hk0
              by_cases hc : 0 ≤ cmpT y.t x.t
              · have HR := HBAD (.inr ⟨m, y, rfl, hy', hc⟩)
                have hcd : decide (0 ≤ cmpT y.t x.t) = true := decide_eq_true hc
                clear HBAD HNEXT hx hx' hy hy' hs lb hw
                go_upto_region 4 with (fail)
                refine wp_region_later (by kernel_rfl) (by kernel_rfl) ?_; (repeat (go_big_quiet_step ((go_at_call 64; exact calls_later (rcmp_any _ _ HY.out HX.out _))))); refine wpQuiet_nil ?_; intro d
                have hd := later_ext d
                go_wp2
                exact bodyPost_ret (v := .bool false) (by simp [results, Try.results27, go_sem]) rfl ⟨by rw [HR.out], hE.tr hd⟩
              · have hcd : decide (0 ≤ cmpT y.t x.t) = false := decide_eq_false hc
                have HN := HNEXT hw (fun m' y' e h' => by
                  obtain rfl : m' = m := by omega
                  rw [hy'] at h'; cases h'
                  omega)
                clear HBAD HNEXT hx hx' hy hy' hs lb hw
                go_upto_region 4 with (fail)
                refine wp_region_later (by kernel_rfl) (by kernel_rfl) ?_; (repeat (go_big_quiet_step ((go_at_call 64; exact calls_later (rcmp_any _ _ HY.out HX.out _))))); refine wpQuiet_nil ?_; intro d
                have hd := later_ext d
                go_wp2
                go_roundw
                case rel => exact ⟨m + 1 + 1, by omega, by go_num, HN.out, hE.tr hd⟩
                case measure => simp [intOf]; omega
    · have hil : ¬ ((k : Int) < xs.length) := by omega
      have HR := Lib.hid (good_end hlt hG)
      clear hG
      go_wp2
      exact bodyPost_ret (v := .bool (decide ((xs.length : Int) ≤ 32))) (by simp [results, Try.results27, go_sem]) rfl ⟨by rw [HR.out], hE⟩

end Go.Proofs.Ytookffaojlkfaaa

/- The document's Find. -/
namespace Go.Proofs.Ytookffaojlkfaaa
open Go.RowKit

def belowT (xs : List Co) (t : Tu) (k : Nat) : Prop := ∀ j, j < k → ∀ x, xs[j]? = some x → geT t x = false
theorem at_of {xs : List Co} {t : Tu} {k : Nat} {x : Co} (hx : xs[k]? = some x) (h : belowT xs t k) (hg : geT t x = true) : atC xs t = k := by
  unfold atC
  have hk : k < xs.length := (List.getElem?_eq_some_iff.1 hx).1
  refine (List.findIdx_eq hk).2 ⟨?_, fun j hj => ?_⟩
  · rw [List.getElem?_eq_getElem hk] at hx; cases hx; exact hg
  · exact h j hj _ (List.getElem?_eq_getElem (by omega))
theorem at_end {xs : List Co} {t : Tu} {k : Nat} (hk : ¬ k < xs.length) (h : belowT xs t k) : atC xs t = xs.length ∧ okC xs t = false := by
  have e : atC xs t = xs.length := by
    unfold atC
    refine List.findIdx_eq_length.2 fun x hx => ?_
    obtain ⟨j, hj, hjx⟩ := List.getElem_of_mem hx
    exact h j (by omega) x (by rw [List.getElem?_eq_getElem hj, hjx])
  exact ⟨e, by unfold okC; rw [e]; simp⟩
theorem eql_T {x y : Tu} (ρ : Operand → Value) (dst : Option Tmp) (p q : Operand) (ty : TypeId) (pos : String) (after : Array Edge) (g : Option (Nat × Bool)) (hx : ρ p = tu x.a x.b x.c x.d) (hy : ρ q = tu y.a y.b y.c y.d) (w : World) :
    (execOp ρ ⟨dst, .binOp .eql 26 p q 26, ty, pos, after, g⟩).run Try.prog w = .ok (.value (.bool (eqT x y))) w := by
  simp only [execOp, hx, hy]
  go_simp
  try (unfold eqT; repeat' split)
  all_goals simp_all
set_option maxRecDepth 100000 in
set_option maxHeartbeats 8000000 in
theorem rfind_any (t : Tu) (p : Option Addr) (xs : List Co) (c : Nat) (w : World) (hs : SlC w p xs) (hl : xs.length ≤ 1000) (hr : ∀ x ∈ xs, TuR x.t) (hrt : TuR t) :
    Calls Try.prog 25 #[.slice p xs.length c, tu t.a t.b t.c t.d] w fun e w' => e = .returned (.tuple #[.int .i64 (atC xs t), .bool (okC xs t)]) ∧ Ext w w' := by
  have HRR := Lib.hid hr
  have HRT := Lib.hid hrt
  clear hr hrt
  go_enter Try.func25, Try.ntmps25
  go_upto_region 1 with (fail)
  obtain ⟨W0, hW⟩ : ∃ W0, w.alloc (.cells #[.int .u32 t.a, .int .u32 t.b, .int .u16 t.c, .int .u16 t.d] 26) = W0 := ⟨_, rfl⟩
  have e0 : Ext w W0 := by rw [← hW]; exact Ext.al (Ext.rf _) _
  have s0 := hs.ext e0
  have ht : TuAt W0 w.heap.size t := by rw [← hW]; unfold TuAt; simp [go_sem, Lt]
  rw [hW]
  clear hW hs
  generalize w.heap.size = B at *
  go_wp2
  go_loopw [6] (fun a wr => ∃ k : Nat, k ≤ xs.length ∧ a = .int .i64 k ∧ belowT xs t k ∧ Ext W0 wr) (fun a _ => xs.length - (intOf a).toNat)
  case atStart => exact ⟨0, Nat.zero_le _, rfl, (fun j hj => absurd hj (Nat.not_lt_zero _)), Ext.rf _⟩
  case round =>
    obtain ⟨k, hk, rfl, hG, hE0⟩ := hrel
    have hE := e0.tr hE0
    have hT := ht.ext hE0
    obtain ⟨d0, d1, d2, d3⟩ := hT.cells
    have lB : Lt B wr := hT.2
    have hE0' := Lib.hid hE0
    clear hT
    by_cases hlt : k < xs.length
    · have hil : (k : Int) < xs.length := by omega
      obtain ⟨b, off, rfl, lb, c0, c1, c2, c3, c4, c5⟩ := (s0.ext hE0) k hlt
      obtain ⟨x, hx⟩ : ∃ x, xs[k] = x := ⟨_, rfl⟩
      have hx' : xs[k]? = some x := by rw [List.getElem?_eq_getElem hlt, hx]
      have HX := Lib.hid (HRR.out x (by rw [← hx]; exact List.getElem_mem hlt))
      rw [hx] at c0 c1 c2 c3 c4 c5
      have lbb : Lt b wr := lb
      by_cases hg : cmpT x.t t < 0
      · have hgd : decide (cmpT x.t t < 0) = true := decide_eq_true hg
        have HN := Lib.hid (show belowT xs t (k + 1) by
          intro j hj y hy
          by_cases hjk : j < k
          · exact hG j hjk y hy
          · obtain rfl : j = k := by omega
            rw [hx'] at hy; cases hy
            unfold geT
            exact decide_eq_false (by omega))
        clear hG hx hx' lb hE0 hg
        go_upto_region 2 with (fail)
        refine wp_region_later (by kernel_rfl) (by kernel_rfl) ?_; (repeat (go_big_quiet_step ((go_at_call 64; exact calls_later (rcmp_any _ _ HX.out HRT.out _))))); refine wpQuiet_nil ?_; intro d
        have hd := later_ext d
        go_wp2
        go_roundw
        case rel => exact ⟨k + 1, by omega, by go_num, HN.out, hE0'.out.tr hd⟩
        case measure => simp [intOf]; omega
      · have hgd : decide (cmpT x.t t < 0) = false := decide_eq_false hg
        have hat := at_of hx' hG (by unfold geT; exact decide_eq_true (by omega))
        have HR := Lib.hid (show (Value.tuple #[.int .i64 (atC xs t), .bool (okC xs t)]) = .tuple #[.int .i64 k, .bool (eqT x.t t)] by
          unfold okC; rw [hat, hx'])
        have HTA := Lib.hid ht
        clear hG hx hx' lb hE0 hg hat ht
        go_upto_region 2 with (fail)
        refine wp_region_later (by kernel_rfl) (by kernel_rfl) ?_; (repeat (go_big_quiet_step ((go_at_call 64; exact calls_later (rcmp_any _ _ HX.out HRT.out _))))); refine wpQuiet_nil ?_; intro d
        have hd := later_ext d
        obtain ⟨W5, hW5⟩ : ∃ W5, later d = W5 := ⟨_, rfl⟩
        rw [hW5] at hd ⊢
        clear hW5
        have c0 := (hd.cell (p := ⟨b, _, none⟩) lbb).trans c0
        have c1 := (hd.cell (p := ⟨b, _, none⟩) lbb).trans c1
        have c2 := (hd.cell (p := ⟨b, _, none⟩) lbb).trans c2
        have c3 := (hd.cell (p := ⟨b, _, none⟩) lbb).trans c3
        have d0 := (hd.cell (p := ⟨B, _, none⟩) lB).trans d0
        have d1 := (hd.cell (p := ⟨B, _, none⟩) lB).trans d1
        have d2 := (hd.cell (p := ⟨B, _, none⟩) lB).trans d2
        have d3 := (hd.cell (p := ⟨B, _, none⟩) lB).trans d3
        have lbb : Lt b W5 := Nat.lt_of_lt_of_le lbb hd.size
        have lB : Lt B W5 := Nat.lt_of_lt_of_le lB hd.size
        go_upto_region 4 with (fail)
        refine wp_region_later (by kernel_rfl) (by kernel_rfl) ?_; (repeat (go_big_quiet_step (fail))); refine wpQuiet_nil ?_; intro d2
        have hd2 := later_ext d2
        go_wp2
        exact bodyPost_ret (v := .tuple #[.int .i64 k, .bool (x.t.a == t.a && x.t.b == t.b && x.t.c == t.c && x.t.d == t.d)]) (by simp [results, Try.results25, go_sem]) rfl ⟨by rw [HR.out] <;> rfl, (hE.tr hd).tr hd2⟩
    · have hil : ¬ ((k : Int) < xs.length) := by omega
      obtain ⟨h1, h2⟩ := at_end hlt hG
      obtain rfl : k = xs.length := by omega
      have HR := Lib.hid (show (Value.tuple #[.int .i64 (atC xs t), .bool (okC xs t)]) = .tuple #[.int .i64 xs.length, .bool false] by rw [h1, h2])
      clear hG h1 h2 hE0 hil
      go_upto_region 2 with (fail)
      refine wp_region_later (by kernel_rfl) (by kernel_rfl) ?_; (repeat (go_big_quiet_step (fail))); refine wpQuiet_nil ?_; intro d
      have hd := later_ext d
      obtain ⟨W5, hW5⟩ : ∃ W5, later d = W5 := ⟨_, rfl⟩
      rw [hW5] at hd ⊢
      clear hW5
      go_upto_region 4 with (fail)
      refine wp_region_later (by kernel_rfl) (by kernel_rfl) ?_; (repeat (go_big_quiet_step (fail))); refine wpQuiet_nil ?_; intro d2
      have hd2 := later_ext d2
      go_wp2
      exact bodyPost_ret (v := .tuple #[.int .i64 xs.length, .bool false]) (by simp [results, Try.results25, go_sem]) rfl ⟨by rw [HR.out] <;> rfl, (hE.tr hd).tr hd2⟩

end Go.Proofs.Ytookffaojlkfaaa

/- Connections in order: plain laws. -/
namespace Go.Proofs.Ytookffaojlkfaaa
open Go.RowKit

def ltT (s t : Tu) : Prop := s.a < t.a ∨ s.a = t.a ∧ (s.b < t.b ∨ s.b = t.b ∧ (s.c < t.c ∨ s.c = t.c ∧ s.d < t.d))
theorem cmpT_ifs (s t : Tu) : cmpT s t = if s.a < t.a then -1 else if t.a < s.a then 1 else if s.b < t.b then -1 else if t.b < s.b then 1 else if s.c < t.c then -1 else if t.c < s.c then 1 else if s.d < t.d then -1 else if t.d < s.d then 1 else 0 := by
  have key : ∀ (x y r : Int), (if cmpI x y = 0 then r else cmpI x y) = if x < y then -1 else if y < x then 1 else r := by
    intro x y r
    unfold cmpI
    by_cases h1 : x < y
    · simp [h1]
    · by_cases h2 : y < x
      · simp [h1, h2]
      · simp [h1, h2]
  show (if cmpI s.a t.a = 0 then (if cmpI s.b t.b = 0 then (if cmpI s.c t.c = 0 then (if cmpI s.d t.d = 0 then 0 else cmpI s.d t.d) else cmpI s.c t.c) else cmpI s.b t.b) else cmpI s.a t.a) = _
  rw [key, key, key, key]
theorem cmpT_lt {s t : Tu} : cmpT s t < 0 ↔ ltT s t := by
  rw [cmpT_ifs]; unfold ltT
  repeat' split
  all_goals omega
theorem cmpT_gt {s t : Tu} : 0 < cmpT s t ↔ ltT t s := by
  rw [cmpT_ifs]; unfold ltT
  repeat' split
  all_goals omega
theorem cmpT_eq {s t : Tu} : cmpT s t = 0 ↔ s = t := by
  have h : s = t ↔ s.a = t.a ∧ s.b = t.b ∧ s.c = t.c ∧ s.d = t.d := by
    cases s; cases t; simp
  rw [h, cmpT_ifs]
  repeat' split
  all_goals omega
theorem cmpT_self (t : Tu) : cmpT t t = 0 := cmpT_eq.2 rfl
theorem ltT_trans {s t u : Tu} (h : ltT s t) (k : ltT t u) : ltT s u := by unfold ltT at *; omega
theorem geT_iff {t : Tu} {x : Co} : geT t x = true ↔ ¬ ltT x.t t := by
  unfold geT
  rw [decide_eq_true_eq, ← cmpT_lt]
  omega
theorem right_lt {xs : List Co} (h : rightC xs = true) {m : Nat} {x y : Co} (hx : xs[m]? = some x) (hy : xs[m + 1]? = some y) : ltT x.t y.t := by
  have h1 := ((rightC_iff xs).1 h).2 (m + 1) (List.getElem?_eq_some_iff.1 hy).1
  refine cmpT_lt.1 (Int.not_le.1 fun hc => h1 ⟨y, hy, .inr ⟨m, x, rfl, hx, hc⟩⟩)
theorem right_far {xs : List Co} (h : rightC xs = true) {i : Nat} {x : Co} (hx : xs[i]? = some x) : ∀ (n : Nat) (y : Co), xs[i + 1 + n]? = some y → ltT x.t y.t
  | 0, y, hy => right_lt h hx hy
  | n + 1, y, hy => by
    have hl : i + 1 + n < xs.length := by have := (List.getElem?_eq_some_iff.1 hy).1; omega
    exact ltT_trans (right_far h hx n xs[i + 1 + n] (List.getElem?_eq_getElem hl)) (right_lt h (List.getElem?_eq_getElem hl) hy)
theorem at_spec {xs : List Co} {t : Tu} : ∀ j, j < atC xs t → ∀ x, xs[j]? = some x → ltT x.t t := by
  intro j hj x hx
  have h := List.not_of_lt_findIdx (p := geT t) (xs := xs) hj
  have hl := (List.getElem?_eq_some_iff.1 hx).1
  have e : xs[j] = x := (List.getElem?_eq_some_iff.1 hx).2
  rw [e] at h
  by_cases hg : geT t x = true
  · exact absurd hg (by simpa using h)
  · exact Classical.byContradiction fun hn => hg (geT_iff.2 hn)
theorem at_ge {xs : List Co} {t : Tu} {x : Co} (hx : xs[atC xs t]? = some x) : ¬ ltT x.t t := by
  have hl := (List.getElem?_eq_some_iff.1 hx).1
  have h := List.findIdx_getElem (p := geT t) (xs := xs) (w := hl)
  have e : xs[xs.findIdx (geT t)] = x := (List.getElem?_eq_some_iff.1 hx).2
  rw [e] at h
  exact geT_iff.1 h
theorem at_iff {xs : List Co} (h : rightC xs = true) {t : Tu} {j : Nat} {x : Co} (hx : xs[j]? = some x) (he : x.t = t) : atC xs t = j ∧ okC xs t = true := by
  have hn : ¬ ltT t t := by unfold ltT; omega
  have h1 : atC xs t = j := by
    rcases Nat.lt_trichotomy (atC xs t) j with hlt | e | hgt
    · exfalso
      have hl := (List.getElem?_eq_some_iff.1 hx).1
      have hk : xs[atC xs t]? = some (xs[atC xs t]'(by omega)) := List.getElem?_eq_getElem (by omega)
      have := right_far h hk (j - (atC xs t + 1)) x (by rw [show atC xs t + 1 + (j - (atC xs t + 1)) = j by omega]; exact hx)
      rw [he] at this
      exact at_ge hk this
    · exact e
    · exfalso
      have := at_spec j hgt x hx
      rw [he] at this
      exact hn this
  refine ⟨h1, ?_⟩
  unfold okC
  rw [h1, hx]
  exact eqT_iff.2 he
theorem ok_spec {xs : List Co} {t : Tu} (h : okC xs t = true) : ∃ x, xs[atC xs t]? = some x ∧ x.t = t := by
  unfold okC at h
  cases hg : xs[atC xs t]? with
  | none => rw [hg] at h; cases h
  | some x => rw [hg] at h; exact ⟨x, rfl, eqT_iff.1 h⟩
theorem ok_there {xs : List Co} (h : rightC xs = true) (t : Tu) : okC xs t = xs.any fun x => eqT x.t t := by
  cases ho : okC xs t
  · symm
    rw [List.any_eq_false]
    intro x hx he
    obtain ⟨j, hj, hjx⟩ := List.getElem_of_mem hx
    have := (at_iff h (List.getElem?_eq_some_iff.2 ⟨hj, hjx⟩) (eqT_iff.1 he)).2
    rw [ho] at this; cases this
  · symm
    obtain ⟨x, hx, he⟩ := ok_spec ho
    exact List.any_eq_true.2 ⟨x, List.mem_of_getElem? hx, eqT_iff.2 he⟩
theorem insAt_get {α : Type} (xs : List α) (k : Nat) (x : α) (hk : k ≤ xs.length) (j : Nat) : (insAt xs k x)[j]? = if j < k then xs[j]? else if j = k then some x else xs[j - 1]? := by
  unfold insAt
  have hl : (xs.take k).length = k := by rw [List.length_take]; omega
  by_cases h1 : j < k
  · rw [if_pos h1, List.getElem?_append_left (by omega), List.getElem?_take, if_pos h1]
  · rw [if_neg h1, List.getElem?_append_right (by omega), hl]
    by_cases h2 : j = k
    · rw [if_pos h2, h2, Nat.sub_self]; rfl
    · rw [if_neg h2, show j - k = (j - k - 1) + 1 by omega, List.getElem?_cons_succ, List.getElem?_drop, show k + (j - k - 1) = j - 1 by omega]
theorem insAt_erase {α : Type} (xs : List α) (k : Nat) (x : α) (hk : k ≤ xs.length) : (insAt xs k x).eraseIdx k = xs := by
  have hl : (xs.take k).length = k := by rw [List.length_take]; omega
  unfold insAt
  rw [List.eraseIdx_append_of_length_le (by omega), hl, Nat.sub_self]
  simp
theorem add_right {xs : List Co} {t : Tu} {now : Int} (h : rightC xs = true) (hl : xs.length < 32) (h0 : 0 ≤ now) (h1 : now ≤ 1099511627776) (hn : okC xs t = false) : rightC (insAt xs (atC xs t) (newC t now)) = true := by
  have hk := at_le xs t
  obtain ⟨k, hke⟩ : ∃ k, atC xs t = k := ⟨_, rfl⟩
  have hsp := at_spec (xs := xs) (t := t)
  have hge := fun x => at_ge (xs := xs) (t := t) (x := x)
  have hok : ∀ x, xs[k]? = some x → x.t ≠ t := fun x hx he => by
    have := (at_iff h hx he).2
    rw [hn] at this; cases this
  rw [hke] at hk hsp hge ⊢
  refine (rightC_iff _).2 ⟨by rw [insAt_len]; omega, fun j hj ⟨x, hx, hb⟩ => ?_⟩
  have hbad := ((rightC_iff xs).1 h).2
  rw [insAt_get _ _ _ hk] at hx
  rcases hb with hb | ⟨m, y, rfl, hy, hc⟩
  · have hin : ∀ i, xs[i]? = some x → False := fun i hi => hbad i (List.getElem?_eq_some_iff.1 hi).1 ⟨x, hi, .inl hb⟩
    split at hx
    · exact hin _ hx
    · split at hx
      · cases hx
        unfold wrongC newC at hb
        simp at hb
        omega
      · exact hin _ hx
  · rw [insAt_get _ _ _ hk] at hy
    have hno : ¬ ltT y.t x.t := fun hlt => by have := cmpT_lt.2 hlt; omega
    by_cases c1 : m + 1 < k
    · rw [if_pos c1] at hx
      rw [if_pos (by omega)] at hy
      exact hno (right_lt h hy hx)
    · rw [if_neg c1] at hx
      by_cases c2 : m + 1 = k
      · rw [if_pos c2] at hx
        rw [if_pos (by omega)] at hy
        cases hx
        exact hno (hsp m (by omega) y hy)
      · rw [if_neg c2] at hx
        rw [if_neg (by omega)] at hy
        rw [show m + 1 - 1 = m by omega] at hx
        by_cases c3 : m = k
        · rw [if_pos c3] at hy
          cases hy
          subst c3
          refine hno ?_
          show ltT t x.t
          have a1 := hge x hx
          have a2 := hok x hx
          have a3 : ¬ cmpT x.t t < 0 := fun e => a1 (cmpT_lt.1 e)
          have a4 : cmpT x.t t ≠ 0 := fun e => a2 (cmpT_eq.1 e)
          exact cmpT_gt.1 (by omega)
        · rw [if_neg c3] at hy
          have e : xs[m - 1 + 1]? = some x := by rw [show m - 1 + 1 = m by omega]; exact hx
          exact hno (right_lt h hy e)
theorem add_at {xs : List Co} {t : Tu} {now : Int} : (insAt xs (atC xs t) (newC t now))[atC xs t]? = some (newC t now) := by
  rw [insAt_get _ _ _ (at_le xs t), if_neg (Nat.lt_irrefl _), if_pos rfl]
theorem touch_get {xs : List Co} {t : Tu} {now : Int} (h : rightC xs = true) (j : Nat) (x : Co) (hx : xs[j]? = some x) :
    (withX (touchF now) xs t)[j]? = some (if eqT x.t t = true then { x with l := max x.l (min now 1099511627776) } else x) := by
  unfold withX withOk
  rw [h, Bool.and_true]
  by_cases he : eqT x.t t = true
  · rw [if_pos he]
    obtain ⟨h1, h2⟩ := at_iff h hx (eqT_iff.1 he)
    rw [h2, if_pos rfl, h1]
    unfold touchF
    rw [hx]
    have hl := (List.getElem?_eq_some_iff.1 hx).1
    simp [hl]
  · rw [if_neg he]
    by_cases ho : okC xs t = true
    · rw [if_pos ho]
      obtain ⟨y, hy, hyt⟩ := ok_spec ho
      unfold touchF
      rw [hy]
      have hne : atC xs t ≠ j := fun e => by rw [e, hx] at hy; cases hy; exact he (eqT_iff.2 hyt)
      simp only
      rw [List.getElem?_set_ne hne]
      exact hx
    · rw [if_neg ho]; exact hx
theorem touch_len (xs : List Co) (t : Tu) (now : Int) : (withX (touchF now) xs t).length = xs.length := by
  unfold withX touchF; split
  · split <;> simp
  · rfl
theorem touch_right {xs : List Co} {t : Tu} {now : Int} (h : rightC xs = true) : rightC (withX (touchF now) xs t) = true := by
  have h2 := (rightC_iff xs).1 h
  refine (rightC_iff _).2 ⟨by rw [touch_len]; exact h2.1, fun j hj ⟨x, hx, hb⟩ => ?_⟩
  rw [touch_len] at hj
  have g := touch_get (t := t) (now := now) h
  have hx0 := g j xs[j] (List.getElem?_eq_getElem hj)
  rw [hx] at hx0
  have ht : ∀ (i : Nat) (z : Co), (withX (touchF now) xs t)[i]? = some z → ∃ y, xs[i]? = some y ∧ y.t = z.t := fun i z hz => by
    have hl : i < xs.length := by have := (List.getElem?_eq_some_iff.1 hz).1; rwa [touch_len] at this
    have h3 := g i xs[i] (List.getElem?_eq_getElem hl)
    rw [hz] at h3
    refine ⟨_, List.getElem?_eq_getElem hl, ?_⟩
    cases Option.some.inj h3
    split <;> rfl
  rcases hb with hb | ⟨m, y, rfl, hy, hc⟩
  · have hw : ¬ wrongC xs[j] = true := fun e => h2.2 j hj ⟨_, List.getElem?_eq_getElem hj, .inl e⟩
    cases Option.some.inj hx0
    unfold wrongC at hw hb
    simp only [Bool.or_eq_true, decide_eq_true_eq, not_or] at hw hb
    split at hb
    · simp only at hb; omega
    · omega
  · obtain ⟨y0, hy0, e1⟩ := ht m y hy
    obtain ⟨x0, hx0', e2⟩ := ht (m + 1) x hx
    have := cmpT_lt.2 (right_lt h hy0 hx0')
    rw [e1, e2] at this
    omega
theorem touch_twice {xs : List Co} {t : Tu} {now more : Int} (h : rightC xs = true) : withX (touchF more) (withX (touchF now) xs t) t = withX (touchF (max now more)) xs t := by
  refine List.ext_getElem? fun j => ?_
  by_cases hj : j < xs.length
  · have g1 := touch_get (t := t) (now := now) h j xs[j] (List.getElem?_eq_getElem hj)
    have g2 := touch_get (t := t) (now := more) (touch_right (t := t) (now := now) h) j _ g1
    have g3 := touch_get (t := t) (now := max now more) h j xs[j] (List.getElem?_eq_getElem hj)
    rw [g2, g3]
    by_cases he : eqT xs[j].t t = true
    · simp only [he, if_true]
      congr 2
      omega
    · simp only [he, Bool.false_eq_true, if_false]
  · rw [List.getElem?_eq_none (by rw [touch_len, touch_len]; omega), List.getElem?_eq_none (by rw [touch_len]; omega)]
theorem touch_ok {xs : List Co} (h : rightC xs = true) (t : Tu) : withOk xs t = xs.any fun x => eqT x.t t := by
  unfold withOk
  rw [h, Bool.and_true, ok_there h]

end Go.Proofs.Ytookffaojlkfaaa
