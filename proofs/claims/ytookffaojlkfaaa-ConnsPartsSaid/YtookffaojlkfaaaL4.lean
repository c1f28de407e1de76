/- merges. -/
import Derived.Test.YtookffaojlkfaaaL0
set_option linter.unusedSimpArgs false
set_option linter.unusedVariables false
namespace Go.Proofs.Ytookffaojlkfaaa
open Go.RowKit

attribute [local go_sem] beq_self_eq_true bne_self_eq_false

theorem eqne_C {x y : Co} (h : x ≠ y) (ρ : Operand → Value) (dst : Option Tmp) (p q : Operand) (ty : TypeId) (pos : String) (after : Array Edge) (g : Option (Nat × Bool)) (hx : ρ p = .agg #[.int .u32 x.t.a, .int .u32 x.t.b, .int .u16 x.t.c, .int .u16 x.t.d, .int .i64 x.s, .int .i64 x.l]) (hy : ρ q = .agg #[.int .u32 y.t.a, .int .u32 y.t.b, .int .u16 y.t.c, .int .u16 y.t.d, .int .i64 y.s, .int .i64 y.l]) (w : World) :
    (execOp ρ ⟨dst, .binOp .eql 43 p q 43, ty, pos, after, g⟩).run Try.prog w = .ok (.value (.bool false)) w := by
  have := eql_C (x := x) (y := y) ρ dst p q ty pos after g hx hy w
  rwa [decide_eq_false h] at this
theorem filter_at (f : Co → Bool) (xs : List Co) (n : Nat) (x : Co) (h : n < xs.length) (hx : xs[n] = x) (hf : f x = true) : (xs.filter f)[((xs.take n).filter f).length]? = some x ∧ ((xs.take n).filter f).length < (xs.filter f).length := by
  have e : xs.filter f = (xs.take n).filter f ++ (x :: (xs.drop (n + 1)).filter f) := by
    have h1 : xs = xs.take n ++ (x :: xs.drop (n + 1)) := by rw [← hx, ← List.drop_eq_getElem_cons h, List.take_append_drop]
    have h2 := congrArg (List.filter f) h1
    rw [List.filter_append, List.filter_cons_of_pos hf] at h2
    exact h2
  rw [e]
  refine ⟨by rw [List.getElem?_append_right (Nat.le_refl _), Nat.sub_self]; rfl, by rw [List.length_append, List.length_cons]; omega⟩
theorem filter_yes (f : Co → Bool) (xs : List Co) (n : Nat) (x : Co) (h : n < xs.length) (hx : xs[n] = x) (hf : f x = true) : ((xs.take (n + 1)).filter f).length = ((xs.take n).filter f).length + 1 := by
  rw [List.take_succ_eq_append_getElem h, hx, List.filter_append]; simp [hf]
theorem filter_no (f : Co → Bool) (xs : List Co) (n : Nat) (x : Co) (h : n < xs.length) (hx : xs[n] = x) (hf : f x = false) : ((xs.take (n + 1)).filter f).length = ((xs.take n).filter f).length := by
  rw [List.take_succ_eq_append_getElem h, hx, List.filter_append]; simp [hf]
theorem filter_le (f : Co → Bool) (xs : List Co) (n : Nat) : ((xs.take n).filter f).length ≤ xs.length := Nat.le_trans (List.length_filter_le _ _) (by rw [List.length_take]; omega)
set_option maxRecDepth 100000 in
set_option maxHeartbeats 16000000 in
theorem merges_any (so : Co → Bool) (p : Option Addr) (xs A B : List Co) (c : Nat) (q r : Option Addr) (c1 c2 : Nat) (w : World) (hs : SlC w p xs) (ha : SlC w q A) (hb : SlC w r B) (hl : xs.length ≤ 60) (hA : Hid (xs.filter so = A)) (hB : Hid (xs.filter (fun x => !so x) = B)) :
    Calls Try.prog 34 #[.slice p xs.length c, .slice q A.length c1, .slice r B.length c2] w fun e w' => e = .returned (.bool true) ∧ Ext w w' := by
  go_enter Try.func34, Try.ntmps34
  go_wp2
  go_loopw [7, 8, 9] (fun i k n wr => ∃ m : Nat, m ≤ xs.length ∧ n = .int .i64 m ∧ i = .int .i64 ((xs.take m).filter so).length ∧ k = .int .i64 ((xs.take m).filter fun x => !so x).length ∧ Ext w wr) (fun _ _ n _ => xs.length - (intOf n).toNat)
  case atStart => exact ⟨0, Nat.zero_le _, rfl, rfl, rfl, Ext.rf _⟩
  case round =>
    obtain ⟨m, hm, rfl, rfl, rfl, hE⟩ := hrel
    have hi60 := filter_le so xs m
    have hk60 := filter_le (fun x => !so x) xs m
    by_cases hlt : m < xs.length
    · have hil : (m : Int) < xs.length := by omega
      obtain ⟨b0, o0, rfl, lb0', c0, c1', c2', c3, c4, c5⟩ := (hs.ext hE) m hlt
      obtain ⟨x, hx⟩ : ∃ x, xs[m] = x := ⟨_, rfl⟩
      rw [hx] at c0 c1' c2' c3 c4 c5
      have lb0 : Lt b0 wr := lb0'
      have HSS := Lib.hid hs
      cases hso : so x
      · have hn1 := filter_no so xs m x hlt hx hso
        have hn2 := filter_yes (fun x => !so x) xs m x hlt hx (by simp [hso])
        obtain ⟨hat, hkl⟩ := filter_at (fun x => !so x) xs m x hlt hx (by simp [hso])
        rw [hB.out] at hat hkl
        have hE2 := Lib.hid hE
        obtain ⟨K, hK⟩ : ∃ K, ((xs.take m).filter fun x => !so x).length = K := ⟨_, rfl⟩
        obtain ⟨I, hI⟩ : ∃ I, ((xs.take m).filter so).length = I := ⟨_, rfl⟩
        rw [hK] at hn2 hat hkl hk60 ⊢
        rw [hI] at hn1 hi60 ⊢
        have HN1 := Lib.hid hn1
        have HN2 := Lib.hid hn2
        obtain ⟨b2, o2, rfl, lb2', z0, z1, z2, z3, z4, z5⟩ := (hb.ext hE) K hkl
        have hz : B[K] = x := by rw [List.getElem?_eq_getElem hkl] at hat; exact Option.some.inj hat
        rw [hz] at z0 z1 z2 z3 z4 z5
        have lb2 : Lt b2 wr := lb2'
        have hkl2 : (K : Int) < B.length := by omega
        by_cases hIa : I < A.length
        · have hia : (I : Int) < A.length := by omega
          obtain ⟨b1, o1, rfl, lb1', y0, y1, y2, y3, y4, y5⟩ := (ha.ext hE) I hIa
          obtain ⟨y, hy⟩ : ∃ y, A[I] = y := ⟨_, rfl⟩
          have hyx : y ≠ x := by
            intro e
            have hmem : y ∈ xs.filter so := by rw [hA.out, ← hy]; exact List.getElem_mem hIa
            have := (List.mem_filter.1 hmem).2
            rw [e, hso] at this; cases this
          rw [hy] at y0 y1 y2 y3 y4 y5
          have lb1 : Lt b1 wr := lb1'
          have HYX := Lib.hid hyx
          clear hs hx hso hn1 hn2 hat hz hK hI hy hyx lb0' lb1' lb2' hb ha hE hA hB
          go_upto_region 6 with (fail)
          refine wp_region_later (by kernel_rfl) (by kernel_rfl) ?_
          (repeat (go_big_quiet_step (fail)))
          refine wpQuiet_val (v := .bool false) (by kernel_rfl) (eqne_C HYX.out _ _ _ _ _ _ _ _ (by kernel_rfl) (by kernel_rfl)) ?_
          go_simp
          (repeat (go_big_quiet_step (fail)))
          refine wpQuiet_nil ?_; intro d
          have hd := later_ext d
          obtain ⟨W5, hW5⟩ : ∃ W5, later d = W5 := ⟨_, rfl⟩
          rw [hW5] at hd ⊢
          clear hW5
          have c0 := (hd.cell (p := ⟨b0, _, none⟩) lb0).trans c0
          have z0 := (hd.cell (p := ⟨b2, _, none⟩) lb2).trans z0
          have c1 := (hd.cell (p := ⟨b0, _, none⟩) lb0).trans c1'
          have z1 := (hd.cell (p := ⟨b2, _, none⟩) lb2).trans z1
          have c2 := (hd.cell (p := ⟨b0, _, none⟩) lb0).trans c2'
          have z2 := (hd.cell (p := ⟨b2, _, none⟩) lb2).trans z2
          have c3 := (hd.cell (p := ⟨b0, _, none⟩) lb0).trans c3
          have z3 := (hd.cell (p := ⟨b2, _, none⟩) lb2).trans z3
          have c4 := (hd.cell (p := ⟨b0, _, none⟩) lb0).trans c4
          have z4 := (hd.cell (p := ⟨b2, _, none⟩) lb2).trans z4
          have c5 := (hd.cell (p := ⟨b0, _, none⟩) lb0).trans c5
          have z5 := (hd.cell (p := ⟨b2, _, none⟩) lb2).trans z5
          have lb0 : Lt b0 W5 := Nat.lt_of_lt_of_le lb0 hd.size
          have lb2 : Lt b2 W5 := Nat.lt_of_lt_of_le lb2 hd.size
          go_upto_region 8 with (fail)
          refine wp_region_later (by kernel_rfl) (by kernel_rfl) ?_; (repeat (go_big_quiet_step (fail))); refine wpQuiet_nil ?_; intro d2
          have hd2 := later_ext d2
          go_wp2
          go_roundw
          case rel => exact ⟨m + 1, by omega, by go_num, by rw [HN1.out], by rw [HN2.out]; go_num, (hE2.out.tr hd).tr hd2⟩
          case measure => simp [intOf]; omega
        · have hia : ¬ ((I : Int) < A.length) := by omega
          clear hs hx hso hn1 hn2 hat hz hK hI lb0' lb2' hb ha hE hA hB
          go_upto_region 6 with (fail)
          refine wp_region_later (by kernel_rfl) (by kernel_rfl) ?_; (repeat (go_big_quiet_step (fail))); refine wpQuiet_nil ?_; intro d
          have hd := later_ext d
          obtain ⟨W5, hW5⟩ : ∃ W5, later d = W5 := ⟨_, rfl⟩
          rw [hW5] at hd ⊢
          clear hW5
          have c0 := (hd.cell (p := ⟨b0, _, none⟩) lb0).trans c0
          have z0 := (hd.cell (p := ⟨b2, _, none⟩) lb2).trans z0
          have c1 := (hd.cell (p := ⟨b0, _, none⟩) lb0).trans c1'
          have z1 := (hd.cell (p := ⟨b2, _, none⟩) lb2).trans z1
          have c2 := (hd.cell (p := ⟨b0, _, none⟩) lb0).trans c2'
          have z2 := (hd.cell (p := ⟨b2, _, none⟩) lb2).trans z2
          have c3 := (hd.cell (p := ⟨b0, _, none⟩) lb0).trans c3
          have z3 := (hd.cell (p := ⟨b2, _, none⟩) lb2).trans z3
          have c4 := (hd.cell (p := ⟨b0, _, none⟩) lb0).trans c4
          have z4 := (hd.cell (p := ⟨b2, _, none⟩) lb2).trans z4
          have c5 := (hd.cell (p := ⟨b0, _, none⟩) lb0).trans c5
          have z5 := (hd.cell (p := ⟨b2, _, none⟩) lb2).trans z5
          have lb0 : Lt b0 W5 := Nat.lt_of_lt_of_le lb0 hd.size
          have lb2 : Lt b2 W5 := Nat.lt_of_lt_of_le lb2 hd.size
          go_upto_region 8 with (fail)
          refine wp_region_later (by kernel_rfl) (by kernel_rfl) ?_; (repeat (go_big_quiet_step (fail))); refine wpQuiet_nil ?_; intro d2
          have hd2 := later_ext d2
          go_wp2
          go_roundw
          case rel => exact ⟨m + 1, by omega, by go_num, by rw [HN1.out], by rw [HN2.out]; go_num, (hE2.out.tr hd).tr hd2⟩
          case measure => simp [intOf]; omega
      · have hn1 := filter_yes so xs m x hlt hx hso
        have hn2 := filter_no (fun x => !so x) xs m x hlt hx (by simp [hso])
        obtain ⟨hat, hkl⟩ := filter_at so xs m x hlt hx hso
        rw [hA.out] at hat hkl
        have hE2 := Lib.hid hE
        obtain ⟨K, hK⟩ : ∃ K, ((xs.take m).filter fun x => !so x).length = K := ⟨_, rfl⟩
        obtain ⟨I, hI⟩ : ∃ I, ((xs.take m).filter so).length = I := ⟨_, rfl⟩
        rw [hK] at hn2 hk60 ⊢
        rw [hI] at hn1 hat hkl hi60 ⊢
        have HN1 := Lib.hid hn1
        have HN2 := Lib.hid hn2
        obtain ⟨b1, o1, rfl, lb1', y0, y1, y2, y3, y4, y5⟩ := (ha.ext hE) I hkl
        have hz : A[I] = x := by rw [List.getElem?_eq_getElem hkl] at hat; exact Option.some.inj hat
        rw [hz] at y0 y1 y2 y3 y4 y5
        have lb1 : Lt b1 wr := lb1'
        have hkl2 : (I : Int) < A.length := by omega
        clear hs hx hso hn1 hn2 hat hz hK hI lb0' lb1' hb ha hE hA hB
        go_upto_region 6 with (fail)
        refine wp_region_later (by kernel_rfl) (by kernel_rfl) ?_; (repeat (go_big_quiet_step (fail))); refine wpQuiet_nil ?_; intro d
        have hd := later_ext d
        go_wp2
        go_roundw
        case rel => exact ⟨m + 1, by omega, by go_num, by rw [HN1.out]; go_num, by rw [HN2.out], hE2.out.tr hd⟩
        case measure => simp [intOf]; omega
    · have hil : ¬ ((m : Int) < xs.length) := by omega
      have e1 : ((xs.take m).filter so).length = A.length := by rw [List.take_of_length_le (by omega), hA.out]
      have e2 : ((xs.take m).filter fun x => !so x).length = B.length := by rw [List.take_of_length_le (by omega), hB.out]
      rw [e1, e2]
      clear e1 e2 hs ha hb
      go_wp2
      go_ret
      exact ⟨rfl, hE⟩

end Go.Proofs.Ytookffaojlkfaaa
