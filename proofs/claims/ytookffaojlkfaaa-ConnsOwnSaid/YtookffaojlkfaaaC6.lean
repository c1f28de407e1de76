/- Connections: Right. -/
import Derived.Test.YtookffaojlkfaaaC5
set_option linter.unusedSimpArgs false
set_option linter.unusedVariables false
namespace Go.Proofs.Ytookffaojlkfaaa
open Go.RowKit

def wrongC (x : Co) : Bool := decide (x.s < 0) || decide (x.l < x.s) || decide (1099511627776 < x.l)
set_option maxHeartbeats 1000000 in
theorem wrong_any (x : Co) (w : World) :
    Calls Try.prog 65 #[.agg #[.int .u32 x.t.a, .int .u32 x.t.b, .int .u16 x.t.c, .int .u16 x.t.d, .int .i64 x.s, .int .i64 x.l]] w fun e w' => e = .returned (.bool (wrongC x)) ∧ Ext w w' := by
  go_enter Try.func65, Try.ntmps65
  go_wp2
  all_goals go_ret
  all_goals refine ⟨ret_bool ?_, ?_⟩
  all_goals first | (guard_target =~ Below _ _ _; (repeat (first | with_reducible exact Ext.rf _ | with_reducible assumption | with_reducible refine Ext.al ?_ _ | with_reducible refine Ext.dr ?_ | with_reducible refine Ext.dn ?_ _ | ((with_reducible refine Ext.st _ ?_ ?_); focus (first | omega | (simp; omega) | simp)) | with_reducible refine Ext.tr ?_ (by assumption) | with_reducible refine Ext.tr ?_ (up_ext (by assumption)) | with_reducible refine Ext.of (by assumption) ?_))) | (simp [wrongC, *]; done) | grind [wrongC]
theorem wrong_cl (x : Co) (w : World) :
    Calls Try.prog 65 (#[.agg #[.int .u32 x.t.a, .int .u32 x.t.b, .int .u16 x.t.c, .int .u16 x.t.d, .int .i64 x.s, .int .i64 x.l]] ++ #[]) w fun e w' => e = .returned (.bool (wrongC x)) ∧ Ext w w' := by
  rw [show (#[Value.agg #[.int .u32 x.t.a, .int .u32 x.t.b, .int .u16 x.t.c, .int .u16 x.t.d, .int .i64 x.s, .int .i64 x.l]] ++ #[] : Array Value) = #[.agg #[.int .u32 x.t.a, .int .u32 x.t.b, .int .u16 x.t.c, .int .u16 x.t.d, .int .i64 x.s, .int .i64 x.l]] from rfl]
  exact wrong_any x w
theorem enters_wrong : ∀ args w, (callFunc 65 args).run Try.prog w = .ok (.enter 65 args) w := enters_of Try.func65 (by kernel_rfl) rfl
theorem enters_pairs : ∀ args w, (callFunc 91 args).run Try.prog w = .ok (.enter 91 args) w := enters_of Try.func91 (by kernel_rfl) rfl
def lessC (p : Co × Co) : Bool := decide (cmpT p.1.t p.2.t < 0)
def rightC (xs : List Co) : Bool := decide (xs.length ≤ 32) && !xs.any wrongC && (pairsC xs).all lessC
set_option maxRecDepth 100000 in
set_option maxHeartbeats 4000000 in
theorem right_any (p : Option Addr) (xs : List Co) (c : Nat) (w : World) (hs : SlC w p xs) (hl : xs.length ≤ 1000) :
    Calls Try.prog 26 #[.slice p xs.length c] w fun e w' => e = .returned (.bool (rightC xs)) ∧ Ext w w' := by
  have HCF := Lib.hid (fun W (hE : Ext w W) => containsFunc_C 65 #[] enters_wrong wrongC p xs c W (hs.ext hE) hl (fun x W' _ _ => wrong_cl x W'))
  refine (callsIn_wide (n := 5)).1 ?_
  refine callsIn_of_wp_marks Try.func26 rfl trivial ?_ rfl
  simp only [Try.ntmps26, List.size_toArray, List.length_cons, List.length_nil, Nat.reduceAdd, Nat.reduceSub, Array.replicate_succ, Array.replicate_zero, List.push_toArray, List.append_toArray, List.nil_append, List.cons_append]
  refine wpIn_wide.2 ?_
  go_wp2
  refine wp_scope_fwd 0 rfl ?_
  cases h1 : decide (32 < (xs.length : Int))
  · have hle : decide (xs.length ≤ 32) = true := by have := of_decide_eq_false h1; exact decide_eq_true (by omega)
    cases h2 : xs.any wrongC
    · have HRC := Lib.hid (show rightC xs = (pairsC xs).all lessC by unfold rightC; rw [hle, h2]; rfl)
      rw [h2] at HCF
      clear h2 hle
      go_wp2_with (first | (go_at_call 66; (with_reducible refine (HCF.out _ (Ext.rf _)).mono ?_); rintro e w1 ⟨rfl, g1⟩) | (go_at_call 67; (with_reducible refine (pairs_C_any _ _ _ _).mono ?_); rintro e w2 ⟨rfl, rfl⟩))
      obtain ⟨W2, hW⟩ : ∃ W2, w1.alloc (.cells #[.slice p xs.length c] 22) = W2 := ⟨_, rfl⟩
      have g2 : Ext w1 W2 := by rw [← hW]; exact Ext.al (Ext.rf _) _
      have hcl : W2.cell? ⟨w1.heap.size, 0, none⟩ = some (.slice p xs.length c) := by rw [← hW, cell_rowD, rowD_new]; rfl
      have hlb : Lt w1.heap.size W2 := by rw [← hW]; simp [Lt]
      have hs1 := hs.ext g1
      rw [hW]
      clear hW HCF
      refine (wpIn_wide (n := 5)).1 ?_
      refine wpIn_range rfl (by omega) (gf := 91) (lb := #[.pointer (some ⟨w1.heap.size, 0, none⟩)]) rfl trivial enters_pairs
        (pairs_C_iter _ xs p c w1 W2 w1.heap.size (fun _ => False) g2 hs1 hl hcl hlb (fun _ h => h.elim))
        (fun k h => h.elim) (fun k h => h.elim) (fun _ => rfl)
        (fun i _ => ∀ j, j < i → ∀ h : j < (pairsC xs).length, lessC (pairsC xs)[j] = true) (fun cc _ => cc = .goto 0 ∧ (pairsC xs).all lessC = false)
        (fun _ _ _ h _ => h) (fun _ _ _ h _ => h) (fun j hj => by omega)
        (fun x a' W => ∃ Bx By, W2.heap.size + 2 ≤ Bx ∧ Bx < W.heap.size ∧ W2.heap.size + 2 ≤ By ∧ By < W.heap.size ∧ rowD W Bx = #[.int .u32 x.1.t.a, .int .u32 x.1.t.b, .int .u16 x.1.t.c, .int .u16 x.1.t.d, .int .i64 x.1.s, .int .i64 x.1.l] ∧ rowD W By = #[.int .u32 x.2.t.a, .int .u32 x.2.t.b, .int .u16 x.2.t.c, .int .u16 x.2.t.d, .int .i64 x.2.s, .int .i64 x.2.l] ∧ a' = { tmps := #[.slice p xs.length c, undef, .bool false, .func (.func 65) #[] #[], .pointer (some ⟨Bx, 0, none⟩), .pointer (some ⟨By, 0, none⟩), .slice p xs.length c, .int .i64 xs.length, .bool false, .bool false, .slice p xs.length c, .func (.func 65) #[] #[], .bool false, .bool false, .slice p xs.length c, .func (.func 91) #[] #[.pointer (some ⟨w1.heap.size, 0, none⟩)], .agg #[.int .u32 x.1.t.a, .int .u32 x.1.t.b, .int .u16 x.1.t.c, .int .u16 x.1.t.d, .int .i64 x.1.s, .int .i64 x.1.l], .agg #[.int .u32 x.2.t.a, .int .u32 x.2.t.b, .int .u16 x.2.t.c, .int .u16 x.2.t.d, .int .i64 x.2.s, .int .i64 x.2.l], undef, undef, undef, undef, undef, undef], defers := [] })
        (fun x a' A B h hm => by
          obtain ⟨Bx, By, q1, q2, q3, q4, q5, q6, q7⟩ := h
          exact ⟨Bx, By, q1, Nat.lt_of_lt_of_le q2 hm.size, q3, Nat.lt_of_lt_of_le q4 hm.size, by rw [rowD_same (hm.same Bx q2 (by omega))]; exact q5, by rw [rowD_same (hm.same By q4 (by omega))]; exact q6, q7⟩)
        ?assign ?body ?done ?stop
      case assign =>
        intro y i x W K hsz hv hI hx hK
        gi_wp2
        repeat (rw [Oper.semAt_some _ _ _ (by intro c h; cases h)]; go_simp; gi_wp2)
        refine hK _ _ ?_ hI ⟨W.heap.size, W.heap.size + 1, hsz, ?_, by omega, ?_, ?_, ?_, rfl⟩
        · exact Mv.al _ (Mv.al _ (Mv.refl _ _))
        · simp; omega
        · simp
        · simp [go_sem]
        · simp [go_sem]
      case body =>
        rintro y i x a' W hyl ⟨rr, hr⟩ hsz hv hI hx ⟨Bx, By, q1, q2, q3, q4, q5, q6, rfl⟩
        have hil : i < (pairsC xs).length := (List.getElem?_eq_some_iff.1 hx).1
        have hxi : (pairsC xs)[i] = x := (List.getElem?_eq_some_iff.1 hx).2
        have c0 : W.cell? ⟨Bx, 0, none⟩ = some (.int .u32 x.1.t.a) := by rw [cell_rowD, q5]; rfl
        have c1 : W.cell? ⟨Bx, 1, none⟩ = some (.int .u32 x.1.t.b) := by rw [cell_rowD, q5]; rfl
        have c2 : W.cell? ⟨Bx, 2, none⟩ = some (.int .u16 x.1.t.c) := by rw [cell_rowD, q5]; rfl
        have c3 : W.cell? ⟨Bx, 3, none⟩ = some (.int .u16 x.1.t.d) := by rw [cell_rowD, q5]; rfl
        have d0 : W.cell? ⟨By, 0, none⟩ = some (.int .u32 x.2.t.a) := by rw [cell_rowD, q6]; rfl
        have d1 : W.cell? ⟨By, 1, none⟩ = some (.int .u32 x.2.t.b) := by rw [cell_rowD, q6]; rfl
        have d2 : W.cell? ⟨By, 2, none⟩ = some (.int .u16 x.2.t.c) := by rw [cell_rowD, q6]; rfl
        have d3 : W.cell? ⟨By, 3, none⟩ = some (.int .u16 x.2.t.d) := by rw [cell_rowD, q6]; rfl
        have HI := Lib.hid hI
        have HXI := Lib.hid hxi
        clear hI hxi hx hr q5 q6 hv
        cases hq : decide (0 ≤ cmpT x.1.t x.2.t)
        · have hlt := of_decide_eq_false hq
          have HLS := Lib.hid (show lessC x = true from decide_eq_true (by omega))
          gi_wp2
          repeat (rw [Oper.semAt_some _ _ _ (by intro c h; cases h)]; go_simp; gi_wp2)
          refine ⟨trivial, CallsIn.mono (CallsIn.inRound y (callsIn_wide.2 (cmp_any x.1.t x.2.t _))) ?_⟩
          rintro e w6 ⟨rfl, hb⟩
          gi_wp2
          repeat (rw [Oper.semAt_some _ _ _ (by intro c h; cases h)]; go_simp; gi_wp2)
          exact ⟨(Mv.of_ext hb), fun j hj hjl => by
            rcases Nat.lt_or_ge j i with h | h
            · exact HI.out j h hjl
            · obtain rfl : j = i := by omega
              rw [HXI.out]; exact HLS.out⟩
        · have hge := of_decide_eq_true hq
          have HLS := Lib.hid (show lessC x = false from decide_eq_false (by omega))
          gi_wp2
          repeat (rw [Oper.semAt_some _ _ _ (by intro c h; cases h)]; go_simp; gi_wp2)
          refine ⟨trivial, CallsIn.mono (CallsIn.inRound y (callsIn_wide.2 (cmp_any x.1.t x.2.t _))) ?_⟩
          rintro e w6 ⟨rfl, hb⟩
          gi_wp2
          repeat (rw [Oper.semAt_some _ _ _ (by intro c h; cases h)]; go_simp; gi_wp2)
          refine wpIn_goto ?_
          exact ⟨Mv.of_ext hb, rfl, List.all_eq_false.2 ⟨x, by rw [← HXI.out]; exact List.getElem_mem hil, by rw [HLS.out]; decide⟩⟩
      case done =>
        rintro W hI hv hK
        have HRT := Lib.hid (show rightC xs = true by rw [HRC.out]; exact List.all_eq_true.2 fun z hz => by obtain ⟨j, hj, rfl⟩ := List.mem_iff_getElem.1 hz; exact hI j hj hj)
        clear hI
        go_wp2
        simp only [Exit.jump]
        refine ⟨by simp, .inl ⟨_, _, rfl, run_takeDeferred hK, ?_⟩⟩
        refine ⟨_, results_tmp rfl _ _ _, by rw [HRT.out]; rfl, ?_⟩
        have hE2 : Ext w W := Mv.ext_of (g1.tr g2) hv (fun k h => by rcases h with h | h <;> exact h.elim)
        exact Mv.ext_of hE2 (Mv.put (C := fun k => k = W2.heap.size) _ _ _ rfl) (fun k h => by have := g1.size; have := g2.size; omega)
      case stop =>
        rintro cc W ⟨rfl, hn⟩ hv hK
        have HRF := Lib.hid (show rightC xs = false by rw [HRC.out]; exact hn)
        clear hn
        refine wpIn_goto ?_
        simp only [Exit.inBlock, Exit.then, Exit.jump]
        refine ⟨rfl, ?_⟩
        go_wp2
        rw [Exit.noGoto_ret]
        refine ⟨by simp, .inl ⟨_, _, rfl, run_takeDeferred hK, ?_⟩⟩
        refine ⟨_, results_tmp rfl _ _ _, by rw [HRF.out]; rfl, ?_⟩
        have hE2 : Ext w W := Mv.ext_of (g1.tr g2) hv (fun k h => by rcases h with h | h <;> exact h.elim)
        exact Mv.ext_of hE2 (Mv.put (C := fun k => k = W2.heap.size) _ _ _ rfl) (fun k h => by have := g1.size; have := g2.size; omega)
    · have HRC := Lib.hid (show rightC xs = false by unfold rightC; rw [h2]; simp)
      rw [h2] at HCF
      go_wp2_with (go_at_call 66; (with_reducible refine (HCF.out _ (Ext.rf _)).mono ?_); rintro e w1 ⟨rfl, g1⟩)
      go_step3
      refine ⟨rfl, ?_⟩
      go_wp2
      rw [Exit.noGoto_ret]
      exact ⟨_, results_tmp rfl _ _ _, by rw [HRC.out]; rfl, g1⟩
  · have HRC := Lib.hid (show rightC xs = false by unfold rightC; rw [show decide (xs.length ≤ 32) = false from decide_eq_false (by have := of_decide_eq_true h1; omega)]; rfl)
    go_wp2
    go_step3
    refine ⟨rfl, ?_⟩
    go_wp2
    rw [Exit.noGoto_ret]
    exact ⟨_, results_tmp rfl _ _ _, by rw [HRC.out]; rfl, Ext.rf _⟩

end Go.Proofs.Ytookffaojlkfaaa
