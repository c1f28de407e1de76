/- A plan to add, of the package plan. -/
import Derived.Test.YtlacidecomflkaaP9
set_option linter.unusedSimpArgs false
set_option linter.unusedVariables false
namespace Go.Proofs.Ytlacidecomflkaa
open Go.RowKit
attribute [local go_sem] Oper.semAt_some
set_option maxHeartbeats 1000000 in
theorem adding_any (o : Nat → Int) (p : Option Addr) (n c : Nat) (who : Int) (w : World) :
    Calls Try.prog 46 #[.agg (ov o), .slice p n c, .int .i64 who] w fun e w' => e = .returned (.func (.func 74) #[] #[.pointer (some ⟨w.heap.size + 1, 0, none⟩), .pointer (some ⟨w.heap.size, 0, none⟩), .pointer (some ⟨w.heap.size + 2, 0, none⟩)]) ∧
      w' = ((w.alloc (.cells (ov o) 22)).alloc (.cells #[.slice p n c] 23)).alloc (.cells #[.int .i64 who] 3) := by
  go_enter Try.func46, Try.ntmps46
  go_wp2
  go_ret
  exact ⟨rfl, rfl⟩
set_option maxHeartbeats 1000000 in
theorem leaving_any (o : Nat → Int) (p : Option Addr) (n c : Nat) (g : Nat) (lb : Array Value) (w : World) :
    Calls Try.prog 54 #[.agg (ov o), .slice p n c, .func (.func g) #[] lb] w fun e w' => e = .returned (.func (.func 77) #[] #[.pointer (some ⟨w.heap.size, 0, none⟩), .pointer (some ⟨w.heap.size + 2, 0, none⟩), .pointer (some ⟨w.heap.size + 1, 0, none⟩)]) ∧
      w' = ((w.alloc (.cells (ov o) 22)).alloc (.cells #[.slice p n c] 23)).alloc (.cells #[.func (.func g) #[] lb] 69) := by
  go_enter Try.func54, Try.ntmps54
  go_wp2
  go_ret
  exact ⟨rfl, rfl⟩
theorem enters_adding1 : ∀ args w, (callFunc 74 args).run Try.prog w = .ok (.enter 74 args) w := enters_of Try.func74 (by kernel_rfl) rfl
theorem enters_leaving1 : ∀ args w, (callFunc 77 args).run Try.prog w = .ok (.enter 77 args) w := enters_of Try.func77 (by kernel_rfl) rfl
/-- A plan to add: its error, its shifts. -/
def addE (o : Nat → Int) (ms : List Int) (who : Int) : Int := if backB who && rightP o ms then (if ms.any (who == ·) then 201 else 0) else 2
def addX (o : Nat → Int) (ms : List Int) (who : Int) : List Sh := if addE o ms who = 0 then addP o ms who else []
/-- What a plan returns: shifts in memory of their own, an error. -/
def PlanRet (xs : List Sh) (er : Int) (w : World) (e : Ending) (w' : World) : Prop := ∃ v, e = .returned (.tuple #[v, .int .i64 er]) ∧ w'.ownsRow w.heap.size 45 2 v xs.length (shC xs) ∧ Ext w w'
theorem planRet_nil {xs : List Sh} {er : Int} {w w' : World} (hx : xs = []) (h : Ext w w') : PlanRet xs er w (.returned (.tuple #[.slice none 0 0, .int .i64 er])) w' := by
  subst hx; exact ⟨_, rfl, World.ownsRow_nil _ _ _ _, h⟩

set_option maxRecDepth 100000 in
set_option maxHeartbeats 4000000 in
theorem add_any (o : Nat → Int) (p : Option Addr) (ms : List Int) (c : Nat) (who : Int) (w : World) (hs : Sl w p ms) (hlen : ms.length ≤ 1000) (hcap : ms.length ≤ c) :
    Calls Try.prog 14 #[.agg (ov o), .slice p ms.length c, .int .i64 who] w (PlanRet (addX o ms who) (addE o ms who) w) := by
  have hE0 : Ext w ((w.alloc (.cells (ov o) 22)).alloc (.cells #[.slice none 0 0] 24)) := Ext.al (Ext.al (Ext.rf _) _) _
  cases hbk : backB who
  · have HE := Lib.hid (show addE o ms who = 2 by unfold addE; rw [hbk]; rfl)
    have HX := Lib.hid (show addX o ms who = [] by unfold addX; rw [HE.out]; rfl)
    have HB := Lib.hid hbk
    clear hbk
    rw [HE.out]
    go_enter Try.func14, Try.ntmps14
    go_wp2_with ((go_at_call 44; (with_reducible refine (back_any _ _).mono ?_); rw [HB.out]; rintro e w' ⟨rfl, rfl⟩))
    all_goals
      refine bodyPost_ret (v := .tuple #[.slice none 0 0, .int .i64 2]) ?_ rfl ?_
      · (simp [results, Try.results14, go_sem, *]; done)
      · exact planRet_nil HX.out (by repeat (first | with_reducible exact Ext.rf _ | with_reducible assumption | with_reducible refine Ext.al ?_ _ | with_reducible refine Ext.dr ?_ | with_reducible refine Ext.dn ?_ _ | ((with_reducible refine Ext.st _ ?_ ?_); focus (first | omega | (simp; omega) | simp)) | ((with_reducible refine Ext.sr _ ?_ ?_); focus (first | omega | (simp; omega) | simp)) | with_reducible refine Ext.tr ?_ (by assumption) | with_reducible refine Ext.tr ?_ (up_ext (by assumption)) | with_reducible refine Ext.of (by assumption) ?_))

  · cases hr : rightP o ms
    · have HE := Lib.hid (show addE o ms who = 2 by unfold addE; rw [hbk, hr]; rfl)
      have HX := Lib.hid (show addX o ms who = [] by unfold addX; rw [HE.out]; rfl)
      have HB := Lib.hid hbk
      have HR := Lib.hid hr
      clear hbk hr
      rw [HE.out]
      go_enter Try.func14, Try.ntmps14
      go_wp2_with (first | (go_at_call 44; (with_reducible refine (back_any _ _).mono ?_); rw [HB.out]; rintro e w' ⟨rfl, rfl⟩) | (go_at_call 23; (with_reducible refine (right_any o p ms c _ (hs.ext hE0) hlen).mono ?_); rw [HR.out]; rintro e w' ⟨rfl, hb⟩; obtain ⟨hc, hf, hl, hz, -⟩ := kept hb; obtain ⟨hr, hq⟩ := keptR hb; try simp at hz))
      refine bodyPost_ret (v := .tuple #[.slice none 0 0, .int .i64 2]) ?_ rfl ?_
      · (simp [results, Try.results14, go_sem, *]; done)
      · exact planRet_nil HX.out (by repeat (first | with_reducible exact Ext.rf _ | with_reducible assumption | with_reducible refine Ext.al ?_ _ | with_reducible refine Ext.dr ?_ | with_reducible refine Ext.dn ?_ _ | ((with_reducible refine Ext.st _ ?_ ?_); focus (first | omega | (simp; omega) | simp)) | ((with_reducible refine Ext.sr _ ?_ ?_); focus (first | omega | (simp; omega) | simp)) | with_reducible refine Ext.tr ?_ (by assumption) | with_reducible refine Ext.tr ?_ (up_ext (by assumption)) | with_reducible refine Ext.of (by assumption) ?_))

    · cases hcn : ms.any (who == ·)
      · have HE := Lib.hid (show addE o ms who = 0 by unfold addE; rw [hbk, hr, hcn]; rfl)
        have HX := Lib.hid (show addX o ms who = addP o ms who by unfold addX; rw [HE.out]; rfl)
        have HM := Lib.hid (right_mem hr)
        have HNM := Lib.hid (show who ∉ ms from fun h => by
          have := List.any_eq_true.2 ⟨who, h, (by simp : (who == who) = true)⟩
          rw [this] at hcn; cases hcn)
        have HB := Lib.hid hbk
        have HR := Lib.hid hr
        have HC := Lib.hid hcn
        clear hbk hr hcn
        rw [HE.out, HX.out]
        obtain ⟨xs, hxs⟩ : ∃ xs, addP o ms who = xs := ⟨_, rfl⟩
        rw [hxs]
        have HXS := Lib.hid hxs
        clear hxs
        refine (callsIn_wide (n := 6)).1 ?_
        refine callsIn_of_wp_marks Try.func14 rfl trivial ?_ rfl
        simp only [Try.ntmps14, List.size_toArray, List.length_cons, List.length_nil, Nat.reduceAdd, Nat.reduceSub, Array.replicate_succ, Array.replicate_zero, List.push_toArray, List.append_toArray, List.nil_append, List.cons_append]
        refine wpIn_wide.2 ?_
        go_wp2_with (first | (go_at_call 44; (with_reducible refine (back_any _ _).mono ?_); rw [HB.out]; rintro e w' ⟨rfl, rfl⟩) | (go_at_call 23; (with_reducible refine (right_any o p ms c _ (hs.ext hE0) hlen).mono ?_); rw [HR.out]; rintro e w' ⟨rfl, hb⟩; obtain ⟨hc, hf, hl, hz, -⟩ := kept hb; obtain ⟨hr, hq⟩ := keptR hb; try simp at hz) | (go_at_call 45; (with_reducible refine (contains_any who p ms c _ (hs.ext (hE0.tr hb)) hlen).mono ?_); rw [HC.out]; rintro e w' ⟨rfl, rfl⟩) | (go_at_call 46; (with_reducible refine (adding_any o p ms.length c who _).mono ?_); rintro e w3 ⟨rfl, rfl⟩))
        have hsw : w.heap.size + 2 ≤ w'.heap.size := by have := hb.size; simp at this; omega
        have hE1 := hE0.tr hb
        have hbx : Boxed w' (w.heap.size + 1) 24 (.slice none 0 0) := by
          have h1 : Boxed ((w.alloc (.cells (ov o) 22)).alloc (.cells #[.slice none 0 0] 24)) (w.heap.size + 1) 24 (.slice none 0 0) := by
            have := Boxed.new (w.alloc (.cells (ov o) 22)) 24 (.slice none 0 0); rwa [World.size_alloc] at this
          exact boxed_mv (C := fun _ => False) h1 (Mv.of_ext hb) (fun h => h)
        obtain ⟨w3, hw3⟩ : ∃ w3, ((w'.alloc (.cells (ov o) 22)).alloc (.cells #[.slice p ms.length c] 23)).alloc (.cells #[.int .i64 who] 3) = w3 := ⟨_, rfl⟩
        have hE13 : Ext w' w3 := by rw [← hw3]; exact Ext.al (Ext.al (Ext.al (Ext.rf _) _) _) _
        have hE3 := hE1.tr hE13
        have hs3 : w3.heap.size = w'.heap.size + 3 := by rw [← hw3]; simp
        have bO : Boxed w3 (w.heap.size + 1) 24 (.slice none 0 0) := boxed_mv (C := fun _ => False) hbx (Mv.of_ext hE13) (fun h => h)
        have r0 : rowD w3 w'.heap.size = ov o := by rw [← hw3]; simp [go_sem]; intro h; omega
        have z0 : frzD w3 w'.heap.size = (0, 0) := by rw [← hw3]; simp [go_sem]
        have m0 : w3.cell? ⟨w'.heap.size + 1, 0, none⟩ = some (.slice p ms.length c) := by rw [← hw3, cell_rowD]; simp [go_sem]
        have q0 : w3.cell? ⟨w'.heap.size + 2, 0, none⟩ = some (.int .i64 who) := by rw [← hw3, cell_rowD]; simp [go_sem]
        rw [hw3]
        have HIT := Lib.hid (adding_iter 5 o ms who p c w w3 (w'.heap.size + 1) w'.heap.size (w'.heap.size + 2) (fun k => k = w.heap.size + 1) hE3 hs hlen hcap HM.out HNM.out m0 q0 r0 z0 (by unfold Lt; omega) (by unfold Lt; omega) (by unfold Lt; omega) (by omega) (by omega) (by omega) (fun k e => ⟨by omega, by omega, by omega, by omega⟩))
        have hxl : (addP o ms who).length ≤ 1000 := by have := addP_len o ms who HNM.out; omega
        rw [HXS.out] at HIT hxl
        clear hw3 r0 z0 m0 q0 hbx hE13 hE0 hb hc hf hl hz hr hq HE HX HM HNM HB HR HC hs hlen hcap
        obtain ⟨i0, hi, hz0, hz1, hz2⟩ := info_parts info_sh
        refine (wpIn_wide (n := 6)).1 ?_
        refine wpIn_range rfl (by omega) (gf := 74) (lb := #[.pointer (some ⟨w'.heap.size + 1, 0, none⟩), .pointer (some ⟨w'.heap.size, 0, none⟩), .pointer (some ⟨w'.heap.size + 2, 0, none⟩)]) rfl trivial enters_adding1 HIT.out
          (fun k h => by omega) (fun k h => by omega) (fun _ => rfl)
          (fun i W => HoldI (w.heap.size + 1) (w3.heap.size + 2) xs i W) (fun _ _ => False)
          (fun i A B h hm => h.mv hm (fun hh => by rcases hh with hh | hh | hh <;> omega) (fun k hk hh => by rcases hh with hh | hh | hh <;> omega))
          (fun _ _ _ h _ => h) ⟨_, bO, World.ownsRow_nil _ _ _ _⟩
          (fun s a' W => ∃ Bx, w3.heap.size + 2 ≤ Bx ∧ Bx < W.heap.size ∧ rowD W Bx = #[.int .i64 s.b, .int .i64 s.t] ∧
            a' = { tmps := #[.agg (ov o), .slice p ms.length c, .int .i64 who, .pointer (some ⟨w.heap.size, 0, none⟩), undef, undef, .pointer (some ⟨w.heap.size + 1, 0, none⟩), .int .i64 0, .pointer (some ⟨Bx, 0, none⟩), .int .i64 who, .bool true, .bool false, .bool false, .agg (ov o), .slice p ms.length c, .bool true, .bool false, .bool false, .slice p ms.length c, .int .i64 who, .bool false, .agg (ov o), .slice p ms.length c, .int .i64 who, .func (.func 74) #[] #[.pointer (some ⟨w'.heap.size + 1, 0, none⟩), .pointer (some ⟨w'.heap.size, 0, none⟩), .pointer (some ⟨w'.heap.size + 2, 0, none⟩)], shv s, undef, undef, undef, undef, undef], defers := [] })
          (fun s a' A B h hm => by
            obtain ⟨Bx, h1, h2, h3, h4⟩ := h
            exact ⟨Bx, h1, Nat.lt_of_lt_of_le h2 hm.size, by rw [rowD_same (hm.same Bx h2 (by omega))]; exact h3, h4⟩)
          ?assign ?body ?done ?stop
        case assign =>
          intro l i s W K hsz hv hI hx hK
          gi_wp2
          refine hK _ _ (Mv.al _ (Mv.refl _ _)) (hI.mv (Mv.al (C := fun _ => False) _ (Mv.refl _ _)) (fun h => h) (fun _ _ h => h)) ⟨W.heap.size, hsz, by simp, rowD_new _ _ _ _, rfl⟩
        case body =>
          rintro l i s a' W hl ⟨r, hr⟩ hsz hv ⟨v, hb, hrow⟩ hx ⟨Bx, h1, h2, h3, rfl⟩
          have hil : i < xs.length := (List.getElem?_eq_some_iff.1 hx).1
          have hxi : xs[i] = s := (List.getElem?_eq_some_iff.1 hx).2
          have hc := hb.cell
          have hcx0 : W.cell? ⟨Bx, 0, none⟩ = some (.int .i64 s.b) := by rw [cell_rowD, h3]; rfl
          have hcx1 : W.cell? ⟨Bx, 1, none⟩ = some (.int .i64 s.t) := by rw [cell_rowD, h3]; rfl
          have HX := Lib.hid hxi
          have HR := Lib.hid hrow
          clear hxi h3 hv hx hr
          have htk : xs.take (i + 1) = xs.take i ++ [s] := by rw [List.take_succ_eq_append_getElem hil, HX.out]
          have HT2 := Lib.hid htk
          clear htk
          have hnB : ∀ r, v.ownBlock = some r → w3.heap.size + 2 ≤ r := ownBlock_ge HR.out
          have HNB := Lib.hid hnB
          clear hnB
          gi_wp2_with (gi_at_builtin; refine wpListIn_append_own _ rfl _ _ 24 rfl (w3.heap.size + 2) 45 i0 (.agg #[.int .i64 0, .int .i64 0]) 2 16 Try.underlying24 hi hz0 hz1 hz2 rfl (by decide) _ _ _ rfl (HR.out.alloc _) ⟨W.heap.size, 0, none⟩ 1 1 [.int .i64 s.b, .int .i64 s.t] rfl rfl (cell_two_new _ _ _ _) (by simp [Value.oneCell']) (by unfold maxLen; omega) (by omega) (by simp; omega) ?_; intro v' w2 hown' hgrow _; have HOW := Lib.hid hown'; obtain ⟨g', cap', rfl⟩ := ownsRow_succ hown'; have hb2 : Boxed w2 (w.heap.size + 1) 24 v := (hb.alloc _).kept hgrow (fun e => by have := HNB.out _ e.symm; omega); have hc2 := hb2.cell; have hf2 := hb2.frozen; clear hown')
          have hm2 : Mv (fun k => k = w.heap.size + 1 ∨ w3.heap.size + 2 ≤ k) W w2 := (Mv.al _ (Mv.refl _ _)).trans (Mv.of_grown hgrow fun r e => .inl (.inr (HNB.out r e)))
          refine ⟨Mv.st _ (.inl (.inl rfl)) hm2, _, hb2.set _, ?_⟩
          rw [HT2.out, shC_snoc]
          exact ownsRow_mv (C := fun k => k = w.heap.size + 1) HOW.out (Mv.st _ (.inl rfl) (Mv.refl _ _)) (fun k hk e => by omega)
        case done =>
          rintro W ⟨v, hb, hrow⟩ hv hK
          have hc := hb.cell
          have hf := hb.frozen
          have HV := Lib.hid hv
          clear hv
          obtain ⟨vp, vn, vc, rfl⟩ := ownsRow_slice hrow
          go_wp2
          refine ⟨by simp, .inl ⟨_, _, rfl, run_takeDeferred (b := w3.heap.size) (by
            rw [show (W.setCell ⟨w.heap.size + 1, 0, none⟩ (.slice vp vn vc)).heap[w3.heap.size]? = W.heap[w3.heap.size]? by
              simp only [World.setCell, Array.getElem?_modify]; rw [if_neg (by omega)]]
            exact hK), ?_⟩⟩
          refine ⟨.tuple #[.slice vp vn vc, .int .i64 0], ?_, .slice vp vn vc, rfl, ?_, ?_⟩
          · have hb3 : Boxed ((W.setCell ⟨w.heap.size + 1, 0, none⟩ (.slice vp vn vc)).putObj w3.heap.size (.deferred none)) (w.heap.size + 1) 24 (.slice vp vn vc) :=
              boxed_mv (C := fun k => k = w3.heap.size) (hb.set _) (Mv.put _ _ _ rfl) (by omega)
            have hc3 := hb3.cell
            simp [results, Try.results14, go_sem, hc3]
          · have h1 := ownsRow_mv (C := fun k => k = w.heap.size + 1) hrow (Mv.st (b := w.heap.size + 1) (i := 0) (.slice vp vn vc) (.inl rfl) (Mv.refl _ _)) (fun k hk e => by omega)
            have h2 := ownsRow_mv (C := fun k => k = w3.heap.size) h1 (Mv.put _ w3.heap.size (.deferred none) rfl) (fun k hk e => by omega)
            rw [List.take_length] at h2
            exact ownsRow_le h2 (by have := hE3.size; omega)
          · have hV := HV.out
            refine hE3.trans ⟨hV.os, hV.tape, hV.output, by have := hV.size; simp; omega, fun k hk => ?_⟩
            rw [World.putObj_heap_other (by omega)]
            simp only [World.setCell, Array.getElem?_modify]
            rw [if_neg (by omega)]
            exact hV.same k (by omega) (by omega)
        case stop => exact fun _ _ h => h.elim
      · have HE := Lib.hid (show addE o ms who = 201 by unfold addE; rw [hbk, hr, hcn]; rfl)
        have HX := Lib.hid (show addX o ms who = [] by unfold addX; rw [HE.out]; rfl)
        have HB := Lib.hid hbk
        have HR := Lib.hid hr
        have HC := Lib.hid hcn
        clear hbk hr hcn
        rw [HE.out]
        go_enter Try.func14, Try.ntmps14
        go_wp2_with (first | (go_at_call 44; (with_reducible refine (back_any _ _).mono ?_); rw [HB.out]; rintro e w' ⟨rfl, rfl⟩) | (go_at_call 23; (with_reducible refine (right_any o p ms c _ (hs.ext hE0) hlen).mono ?_); rw [HR.out]; rintro e w' ⟨rfl, hb⟩; obtain ⟨hc, hf, hl, hz, -⟩ := kept hb; obtain ⟨hr, hq⟩ := keptR hb; try simp at hz) | (go_at_call 45; (with_reducible refine (contains_any who p ms c _ (hs.ext (hE0.tr hb)) hlen).mono ?_); rw [HC.out]; rintro e w' ⟨rfl, rfl⟩))
        refine bodyPost_ret (v := .tuple #[.slice none 0 0, .int .i64 201]) ?_ rfl ?_
        · (simp [results, Try.results14, go_sem, *]; done)
        · exact planRet_nil HX.out (by repeat (first | with_reducible exact Ext.rf _ | with_reducible assumption | with_reducible refine Ext.al ?_ _ | with_reducible refine Ext.dr ?_ | with_reducible refine Ext.dn ?_ _ | ((with_reducible refine Ext.st _ ?_ ?_); focus (first | omega | (simp; omega) | simp)) | ((with_reducible refine Ext.sr _ ?_ ?_); focus (first | omega | (simp; omega) | simp)) | with_reducible refine Ext.tr ?_ (by assumption) | with_reducible refine Ext.tr ?_ (up_ext (by assumption)) | with_reducible refine Ext.of (by assumption) ?_))


end Go.Proofs.Ytlacidecomflkaa
