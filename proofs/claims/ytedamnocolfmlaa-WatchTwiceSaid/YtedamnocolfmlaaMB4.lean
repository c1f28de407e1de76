/- Lemmas of this claim, put together out of: SD2, E1, E2, E3, E4, E5, E6, E7, E8, E9, EA, EB. -/
import Derived.Test.YtedamnocolfmlaaMB3
import Derived.LoopN
set_option linter.unusedSimpArgs false
set_option linter.unusedVariables false
/- Watch: whether a bucket is sound: the walk. -/
namespace Go.Proofs.Ytedamnocolfmlaa
open Go.RowKit

def SchSnd (ops : Array Oper) : Prop := Region.noSelect ops = true ∧ takesB ops 9 [0, 1, 3, 4] [] = true ∧ Region.ready .any ops (don 9 [4, 3, 1, 0]) = [2, 6] ∧ Region.ready .any ops (don 9 [2, 4, 3, 1, 0]) = [5, 6] ∧ Region.ready .any ops (don 9 [6, 4, 3, 1, 0]) = [2] ∧ Region.ready .any ops (don 9 [5, 2, 4, 3, 1, 0]) = [6] ∧ Region.ready .any ops (don 9 [6, 2, 4, 3, 1, 0]) = [5] ∧ Region.ready .any ops (don 9 [2, 6, 4, 3, 1, 0]) = [5] ∧ Region.ready .any ops (don 9 [6, 5, 2, 4, 3, 1, 0]) = [7] ∧ Region.ready .any ops (don 9 [5, 6, 2, 4, 3, 1, 0]) = [7] ∧ Region.ready .any ops (don 9 [5, 2, 6, 4, 3, 1, 0]) = [7] ∧ Region.ready .any ops (don 9 [7, 6, 5, 2, 4, 3, 1, 0]) = [8] ∧ Region.ready .any ops (don 9 [7, 5, 6, 2, 4, 3, 1, 0]) = [8] ∧ Region.ready .any ops (don 9 [7, 5, 2, 6, 4, 3, 1, 0]) = [8] ∧ Region.ready .any ops (don 9 [8, 7, 6, 5, 2, 4, 3, 1, 0]) = [] ∧ Region.ready .any ops (don 9 [8, 7, 5, 6, 2, 4, 3, 1, 0]) = [] ∧ Region.ready .any ops (don 9 [8, 7, 5, 2, 6, 4, 3, 1, 0]) = []
theorem schSnd : SchSnd ((Try.f25.body.bind (findR 1)).getD #[]) := ⟨by kernel_rfl, by kernel_rfl, by kernel_rfl, by kernel_rfl, by kernel_rfl, by kernel_rfl, by kernel_rfl, by kernel_rfl, by kernel_rfl, by kernel_rfl, by kernel_rfl, by kernel_rfl, by kernel_rfl, by kernel_rfl, by kernel_rfl, by kernel_rfl, by kernel_rfl⟩

theorem skipD {C : Nat → Prop} {P : Program} {ops : Array Oper} {Q : Act → World → Prop} {N k : Nat} {d : List Nat} {oi : Oper} {fuel : Nat} {a : Act} {w w1 : World} (hi : ops[k]? = some oi) (hw : Region.wanted oi (yielded ops a.tmps) = true)
    (he : (execOp a.eval oi).run P w = .ok .skip w1) (hE : Mv C w w1) (H : wpAnyK C P .any ops Q fuel (don N (k :: d)) (a.put oi.dst undef) w1) : stepK C P ops Q fuel N k d a w := by
  unfold stepK xOpK
  simp only [hi, hw, if_true, he]
  exact ⟨hE, H⟩
theorem mdv_list (m : Md) : (mdv m).toList = [.int .u8 m.kind, .int .i64 m.peer, .int .i64 m.gen, .bool m.ret] := by unfold mdv; rfl
theorem endD {C : Nat → Prop} {P : Program} {ops : Array Oper} {Q : Act → World → Prop} {N k k2 : Nat} {d : List Nat} {oi oj : Oper} {fuel : Nat} {v : Value} {a : Act} {w w2 : World}
    (hr : Region.ready .any ops (don N d) = [k]) (hi : ops[k]? = some oi) (hw : Region.wanted oi (yielded ops a.tmps) = true) (he : (execOp a.eval oi).run P w = .ok (.value v) w)
    (hr2 : Region.ready .any ops (don N (k :: d)) = [k2]) (hj : ops[k2]? = some oj) (hw2 : Region.wanted oj (yielded ops (a.put oi.dst v).tmps) = true) (he2 : (execOp (a.put oi.dst v).eval oj).run P w = .ok .skip w2) (hE : Mv C w w2)
    (hr3 : Region.ready .any ops (don N (k2 :: k :: d)) = []) (H : Q ((a.put oi.dst v).put oj.dst undef) w2) : wpAnyK C P .any ops Q (fuel + 2) (don N d) a w :=
  soleD hr (makeD hi hw he (Mv.refl _ _) (soleD hr2 (skipD hj hw2 he2 hE (doneK hr3 H))))
theorem storesi_run {w : World} {B : Nat} {p : Option Addr} {n c : Nat} {u : Value} (hc : w.cell? ⟨B, 0, none⟩ = some u) (hf : w.frozen? ⟨B, 0, none⟩ = false) (ρ : Operand → Value) (dst : Option Tmp) (x y : Operand) (ty : TypeId) (pos : String) (after : Array Edge) (g : Option (Nat × Bool))
    (hx : ρ x = .pointer (some ⟨B, 0, none⟩)) (hy : ρ y = .slice p n c) :
    (execOp ρ ⟨dst, .store 58 x y, ty, pos, after, g⟩).run Try.prog w = .ok .skip (w.setCell ⟨B, 0, none⟩ (.slice p n c)) := by
  simp only [execOp, hx, hy]
  go_simp
theorem ldwd_K {C : Nat → Prop} {w : World} {B : Nat} {x : Wd} (h0 : rowD w B = wdv x) (hl : Lt B w) (hC : ¬ C B) (ρ : Operand → Value) (dst : Option Tmp) (q : Operand) (ty : TypeId) (pos : String) (after : Array Edge) (g : Option (Nat × Bool)) (hx : ρ q = .pointer (some ⟨B, 0, none⟩)) :
    ∀ w', Mv C w w' → (execOp ρ ⟨dst, .load 53 q, ty, pos, after, g⟩).run Try.prog w' = .ok (.value (.agg (wdv x))) w' := by
  intro w' hE
  have hr : rowD w' B = wdv x := by rw [rowD_same (hE.same B hl hC)]; exact h0
  have e := exec_load_wd ρ dst q ty pos after g w' (by rw [hx]; rfl) (by rw [hx]; show Fits 0 814 (rowD w' B); rw [hr, fits_wdv]; omega)
  rw [e, hx]
  show Result.ok (Next.value (Value.agg (cutD (rowD w' B) 0 814))) w' = _
  rw [hr, cut_all_wdv]
theorem ownI_mv {A B : World} {C : Nat → Prop} {base : Nat} {p : Option Addr} {xs : List Int} {c : Nat} (h : A.ownsRow base 3 1 (.slice p xs.length c) xs.length (inC xs)) (hm : Mv C A B) (hc : ∀ k, base ≤ k → k < A.heap.size → ¬ C k) : SlI B p xs := by
  obtain ⟨p', c', e, _, hs⟩ := slI_own h
  cases e
  intro k hk
  obtain ⟨b, off, hp, hb, h0⟩ := hs k hk
  have hge : base ≤ b := by
    rcases h.2 with ⟨e, h0⟩ | ⟨g, cap, cur, e, hg, _⟩
    · omega
    · cases e; cases hp; exact hg
  exact ⟨b, off, hp, Nat.lt_of_lt_of_le hb hm.size, by rw [cell_rowD, rowD_same (hm.same b hb (hc b hge hb)), ← cell_rowD]; exact h0⟩
/-- What sound's two variables hold. -/
structure SndAt (W1 : World) (hs ts : List Int) (a5 a6 : Value) (wx : World) : Prop where
  at_ : ∃ p1 c1 p2 c2 B6, a5 = .slice p1 hs.length c1 ∧ a6 = .pointer (some ⟨B6, 0, none⟩) ∧ wx.cell? ⟨B6, 0, none⟩ = some (.slice p2 ts.length c2) ∧ Lt B6 wx ∧ SlI wx p1 hs ∧ SlI wx p2 ts ∧ Mv (fun k => W1.heap.size ≤ k) W1 wx
/-- Whether a bucket is sound. -/
def soundL (x : Wd) (k : Int) (h t : List Int) : Bool := match t with
  | [] => decide (h.length < 2)
  | [a] => !h.any (strayB a ((x.ag a.toNat).md k.toNat))
  | _ => false
def soundB (x : Wd) (k : Int) : Bool := soundL x k (thoseL x k (holdB k)) (thoseL x k fun a => takesM (a.md k.toNat))
theorem thoseL_mem {x : Wd} {k : Int} {pr : Ag → Bool} {a : Int} (h : a ∈ thoseL x k pr) : 0 ≤ a ∧ a < 6 ∧ 0 ≤ k ∧ k < 16 := by
  unfold thoseL at h
  split at h
  · rename_i hk
    rw [List.mem_map] at h
    obtain ⟨s, hs, rfl⟩ := h
    have := (List.mem_filter.1 hs).1
    unfold agsL pickN at this
    rw [List.mem_map] at this
    obtain ⟨j, hj, rfl⟩ := this
    have := List.mem_range.1 (List.mem_filter.1 hj).1
    exact ⟨by simp, by simp; omega, hk.1, hk.2⟩
  · cases h
attribute [local go_sem] mdv_list
theorem thoseL_len (x : Wd) (k : Int) (pr : Ag → Bool) : (thoseL x k pr).length ≤ 6 := by
  unfold thoseL
  split
  · rw [List.length_map]
    refine Nat.le_trans (List.length_filter_le _ _) ?_
    unfold agsL pickN
    rw [List.length_map]
    refine Nat.le_trans (List.length_filter_le _ _) ?_
    simp
  · simp
set_option maxRecDepth 100000 in
set_option maxHeartbeats 8000000 in
theorem sound_any (x : Wd) (k : Int) (w : World) (hx : ∀ i, i < 6 → SlC w (x.ag i).p (x.ag i).xs ∧ (x.ag i).xs.length ≤ 1000 ∧ ∀ c ∈ (x.ag i).xs, TuR c.t) :
    Calls Try.prog 25 #[.agg (wdv x), .int .i64 k] w fun e w' => e = .returned (.bool (soundB x k)) ∧ Ext w w' := by
  have H1 := Lib.hid (fun W (hE : Ext w W) => wholders_any x k W (fun i hi => ⟨(hx i hi).1.ext hE, (hx i hi).2⟩))
  clear hx
  go_enter Try.func25, Try.ntmps25
  go_upto_region 1 with (fail)
  obtain ⟨W0, hW⟩ : ∃ W0, w.alloc (.cells (wdv x) 53) = W0 := ⟨_, rfl⟩
  have g0 : Ext w W0 := by rw [← hW]; exact Ext.al (Ext.rf _) _
  have rx0 : rowD W0 w.heap.size = wdv x := by rw [← hW]; simp [go_sem]
  have lx0 : Lt w.heap.size W0 := by rw [← hW]; simp [go_sem]
  rw [hW]
  clear hW
  obtain ⟨hs, hhs⟩ : ∃ hs, thoseL x k (holdB k) = hs := ⟨_, rfl⟩
  obtain ⟨ts, hts⟩ : ∃ ts, thoseL x k (fun a => takesM (a.md k.toNat)) = ts := ⟨_, rfl⟩
  have HHS := Lib.hid hhs
  have HTS := Lib.hid hts
  clear hhs hts
  go_cut [5, 6] (fun a5 a6 wx => SndAt W0 hs ts a5 a6 wx)
  case first =>
    refine wp_region_K (fun k => W0.heap.size ≤ k) (by kernel_rfl) ?_
    obtain ⟨W1, hW1⟩ : ∃ W1, W0.drew = W1 := ⟨_, rfl⟩
    have g1 : Ext W0 W1 := by rw [← hW1]; exact Ext.dr (Ext.rf _)
    rw [hW1]
    clear hW1
    have rx : rowD W1 w.heap.size = wdv x := row_ext' g1 lx0 rx0
    have lx : Lt w.heap.size W1 := Nat.lt_of_lt_of_le lx0 g1.size
    have hnC : ¬ (W0.heap.size ≤ w.heap.size) := by unfold Lt at lx0; omega
    refine withK (N := 9) (R := SchSnd) (E := ((Try.f25.body.bind (findR 1)).getD #[])) (by kernel_rfl) schSnd (by kernel_rfl) fun hS => ?_
    have hT := hS.2.1
    refine takeD (N := 9) (k := 0) (v := .agg (wdv x)) hS.1 hT rfl (by kernel_rfl) (ldwd_K rx lx hnC _ _ _ _ _ _ _ (by kernel_rfl)) fun hU => ?_
    clear hT
    have hT := hU
    clear hU
    refine takeD (N := 9) (k := 1) (v := .int .i64 k) hS.1 hT rfl (by kernel_rfl) (fun _ _ => by kernel_rfl) fun hU => ?_
    clear hT
    have hT := hU
    clear hU
    refine takeD (N := 9) (k := 3) (v := .agg (wdv x)) hS.1 hT rfl (by kernel_rfl) (ldwd_K rx lx hnC _ _ _ _ _ _ _ (by kernel_rfl)) fun hU => ?_
    clear hT
    have hT := hU
    clear hU
    refine takeD (N := 9) (k := 4) (v := .int .i64 k) hS.1 hT rfl (by kernel_rfl) (fun _ _ => by kernel_rfl) fun hU => ?_
    clear hT
    have hT := hU
    clear hU

    refine forkD hS.2.2.1 ?_ ?_
    · refine (callD (R := fun v w' => w'.ownsRow W1.heap.size 3 1 v hs.length (inC hs)) rfl rfl (by kernel_rfl) ((H1.out W1 (g0.tr g1)).mono fun e w' ⟨v, h1, h2, h3⟩ => ⟨v, h1, by rw [← HHS.out]; exact h2, h3⟩) fun v1 W2 g2 o1 => ?_)
      refine forkD hS.2.2.2.1 ?_ ?_
      · refine (callD (R := fun v w' => w'.ownsRow W2.heap.size 3 1 v ts.length (inC ts)) rfl rfl (by kernel_rfl) ((wtakers_any x k W2).mono fun e w' ⟨v, h1, h2, h3⟩ => ⟨v, h1, by rw [← HTS.out]; exact h2, h3⟩) fun v2 W3 g3 o2 => ?_)
        refine soleD hS.2.2.2.2.2.1 (makeD (v := .pointer (some ⟨W3.heap.size, 0, none⟩)) (w1 := W3.alloc (.cells #[.slice none 0 0] 58)) rfl rfl (by kernel_rfl) (Mv.of_ext (Ext.al (Ext.rf _) _)) ?_)
        obtain ⟨p1, n1, c1, rfl⟩ := ownsRow_slice o1
        obtain ⟨p2, n2, c2, rfl⟩ := ownsRow_slice o2
        obtain rfl := ownsRow_num o1
        obtain rfl := ownsRow_num o2
        obtain ⟨B6, hB6⟩ : ∃ B6, W3.heap.size = B6 := ⟨_, rfl⟩
        have hcz : (W3.alloc (.cells #[.slice none 0 0] 58)).cell? ⟨B6, 0, none⟩ = some (.slice none 0 0) := by rw [← hB6]; simp [go_sem]
        have hfz : (W3.alloc (.cells #[.slice none 0 0] 58)).frozen? ⟨B6, 0, none⟩ = false := by rw [← hB6]; simp [go_sem]
        have hmv : Mv (fun k => W0.heap.size ≤ k) W0 (W3.alloc (.cells #[.slice none 0 0] 58)) := Mv.of_ext (((g1.tr g2).tr g3).tr (Ext.al (Ext.rf _) _))
        have hge : W0.heap.size ≤ B6 := by have := g1.size; have := g2.size; have := g3.size; (try simp only [World.size_alloc] at *); omega
        have hBl : B6 < (W3.alloc (.cells #[.slice none 0 0] 58)).heap.size := World.block_lt_of_cell? _ _ hcz
        have hmE : Mv (fun k => k = B6) (W3.alloc (.cells #[.slice none 0 0] 58)) ((W3.alloc (.cells #[.slice none 0 0] 58)).setCell ⟨B6, 0, none⟩ (.slice p2 ts.length c2)) := Mv.st _ (.inl rfl) (Mv.refl _ _)
        have s1 := ownI_mv o1 ((Mv.of_ext (g3.tr (Ext.al (Ext.rf _) _))).trans hmE) (fun k h1 h2 => by have := g1.size; have := g2.size; have := g3.size; (try simp only [World.size_alloc] at *); omega)
        have s2 := ownI_mv o2 ((Mv.of_ext (Ext.al (Ext.rf _) _)).trans hmE) (fun k h1 h2 => by have := g1.size; have := g2.size; have := g3.size; (try simp only [World.size_alloc] at *); omega)
        rw [hB6]
        have F : ∃ WL, (W3.alloc (.cells #[.slice none 0 0] 58)).setCell ⟨B6, 0, none⟩ (.slice p2 ts.length c2) = WL ∧ (WL.cell? ⟨B6, 0, none⟩ = some (.slice p2 ts.length c2) ∧ Lt B6 WL ∧ SlI WL p1 hs ∧ SlI WL p2 ts ∧ Mv (fun k => W0.heap.size ≤ k) W0 WL) := ⟨_, rfl, World.cell?_setCell_same _ _ _ hcz, by rw [Lt_setCell]; exact hBl, s1, s2, hmv.trans (Mv.st _ (.inl hge) (Mv.refl _ _))⟩
        obtain ⟨WL, hWL, F⟩ := F
        refine endD (v := .slice p1 hs.length c1) (w2 := WL) hS.2.2.2.2.2.2.2.2.1 rfl rfl (by kernel_rfl) hS.2.2.2.2.2.2.2.2.2.2.2.1 rfl rfl (by rw [← hWL]; exact storesi_run hcz hfz _ _ _ _ _ _ _ _ (by kernel_rfl) (by kernel_rfl)) (by rw [← hWL]; exact Mv.st _ (.inl hge) (Mv.refl _ _)) hS.2.2.2.2.2.2.2.2.2.2.2.2.2.2.1 ?_
        clear hS hT
        go_simp
        go_step
        go_meet
        exact ⟨_, _, _, _, _, rfl, rfl, F⟩
      · refine (makeD (v := .pointer (some ⟨W2.heap.size, 0, none⟩)) (w1 := W2.alloc (.cells #[.slice none 0 0] 58)) rfl rfl (by kernel_rfl) (Mv.of_ext (Ext.al (Ext.rf _) _)) ?_)
        refine soleD hS.2.2.2.2.2.2.1 (callD (R := fun v w' => w'.ownsRow (W2.alloc (.cells #[.slice none 0 0] 58)).heap.size 3 1 v ts.length (inC ts)) rfl rfl (by kernel_rfl) ((wtakers_any x k (W2.alloc (.cells #[.slice none 0 0] 58))).mono fun e w' ⟨v, h1, h2, h3⟩ => ⟨v, h1, by rw [← HTS.out]; exact h2, h3⟩) fun v2 W3 g3 o2 => ?_)
        obtain ⟨p1, n1, c1, rfl⟩ := ownsRow_slice o1
        obtain ⟨p2, n2, c2, rfl⟩ := ownsRow_slice o2
        obtain rfl := ownsRow_num o1
        obtain rfl := ownsRow_num o2
        obtain ⟨B6, hB6⟩ : ∃ B6, W2.heap.size = B6 := ⟨_, rfl⟩
        have hcz : W3.cell? ⟨B6, 0, none⟩ = some (.slice none 0 0) := by rw [← hB6]; exact (g3.cell (p := ⟨W2.heap.size, 0, none⟩) (by simp)).trans (by simp [go_sem])
        have hfz : W3.frozen? ⟨B6, 0, none⟩ = false := by rw [← hB6]; exact (g3.frozen (p := ⟨W2.heap.size, 0, none⟩) (by simp)).trans (by simp [go_sem])
        have hmv : Mv (fun k => W0.heap.size ≤ k) W0 W3 := Mv.of_ext ((g1.tr g2).tr ((Ext.al (Ext.rf _) _).tr g3))
        have hge : W0.heap.size ≤ B6 := by have := g1.size; have := g2.size; have := g3.size; (try simp only [World.size_alloc] at *); omega
        have hBl : B6 < W3.heap.size := World.block_lt_of_cell? _ _ hcz
        have hmE : Mv (fun k => k = B6) W3 (W3.setCell ⟨B6, 0, none⟩ (.slice p2 ts.length c2)) := Mv.st _ (.inl rfl) (Mv.refl _ _)
        have s1 := ownI_mv o1 ((Mv.of_ext ((Ext.al (Ext.rf _) _).tr g3)).trans hmE) (fun k h1 h2 => by have := g1.size; have := g2.size; have := g3.size; (try simp only [World.size_alloc] at *); omega)
        have s2 := ownI_mv o2 ((Mv.of_ext (Ext.rf _)).trans hmE) (fun k h1 h2 => by have := g1.size; have := g2.size; have := g3.size; (try simp only [World.size_alloc] at *); omega)
        rw [hB6]
        have F : ∃ WL, W3.setCell ⟨B6, 0, none⟩ (.slice p2 ts.length c2) = WL ∧ (WL.cell? ⟨B6, 0, none⟩ = some (.slice p2 ts.length c2) ∧ Lt B6 WL ∧ SlI WL p1 hs ∧ SlI WL p2 ts ∧ Mv (fun k => W0.heap.size ≤ k) W0 WL) := ⟨_, rfl, World.cell?_setCell_same _ _ _ hcz, by rw [Lt_setCell]; exact hBl, s1, s2, hmv.trans (Mv.st _ (.inl hge) (Mv.refl _ _))⟩
        obtain ⟨WL, hWL, F⟩ := F
        refine endD (v := .slice p1 hs.length c1) (w2 := WL) hS.2.2.2.2.2.2.2.2.2.1 rfl rfl (by kernel_rfl) hS.2.2.2.2.2.2.2.2.2.2.2.2.1 rfl rfl (by rw [← hWL]; exact storesi_run hcz hfz _ _ _ _ _ _ _ _ (by kernel_rfl) (by kernel_rfl)) (by rw [← hWL]; exact Mv.st _ (.inl hge) (Mv.refl _ _)) hS.2.2.2.2.2.2.2.2.2.2.2.2.2.2.2.1 ?_
        clear hS hT
        go_simp
        go_step
        go_meet
        exact ⟨_, _, _, _, _, rfl, rfl, F⟩
    · refine (makeD (v := .pointer (some ⟨W1.heap.size, 0, none⟩)) (w1 := W1.alloc (.cells #[.slice none 0 0] 58)) rfl rfl (by kernel_rfl) (Mv.of_ext (Ext.al (Ext.rf _) _)) ?_)
      refine soleD hS.2.2.2.2.1 (callD (R := fun v w' => w'.ownsRow (W1.alloc (.cells #[.slice none 0 0] 58)).heap.size 3 1 v hs.length (inC hs)) rfl rfl (by kernel_rfl) ((H1.out (W1.alloc (.cells #[.slice none 0 0] 58)) ((g0.tr g1).tr (Ext.al (Ext.rf _) _))).mono fun e w' ⟨v, h1, h2, h3⟩ => ⟨v, h1, by rw [← HHS.out]; exact h2, h3⟩) fun v1 W2 g2 o1 => ?_)
      refine soleD hS.2.2.2.2.2.2.2.1 (callD (R := fun v w' => w'.ownsRow W2.heap.size 3 1 v ts.length (inC ts)) rfl rfl (by kernel_rfl) ((wtakers_any x k W2).mono fun e w' ⟨v, h1, h2, h3⟩ => ⟨v, h1, by rw [← HTS.out]; exact h2, h3⟩) fun v2 W3 g3 o2 => ?_)
      obtain ⟨p1, n1, c1, rfl⟩ := ownsRow_slice o1
      obtain ⟨p2, n2, c2, rfl⟩ := ownsRow_slice o2
      obtain rfl := ownsRow_num o1
      obtain rfl := ownsRow_num o2
      obtain ⟨B6, hB6⟩ : ∃ B6, W1.heap.size = B6 := ⟨_, rfl⟩
      have hcz : W3.cell? ⟨B6, 0, none⟩ = some (.slice none 0 0) := by rw [← hB6]; exact ((g2.tr g3).cell (p := ⟨W1.heap.size, 0, none⟩) (by simp)).trans (by simp [go_sem])
      have hfz : W3.frozen? ⟨B6, 0, none⟩ = false := by rw [← hB6]; exact ((g2.tr g3).frozen (p := ⟨W1.heap.size, 0, none⟩) (by simp)).trans (by simp [go_sem])
      have hmv : Mv (fun k => W0.heap.size ≤ k) W0 W3 := Mv.of_ext (g1.tr ((Ext.al (Ext.rf _) _).tr (g2.tr g3)))
      have hge : W0.heap.size ≤ B6 := by have := g1.size; have := g2.size; have := g3.size; (try simp only [World.size_alloc] at *); omega
      have hBl : B6 < W3.heap.size := World.block_lt_of_cell? _ _ hcz
      have hmE : Mv (fun k => k = B6) W3 (W3.setCell ⟨B6, 0, none⟩ (.slice p2 ts.length c2)) := Mv.st _ (.inl rfl) (Mv.refl _ _)
      have s1 := ownI_mv o1 ((Mv.of_ext g3).trans hmE) (fun k h1 h2 => by have := g1.size; have := g2.size; have := g3.size; (try simp only [World.size_alloc] at *); omega)
      have s2 := ownI_mv o2 ((Mv.of_ext (Ext.rf _)).trans hmE) (fun k h1 h2 => by have := g1.size; have := g2.size; have := g3.size; (try simp only [World.size_alloc] at *); omega)
      rw [hB6]
      have F : ∃ WL, W3.setCell ⟨B6, 0, none⟩ (.slice p2 ts.length c2) = WL ∧ (WL.cell? ⟨B6, 0, none⟩ = some (.slice p2 ts.length c2) ∧ Lt B6 WL ∧ SlI WL p1 hs ∧ SlI WL p2 ts ∧ Mv (fun k => W0.heap.size ≤ k) W0 WL) := ⟨_, rfl, World.cell?_setCell_same _ _ _ hcz, by rw [Lt_setCell]; exact hBl, s1, s2, hmv.trans (Mv.st _ (.inl hge) (Mv.refl _ _))⟩
      obtain ⟨WL, hWL, F⟩ := F
      refine endD (v := .slice p1 hs.length c1) (w2 := WL) hS.2.2.2.2.2.2.2.2.2.2.1 rfl rfl (by kernel_rfl) hS.2.2.2.2.2.2.2.2.2.2.2.2.2.1 rfl rfl (by rw [← hWL]; exact storesi_run hcz hfz _ _ _ _ _ _ _ _ (by kernel_rfl) (by kernel_rfl)) (by rw [← hWL]; exact Mv.st _ (.inl hge) (Mv.refl _ _)) hS.2.2.2.2.2.2.2.2.2.2.2.2.2.2.2.2 ?_
      clear hS hT
      go_simp
      go_step
      go_meet
      exact ⟨_, _, _, _, _, rfl, rfl, F⟩
  case rest =>
    obtain ⟨⟨p1, c1, p2, c2, B6, rfl, rfl, hc6, hl6, h1, h2, hM⟩⟩ := hcut
    have hB : soundB x k = soundL x k hs ts := by unfold soundB; rw [HHS.out, HTS.out]
    have hlh : hs.length ≤ 6 := by rw [← HHS.out]; exact thoseL_len x k _
    have hmem : ∀ a, a ∈ ts → 0 ≤ a ∧ a < 6 ∧ 0 ≤ k ∧ k < 16 := fun a ha => by rw [← HTS.out] at ha; exact thoseL_mem ha
    have hlt : ts.length ≤ 6 := by rw [← HTS.out]; exact thoseL_len x k _
    have hE : Ext w wc := Mv.ext_of g0 hM (fun k hk => Nat.le_trans g0.size hk)
    have lx : Lt w.heap.size wc := Nat.lt_of_lt_of_le lx0 hM.size
    have rx : rowD wc w.heap.size = wdv x := by rw [rowD_same (hM.same _ lx0 (by unfold Lt at lx0; omega))]; exact rx0
    clear H1 HHS HTS rx0 lx0 hM g0
    rcases ts with _ | ⟨a, _ | ⟨b, l⟩⟩
    · have hc6' : wc.cell? ⟨B6, 0, none⟩ = some (.slice p2 0 c2) := hc6
      clear hc6
      go_wp2
      go_ret
      exact ⟨ret_bool (by rw [hB]; unfold soundL; simp; omega), hE⟩
    · have hc6' : wc.cell? ⟨B6, 0, none⟩ = some (.slice p2 1 c2) := hc6
      clear hc6
      obtain ⟨b, off, rfl, lb, h0⟩ := h2 0 (by simp)
      have h0' : wc.cell? ⟨b, off, none⟩ = some (.int .i64 a) := h0
      clear h0 h2
      obtain ⟨ha0, ha1, hk0, hk1⟩ := hmem a (by simp)
      obtain ⟨i, rfl⟩ := Int.eq_ofNat_of_zero_le ha0
      obtain ⟨q, rfl⟩ := Int.eq_ofNat_of_zero_le hk0
      have hi : i < 6 := by omega
      have hq : q < 16 := by omega
      have hF : 391 + i * 67 + 2 + q * 4 + 4 ≤ 814 := by omega
      clear hmem
      go_upto_region 7 with (fail)
      obtain ⟨wm, hwm⟩ : ∃ wm, wc.alloc (.cells #[.int .u8 ((x.ag i).md q).kind, .int .i64 ((x.ag i).md q).peer, .int .i64 ((x.ag i).md q).gen, .bool ((x.ag i).md q).ret] 43) = wm := ⟨_, rfl⟩
      have hEm : Ext wc wm := by rw [← hwm]; exact Ext.al (Ext.rf _) _
      have hr3 : rowD wm wc.heap.size = mdv ((x.ag i).md q) := by rw [← hwm, rowD_new]; rfl
      have hl3 : Lt wc.heap.size wm := by rw [← hwm]; simp [go_sem]
      rw [hwm]
      clear hwm
      have k1 := (hEm.cell (p := ⟨B6, 0, none⟩) hl6).trans hc6'
      have k2 := (hEm.cell (p := ⟨b, off, none⟩) lb).trans h0'
      have k3 : Lt B6 wm := Nat.lt_of_lt_of_le hl6 hEm.size
      have k4 : Lt b wm := Nat.lt_of_lt_of_le lb hEm.size
      have HG := Lib.hid (show ∀ y W, y ∈ hs → Ext wm W → Calls Try.prog 44 (#[.int .i64 y] ++ #[.pointer (some ⟨B6, 0, none⟩), .pointer (some ⟨wc.heap.size, 0, none⟩)]) W fun e w' => e = .returned (.bool (strayB i ((x.ag i).md q) y)) ∧ Ext W w' from fun y W _ hW => sound1_any y i _ B6 wc.heap.size b off c2 1 W (by omega) ((hW.cell (p := ⟨B6, 0, none⟩) k3).trans k1) (Nat.lt_of_lt_of_le k3 hW.size) ((hW.cell (p := ⟨b, off, none⟩) k4).trans k2) (Nat.lt_of_lt_of_le k4 hW.size) (row_ext' hW hl3 hr3) (Nat.lt_of_lt_of_le hl3 hW.size))
      have HS := Lib.hid (h1.ext hEm)
      have EQ := Lib.hid hE
      clear h1 hc6' h0' hl6 lb hE lx rx hF k1 k2 k4 hr3
      go_wp2_with (go_at_call 43; go_loud (with_reducible refine (containsFunc_I 44 _ enters_sound1 (strayB i ((x.ag i).md q)) p1 hs c1 _ HS.out (by omega) HG.out).mono ?_); rintro e w' ⟨rfl, hb⟩)
      go_ret
      exact ⟨ret_bool (by rw [hB]; unfold soundL; simp), EQ.out.tr (hEm.tr hb)⟩
    · obtain ⟨n, hn⟩ : ∃ n, (a :: b :: l).length = n := ⟨_, rfl⟩
      have hc6' : wc.cell? ⟨B6, 0, none⟩ = some (.slice p2 n c2) := by rw [← hn]; exact hc6
      have n2 : 2 ≤ n := by rw [← hn]; simp
      have e0 : ((n : Int) == 0) = false := by simp; omega
      have e1 : ((n : Int) == 1) = false := by simp; omega
      clear hc6
      go_wp2
      go_ret
      exact ⟨ret_bool (by rw [hB]; unfold soundL; simp), hE⟩

end Go.Proofs.Ytedamnocolfmlaa

/- Entries and tables: which may be. -/
namespace Go.Proofs.Ytedamnocolfmlaa
open Go.RowKit

theorem env_lit (e : En) : env e = #[.int .i64 e.cur, .int .i64 e.prev, .int .i64 e.gen, .int .i64 e.tick] := by unfold env; rfl
abbrev en4 (a b c d : Int) : Value := .agg #[.int .i64 a, .int .i64 b, .int .i64 c, .int .i64 d]
@[go_sem ↓ high] theorem eq_en4 (a b c d a' b' c' d' : Int) (w : World) :
    (binOp .eql 30 (en4 a b c d) (en4 a' b' c' d')).run Try.prog w = .ok (.bool (a == a' && b == b' && c == c' && d == d')) w := by
  go_simp
  by_cases h1 : a = a' <;> by_cases h2 : b = b' <;> by_cases h3 : c = c' <;> by_cases h4 : d = d' <;> simp [*]
set_option maxHeartbeats 400000 in
theorem ewithin_any (n l h : Int) (w : World) :
    Calls Try.prog 102 #[.int .i64 n, .int .i64 l, .int .i64 h] w fun e w' => e = .returned (.bool (decide (l ≤ n) && decide (n < h))) ∧ w = w' := by
  go_enter Try.func102, Try.ntmps102
  go_wp2
  all_goals (go_ret; exact ⟨ret_bool (by simp_all <;> omega), rfl⟩)
set_option maxHeartbeats 400000 in
theorem enone_any (w : World) :
    Calls Try.prog 103 #[] w fun e w' => e = .returned (en4 (-1) (-1) 0 0) ∧ Ext w w' := by
  go_enter Try.func103, Try.ntmps103
  go_wp2
  refine bodyPost_ret (v := en4 (-1) (-1) 0 0) (by simp [results, Try.results103, go_sem, *]) rfl ?_
  exact ⟨rfl, by (repeat (first | with_reducible exact Ext.rf _ | with_reducible assumption | with_reducible refine Ext.al ?_ _ | with_reducible refine Ext.dr ?_ | with_reducible refine Ext.dn ?_ _ | ((with_reducible refine Ext.st _ ?_ ?_); focus (first | omega | (simp; omega) | simp)) | with_reducible refine Ext.tr ?_ (by assumption) | with_reducible refine Ext.tr ?_ (up_ext (by assumption)) | with_reducible refine Ext.of (by assumption) ?_))⟩
set_option maxHeartbeats 400000 in
theorem rnone_any (w : World) :
    Calls Try.prog 64 #[] w fun e w' => e = .returned (en4 (-1) (-1) 0 0) ∧ Ext w w' := by
  go_enter Try.func64, Try.ntmps64
  go_wp2
  refine bodyPost_ret (v := en4 (-1) (-1) 0 0) (by simp [results, Try.results64, go_sem, *]) rfl ?_
  exact ⟨rfl, by (repeat (first | with_reducible exact Ext.rf _ | with_reducible assumption | with_reducible refine Ext.al ?_ _ | with_reducible refine Ext.dr ?_ | with_reducible refine Ext.dn ?_ _ | ((with_reducible refine Ext.st _ ?_ ?_); focus (first | omega | (simp; omega) | simp)) | with_reducible refine Ext.tr ?_ (by assumption) | with_reducible refine Ext.tr ?_ (up_ext (by assumption)) | with_reducible refine Ext.of (by assumption) ?_))⟩
/-- An entry that may be. -/
def enR (e : En) : Bool := decide (0 ≤ e.gen) && decide (e.gen < 2147483648) && decide (0 ≤ e.tick) && decide (e.tick < 1099511627777) && decide (-1 ≤ e.cur) && decide (e.cur < 6) && decide (-1 ≤ e.prev) && decide (e.prev < 6) && (if e.cur = -1 then e.prev == -1 else e.prev != e.cur)
set_option maxRecDepth 20000 in
set_option maxHeartbeats 2000000 in
theorem eright_any (x : En) (w : World) :
    Calls Try.prog 96 #[.agg (env x)] w fun e w' => e = .returned (.bool (enR x)) ∧ Ext w w' := by
  rw [env_lit]
  obtain ⟨a, b, c, d⟩ := x
  go_enter Try.func96, Try.ntmps96
  go_wp2
  refine wp_scope_fwd 0 rfl ?_
  go_wp2_with (first | (go_at_call 102; (with_reducible refine (ewithin_any _ _ _ _).mono ?_); rintro e w' ⟨rfl, rfl⟩) | (go_at_call 103; (with_reducible refine (enone_any _).mono ?_); rintro e w' ⟨rfl, hb⟩; obtain ⟨hc, hf, hl, hz, -⟩ := kept hb; (try simp at hz)))
  all_goals (try (go_region <;> go_wp2))
  all_goals (try (with_reducible refine wp_label ?_; go_wp2))
  all_goals (try (go_step3; refine ⟨rfl, ?_⟩; go_wp2; rw [Exit.noGoto_ret]))
  all_goals (try simp only [Exit.jump])
  all_goals (try go_ret)
  all_goals refine ⟨ret_bool ?_, ?_⟩
  all_goals first | (guard_target =~ Below _ _ _; (repeat (first | with_reducible exact Ext.rf _ | with_reducible assumption | with_reducible refine Ext.al ?_ _ | with_reducible refine Ext.dr ?_ | with_reducible refine Ext.dn ?_ _ | ((with_reducible refine Ext.st _ ?_ ?_); focus (first | omega | (simp; omega) | simp)) | with_reducible refine Ext.tr ?_ (by assumption) | with_reducible refine Ext.tr ?_ (up_ext (by assumption)) | with_reducible refine Ext.of (by assumption) ?_)); done) | (simp_all [enR]; done) | grind [enR]

theorem eright_lit (x : En) (w : World) :
    Calls Try.prog 96 #[en4 x.cur x.prev x.gen x.tick] w fun e w' => e = .returned (.bool (enR x)) ∧ Ext w w' := by
  have h := eright_any x w
  rw [env_lit] at h
  exact h
theorem env_list (e : En) : (env e).toList = [.int .i64 e.cur, .int .i64 e.prev, .int .i64 e.gen, .int .i64 e.tick] := by rw [env_lit]
attribute [local go_sem] env_list
theorem isAgg_en (w : World) : (isAgg 30).run Try.prog w = .ok true w := by kernel_rfl
theorem size_enT (w : World) : (sizeOf 30).run Try.prog w = .ok 4 w := by kernel_rfl
theorem cut_enL (l : Nat → En) (k : Nat) (h : k < 16) : (enL l).extract (k * 4) (k * 4 + 4) = env (l k) := by
  show cutD (enL l) (k * 4) 4 = env (l k)
  unfold enL env
  rw [cut_rowv _ _ _ _ (by omega)]
  refine rowv_congr _ _ _ fun j hj => ?_
  have h1 : (k * 4 + j) / 4 = k := by omega
  have h2 : (k * 4 + j) % 4 = j := by omega
  rw [h1, h2]
@[go_sem ↓ high] theorem index_rows (l : Nat → En) (k : Nat) (w : World) (h1 : (k : Int) < 16) : (Instr.index 31 (.agg (enL l)) (.int .i64 k)).run Try.prog w = .ok (.agg (env (l k))) w := by
  have hu : (underlying 31).run Try.prog w = .ok (.array 16 30) w := run_underlying Try.underlying31 w
  have h2 : ¬ (16 : Int) ≤ (k : Int) := by omega
  have h3 : k < 16 := by omega
  have hx := cut_enL l k h3
  simp [Instr.index, asIntOf, Sem.run_bind, hu, h2, h3, part, isAgg_en, size_enT, hx]
@[go_sem] theorem get_tb0 (t : Tb) : (tbv t)[0]? = some (.int .i64 t.ver) := by unfold tbv; rw [get_rowv, if_pos (by omega)]; rfl
/-- A table that may be. -/
def tbR (t : Tb) : Bool := decide (0 ≤ t.ver) && decide (t.ver ≤ 1099511627776) && (List.range 16).all fun i => enR (t.rows i)
theorem tbR_false (t : Tb) (k : Nat) (h : k < 16) (he : enR (t.rows k) = false) : tbR t = false := by
  unfold tbR
  rw [Bool.and_eq_false_iff]
  right
  exact List.all_eq_false.2 ⟨k, List.mem_range.2 h, by simp [he]⟩
set_option maxRecDepth 100000 in
set_option maxHeartbeats 4000000 in
theorem tright_any (x : Tb) (w : World) :
    Calls Try.prog 88 #[.agg (tbv x)] w fun e w' => e = .returned (.bool (tbR x)) ∧ Ext w w' := by
  go_enter Try.func88, Try.ntmps88
  go_wp2
  refine wp_scope_fwd 0 rfl ?_
  cases h1 : decide (0 ≤ x.ver) <;> cases h2 : decide (x.ver ≤ 1099511627776)
  · have h1' := of_decide_eq_false h1
    have hn : tbR x = false := by unfold tbR; rw [h1]; rfl
    go_wp2
    go_step3
    refine ⟨rfl, ?_⟩
    go_wp2
    rw [Exit.noGoto_ret]
    go_ret
    exact ⟨ret_bool hn.symm, by (repeat (first | with_reducible exact Ext.rf _ | with_reducible assumption | with_reducible refine Ext.al ?_ _ | with_reducible refine Ext.dr ?_ | with_reducible refine Ext.dn ?_ _ | ((with_reducible refine Ext.st _ ?_ ?_); focus (first | omega | (simp; omega) | simp)) | with_reducible refine Ext.tr ?_ (by assumption) | with_reducible refine Ext.tr ?_ (up_ext (by assumption)) | with_reducible refine Ext.of (by assumption) ?_))⟩
  · have h1' := of_decide_eq_false h1
    have hn : tbR x = false := by unfold tbR; rw [h1]; rfl
    go_wp2
    go_step3
    refine ⟨rfl, ?_⟩
    go_wp2
    rw [Exit.noGoto_ret]
    go_ret
    exact ⟨ret_bool hn.symm, by (repeat (first | with_reducible exact Ext.rf _ | with_reducible assumption | with_reducible refine Ext.al ?_ _ | with_reducible refine Ext.dr ?_ | with_reducible refine Ext.dn ?_ _ | ((with_reducible refine Ext.st _ ?_ ?_); focus (first | omega | (simp; omega) | simp)) | with_reducible refine Ext.tr ?_ (by assumption) | with_reducible refine Ext.tr ?_ (up_ext (by assumption)) | with_reducible refine Ext.of (by assumption) ?_))⟩
  · have h1' := of_decide_eq_true h1
    have h2' := of_decide_eq_false h2
    have hn : tbR x = false := by unfold tbR; rw [h1, h2]; rfl
    go_wp2
    go_step3
    refine ⟨rfl, ?_⟩
    go_wp2
    rw [Exit.noGoto_ret]
    go_ret
    exact ⟨ret_bool hn.symm, by (repeat (first | with_reducible exact Ext.rf _ | with_reducible assumption | with_reducible refine Ext.al ?_ _ | with_reducible refine Ext.dr ?_ | with_reducible refine Ext.dn ?_ _ | ((with_reducible refine Ext.st _ ?_ ?_); focus (first | omega | (simp; omega) | simp)) | with_reducible refine Ext.tr ?_ (by assumption) | with_reducible refine Ext.tr ?_ (up_ext (by assumption)) | with_reducible refine Ext.of (by assumption) ?_))⟩
  · have h1' := of_decide_eq_true h1
    have h2' := of_decide_eq_true h2
    go_wp2
    go_loopw [15] (fun a wr => ∃ k : Nat, k ≤ 16 ∧ a = .int .i64 k ∧ (∀ j, j < k → enR (x.rows j) = true) ∧ Ext w wr) (fun a _ => 16 - (intOf a).toNat)
    case atStart => exact ⟨0, Nat.zero_le _, rfl, fun j hj => by omega, by (repeat (first | with_reducible exact Ext.rf _ | with_reducible assumption | with_reducible refine Ext.al ?_ _ | with_reducible refine Ext.dr ?_ | with_reducible refine Ext.dn ?_ _ | ((with_reducible refine Ext.st _ ?_ ?_); focus (first | omega | (simp; omega) | simp)) | with_reducible refine Ext.tr ?_ (by assumption) | with_reducible refine Ext.tr ?_ (up_ext (by assumption)) | with_reducible refine Ext.of (by assumption) ?_))⟩
    case round =>
      obtain ⟨k, hk, rfl, ha, hE⟩ := hrel
      by_cases hlt : k < 16
      · have hlt' : (k : Int) < 16 := by omega
        cases he : enR (x.rows k)
        · go_wp2_with (go_at_call 96; (with_reducible refine (eright_lit (x.rows k) _).mono ?_); rintro e w' ⟨rfl, hb⟩; obtain ⟨hc, hf, hl, hz, -⟩ := kept hb; (try simp at hz))
          go_step3
          simp only [Exit.inBlock, Exit.then, Exit.jump]
          refine ⟨rfl, ?_⟩
          go_wp2
          rw [Exit.noGoto_ret]
          go_ret
          exact ⟨ret_bool (tbR_false x k hlt he).symm, by (repeat (first | with_reducible exact Ext.rf _ | with_reducible assumption | with_reducible refine Ext.al ?_ _ | with_reducible refine Ext.dr ?_ | with_reducible refine Ext.dn ?_ _ | ((with_reducible refine Ext.st _ ?_ ?_); focus (first | omega | (simp; omega) | simp)) | with_reducible refine Ext.tr ?_ (by assumption) | with_reducible refine Ext.tr ?_ (up_ext (by assumption)) | with_reducible refine Ext.of (by assumption) ?_))⟩
        · go_wp2_with (go_at_call 96; (with_reducible refine (eright_lit (x.rows k) _).mono ?_); rintro e w' ⟨rfl, hb⟩; obtain ⟨hc, hf, hl, hz, -⟩ := kept hb; (try simp at hz))
          go_roundw
          case rel => exact ⟨k + 1, by omega, by go_num, fun j hj => by rcases Nat.lt_or_ge j k with h | h; exact ha j h; (obtain rfl : j = k := by omega); exact he, by (repeat (first | with_reducible exact Ext.rf _ | with_reducible assumption | with_reducible refine Ext.al ?_ _ | with_reducible refine Ext.dr ?_ | with_reducible refine Ext.dn ?_ _ | ((with_reducible refine Ext.st _ ?_ ?_); focus (first | omega | (simp; omega) | simp)) | with_reducible refine Ext.tr ?_ (by assumption) | with_reducible refine Ext.tr ?_ (up_ext (by assumption)) | with_reducible refine Ext.of (by assumption) ?_))⟩
          case measure => simp [intOf]; omega
      · obtain rfl : k = 16 := by omega
        have hn : tbR x = true := by unfold tbR; rw [h1, h2]; simpa using ha
        go_wp2
        simp only [Exit.jump]
        go_ret
        exact ⟨ret_bool hn.symm, by (repeat (first | with_reducible exact Ext.rf _ | with_reducible assumption | with_reducible refine Ext.al ?_ _ | with_reducible refine Ext.dr ?_ | with_reducible refine Ext.dn ?_ _ | ((with_reducible refine Ext.st _ ?_ ?_); focus (first | omega | (simp; omega) | simp)) | with_reducible refine Ext.tr ?_ (by assumption) | with_reducible refine Ext.tr ?_ (up_ext (by assumption)) | with_reducible refine Ext.of (by assumption) ?_))⟩

end Go.Proofs.Ytedamnocolfmlaa

/- Small functions of the references: modes, agents, worlds. -/
namespace Go.Proofs.Ytedamnocolfmlaa
open Go.RowKit
def genR (n : Int) : Bool := decide (1 ≤ n) && decide (n < 2147483648)
def nodR (n : Int) : Bool := decide (0 ≤ n) && decide (n < 6)

set_option maxHeartbeats 1000000 in
theorem rgen_any (n : Int) (w : World) :
    Calls Try.prog 83 #[.int .i64 n] w fun e w' => e = .returned (.bool (genR n)) ∧ w = w' := by
  go_enter Try.func83, Try.ntmps83
  go_wp2_with (fail)
  all_goals (go_ret; exact ⟨ret_bool (by simp_all [genR] <;> omega), rfl⟩)

set_option maxHeartbeats 1000000 in
theorem rnod_any (n : Int) (w : World) :
    Calls Try.prog 84 #[.int .i64 n] w fun e w' => e = .returned (.bool (nodR n)) ∧ w = w' := by
  go_enter Try.func84, Try.ntmps84
  go_wp2_with (fail)
  all_goals (go_ret; exact ⟨ret_bool (by simp_all [nodR] <;> omega), rfl⟩)

set_option maxHeartbeats 1000000 in
theorem rtick27_any (n : Int) (w : World) :
    Calls Try.prog 28 #[.int .i64 n] w fun e w' => e = .returned (.bool (tickB n)) ∧ w = w' := by
  go_enter Try.func28, Try.ntmps28
  go_wp2_with (fail)
  all_goals (go_ret; exact ⟨ret_bool (by simp_all [tickB] <;> omega), rfl⟩)

def inS (s n : Int) : Bool := decide (0 ≤ n) && decide (n < 8) && (s.toNat).testBit n.toNat
def undM (m : Mo) : Bool := m.ph != 1 && m.ph != 0
theorem undM_def : True := trivial

set_option maxHeartbeats 1000000 in
theorem under_any (m : Mo) (w : World) :
    Calls Try.prog 77 #[m.v] w fun e w' => e = .returned (.bool (undM m)) ∧ Ext w w' := by
  go_enter Try.func77, Try.ntmps77
  go_wp2
  all_goals
    go_ret
    exact ⟨ret_bool (by simp_all [undM]), by (repeat (first | with_reducible exact Ext.rf _ | with_reducible assumption | with_reducible refine Ext.al ?_ _ | with_reducible refine Ext.dr ?_ | with_reducible refine Ext.dn ?_ _ | ((with_reducible refine Ext.st _ ?_ ?_); focus (first | omega | (simp; omega) | simp)) | with_reducible refine Ext.tr ?_ (by assumption) | with_reducible refine Ext.tr ?_ (up_ext (by assumption)) | with_reducible refine Ext.of (by assumption) ?_))⟩
abbrev md4 (a b c : Int) (d : Bool) : Value := .agg #[.int .u8 a, .int .i64 b, .int .i64 c, .bool d]
@[go_sem ↓ high] theorem eq_md4 (a b c : Int) (d : Bool) (a' b' c' : Int) (d' : Bool) (w : World) :
    (binOp .eql 43 (md4 a b c d) (md4 a' b' c' d')).run Try.prog w = .ok (.bool (a == a' && b == b' && c == c' && d == d')) w := by
  go_simp
  by_cases h1 : a = a' <;> by_cases h2 : b = b' <;> by_cases h3 : c = c' <;> cases d <;> cases d' <;> simp [*]
/-- A mode that may be. -/
def mdR (m : Md) : Bool := if m.kind = 0 then m.peer == -1 && m.gen == 0 && !m.ret else if m.kind = 1 then m.peer == -1 && genR m.gen && !m.ret else if m.kind = 2 then nodR m.peer && genR m.gen && !m.ret else if m.kind = 3 then nodR m.peer && genR m.gen else false
theorem mdv_lit (m : Md) : mdv m = #[.int .u8 m.kind, .int .i64 m.peer, .int .i64 m.gen, .bool m.ret] := by unfold mdv; rfl
set_option maxRecDepth 20000 in
set_option maxHeartbeats 2000000 in
theorem md16_any (m : Md) (w : World) :
    Calls Try.prog 66 #[.agg (mdv m)] w fun e w' => e = .returned (.bool (mdR m)) ∧ Ext w w' := by
  rw [mdv_lit]
  obtain ⟨a, b, c, d⟩ := m
  go_enter Try.func66, Try.ntmps66
  go_wp2_with (first | (go_at_call 83; (with_reducible refine (rgen_any _ _).mono ?_); rintro e w' ⟨rfl, rfl⟩) | (go_at_call 84; (with_reducible refine (rnod_any _ _).mono ?_); rintro e w' ⟨rfl, rfl⟩))
  all_goals go_ret
  all_goals refine ⟨ret_bool ?_, ?_⟩
  all_goals first | (guard_target =~ Below _ _ _; (repeat (first | with_reducible exact Ext.rf _ | with_reducible assumption | with_reducible refine Ext.al ?_ _ | with_reducible refine Ext.dr ?_ | with_reducible refine Ext.dn ?_ _ | ((with_reducible refine Ext.st _ ?_ ?_); focus (first | omega | (simp; omega) | simp)) | with_reducible refine Ext.tr ?_ (by assumption) | with_reducible refine Ext.tr ?_ (up_ext (by assumption)) | with_reducible refine Ext.of (by assumption) ?_)); done) | (simp_all [mdR]; done) | grind [mdR]

set_option maxHeartbeats 400000 in
theorem mnew_any (w : World) :
    Calls Try.prog 47 #[] w fun e w' => e = .returned (md4 0 (-1) 0 false) ∧ Ext w w' := by
  go_enter Try.func47, Try.ntmps47
  go_wp2
  refine bodyPost_ret (v := md4 0 (-1) 0 false) (by simp [results, Try.results47, go_sem, *]) rfl ?_
  exact ⟨rfl, by (repeat (first | with_reducible exact Ext.rf _ | with_reducible assumption | with_reducible refine Ext.al ?_ _ | with_reducible refine Ext.dr ?_ | with_reducible refine Ext.dn ?_ _ | ((with_reducible refine Ext.st _ ?_ ?_); focus (first | omega | (simp; omega) | simp)) | with_reducible refine Ext.tr ?_ (by assumption) | with_reducible refine Ext.tr ?_ (up_ext (by assumption)) | with_reducible refine Ext.of (by assumption) ?_))⟩

set_option maxHeartbeats 400000 in
theorem mvnew_any (w : World) :
    Calls Try.prog 46 #[] w fun e w' => e = .returned (mo 0 (-1) (-1) 0 0 0) ∧ Ext w w' := by
  go_enter Try.func46, Try.ntmps46
  go_wp2
  refine bodyPost_ret (v := mo 0 (-1) (-1) 0 0 0) (by simp [results, Try.results46, go_sem, *]) rfl ?_
  exact ⟨rfl, by (repeat (first | with_reducible exact Ext.rf _ | with_reducible assumption | with_reducible refine Ext.al ?_ _ | with_reducible refine Ext.dr ?_ | with_reducible refine Ext.dn ?_ _ | ((with_reducible refine Ext.st _ ?_ ?_); focus (first | omega | (simp; omega) | simp)) | with_reducible refine Ext.tr ?_ (by assumption) | with_reducible refine Ext.tr ?_ (up_ext (by assumption)) | with_reducible refine Ext.of (by assumption) ?_))⟩

@[go_sem] theorem get_st_pl (s : St) : (stv s)[190]? = some (.slice s.p s.pl.length s.c) := by unfold stv; rw [get_rowv, if_pos (by omega)]; rfl
set_option maxRecDepth 20000 in
set_option maxHeartbeats 1000000 in
theorem great24_any (s : St) (w : World) :
    Calls Try.prog 12 #[.agg (stv s)] w fun e w' => e = .returned (.bool (decide (40 < s.pl.length))) ∧ Ext w w' := by
  go_enter Try.func12, Try.ntmps12
  go_wp2
  go_ret
  exact ⟨ret_bool (by simp; omega), by (repeat (first | with_reducible exact Ext.rf _ | with_reducible assumption | with_reducible refine Ext.al ?_ _ | with_reducible refine Ext.dr ?_ | with_reducible refine Ext.dn ?_ _ | ((with_reducible refine Ext.st _ ?_ ?_); focus (first | omega | (simp; omega) | simp)) | with_reducible refine Ext.tr ?_ (by assumption) | with_reducible refine Ext.tr ?_ (up_ext (by assumption)) | with_reducible refine Ext.of (by assumption) ?_))⟩
theorem list_ne_of {xs ys : List Int} {j : Nat} {a b : Int} (h1 : xs[j]? = some a) (h2 : ys[j]? = some b) (h : a ≠ b) : (xs == ys) = false := by
  rw [beq_eq_false_iff_ne]
  rintro rfl
  rw [h1] at h2
  exact h (Option.some.inj h2)
set_option maxRecDepth 20000 in
set_option maxHeartbeats 2000000 in
theorem ints_any (xs ys : List Int) (p q : Option Addr) (c d : Nat) (w : World) (hx : SlI w p xs) (hy : SlI w q ys) (lx : xs.length ≤ 1000) (ly : ys.length ≤ 1000) :
    Calls Try.prog 18 #[.slice p xs.length c, .slice q ys.length d] w fun e w' => e = .returned (.bool (xs == ys)) ∧ Ext w w' := by
  by_cases hl : xs.length = ys.length
  · obtain ⟨n, hn⟩ : ∃ n, xs.length = n := ⟨_, rfl⟩
    have hn2 : ys.length = n := by omega
    rw [hn, hn2]
    have ln : n ≤ 1000 := by omega
    clear lx ly hl
    go_enter Try.func18, Try.ntmps18
    go_wp2
    go_loopw [5] (fun i wr => ∃ k : Nat, k ≤ n ∧ i = .int .i64 k ∧ (∀ j : Nat, j < k → xs[j]? = ys[j]?) ∧ Ext w wr) (fun i _ => n - (intOf i).toNat)
    case atStart => exact ⟨0, Nat.zero_le _, rfl, fun j hj => by omega, by (repeat (first | with_reducible exact Ext.rf _ | with_reducible assumption | with_reducible refine Ext.al ?_ _ | with_reducible refine Ext.dr ?_ | with_reducible refine Ext.dn ?_ _ | ((with_reducible refine Ext.st _ ?_ ?_); focus (first | omega | (simp; omega) | simp)) | with_reducible refine Ext.tr ?_ (by assumption) | with_reducible refine Ext.tr ?_ (up_ext (by assumption)) | with_reducible refine Ext.of (by assumption) ?_))⟩
    case round =>
      obtain ⟨k, hk, rfl, ha, hE⟩ := hrel
      have HA := Lib.hid ha
      clear ha
      by_cases hlt : k < n
      · have hil : (k : Int) < n := by omega
        have hkx : k < xs.length := by omega
        have hky : k < ys.length := by omega
        obtain ⟨b, off, rfl, lb, c0⟩ := (hx.ext hE) k hkx
        obtain ⟨b', off', rfl, lb', c0'⟩ := (hy.ext hE) k hky
        obtain ⟨a, h1⟩ : ∃ a, xs[k] = a := ⟨_, rfl⟩
        obtain ⟨a', h2⟩ : ∃ a, ys[k] = a := ⟨_, rfl⟩
        rw [h1] at c0
        rw [h2] at c0'
        have g1 := Lib.hid (show xs[k]? = some a by rw [List.getElem?_eq_getElem hkx, h1])
        have g2 := Lib.hid (show ys[k]? = some a' by rw [List.getElem?_eq_getElem hky, h2])
        have HX := Lib.hid hx
        have HY := Lib.hid hy
        clear hx hy h1 h2
        by_cases hab : a = a'
        · subst hab
          have hne : (a != a) = false := by simp
          go_wp2
          go_region <;> go_wp2
          all_goals go_roundw
          case rel => exact ⟨k + 1, by omega, by go_num, fun j hj => by rcases Nat.lt_or_ge j k with h | h; exact HA.out j h; (obtain rfl : j = k := by omega); rw [g1.out, g2.out], by (repeat (first | with_reducible exact Ext.rf _ | with_reducible assumption | with_reducible refine Ext.al ?_ _ | with_reducible refine Ext.dr ?_ | with_reducible refine Ext.dn ?_ _ | ((with_reducible refine Ext.st _ ?_ ?_); focus (first | omega | (simp; omega) | simp)) | with_reducible refine Ext.tr ?_ (by assumption) | with_reducible refine Ext.tr ?_ (up_ext (by assumption)) | with_reducible refine Ext.of (by assumption) ?_))⟩
          case measure => simp [intOf]; omega
        · have hne : (a != a') = true := by simp [hab]
          have HN := Lib.hid (list_ne_of g1.out g2.out hab)
          go_wp2
          go_region <;> go_wp2
          all_goals go_ret
          all_goals exact ⟨ret_bool HN.out.symm, by (repeat (first | with_reducible exact Ext.rf _ | with_reducible assumption | with_reducible refine Ext.al ?_ _ | with_reducible refine Ext.dr ?_ | with_reducible refine Ext.dn ?_ _ | ((with_reducible refine Ext.st _ ?_ ?_); focus (first | omega | (simp; omega) | simp)) | with_reducible refine Ext.tr ?_ (by assumption) | with_reducible refine Ext.tr ?_ (up_ext (by assumption)) | with_reducible refine Ext.of (by assumption) ?_))⟩
      · obtain rfl : k = n := by omega
        have HN := Lib.hid (show (xs == ys) = true by
          rw [beq_iff_eq]
          refine List.ext_getElem? fun j => ?_
          rcases Nat.lt_or_ge j k with h | h
          · exact HA.out j h
          · rw [List.getElem?_eq_none (by omega), List.getElem?_eq_none (by omega)])
        go_wp2
        go_ret
        exact ⟨ret_bool HN.out.symm, by (repeat (first | with_reducible exact Ext.rf _ | with_reducible assumption | with_reducible refine Ext.al ?_ _ | with_reducible refine Ext.dr ?_ | with_reducible refine Ext.dn ?_ _ | ((with_reducible refine Ext.st _ ?_ ?_); focus (first | omega | (simp; omega) | simp)) | with_reducible refine Ext.tr ?_ (by assumption) | with_reducible refine Ext.tr ?_ (up_ext (by assumption)) | with_reducible refine Ext.of (by assumption) ?_))⟩
  · have hb : ((xs.length : Int) != ys.length) = true := by simp; omega
    have HN := Lib.hid (show (xs == ys) = false by rw [beq_eq_false_iff_ne]; rintro rfl; exact hl rfl)
    clear hx hy
    go_enter Try.func18, Try.ntmps18
    go_wp2
    go_ret
    exact ⟨ret_bool HN.out.symm, by (repeat (first | with_reducible exact Ext.rf _ | with_reducible assumption | with_reducible refine Ext.al ?_ _ | with_reducible refine Ext.dr ?_ | with_reducible refine Ext.dn ?_ _ | ((with_reducible refine Ext.st _ ?_ ?_); focus (first | omega | (simp; omega) | simp)) | with_reducible refine Ext.tr ?_ (by assumption) | with_reducible refine Ext.tr ?_ (up_ext (by assumption)) | with_reducible refine Ext.of (by assumption) ?_))⟩

end Go.Proofs.Ytedamnocolfmlaa

/- The controller: which numbers are in a set, one after another. -/
namespace Go.Proofs.Ytedamnocolfmlaa
open Go.RowKit

theorem and_pow88 : ∀ a b c d e f : Bool, ∀ i, i < 8 → bits .and .u8 (setN (fun j => ([a, b, c, d, e, f].getD j false)) 6) ((2 ^ i : Nat) : Int) = if decide (i < 6) && [a, b, c, d, e, f].getD i false then ((2 ^ i : Nat) : Int) else 0 := by decide +kernel
theorem and_set8 (f : Nat → Bool) (i : Nat) (hi : i < 8) : bits .and .u8 (setN f 6) ((2 ^ i : Nat) : Int) = if decide (i < 6) && f i then ((2 ^ i : Nat) : Int) else 0 := by
  have e : setN f 6 = setN (fun j => ([f 0, f 1, f 2, f 3, f 4, f 5].getD j false)) 6 := setN_congr 6 fun j hj => by
    obtain rfl | rfl | rfl | rfl | rfl | rfl : j = 0 ∨ j = 1 ∨ j = 2 ∨ j = 3 ∨ j = 4 ∨ j = 5 := by omega
    all_goals rfl
  have h := and_pow88 (f 0) (f 1) (f 2) (f 3) (f 4) (f 5) i hi
  rw [← e] at h
  rw [h]
  obtain rfl | rfl | rfl | rfl | rfl | rfl | rfl | rfl : i = 0 ∨ i = 1 ∨ i = 2 ∨ i = 3 ∨ i = 4 ∨ i = 5 ∨ i = 6 ∨ i = 7 := by omega
  all_goals rfl
theorem bit_ne (S : Int) (b : Bool) (k : Int) (hk : k ≠ 0) (h : bits .and .u8 S k = if b then k else 0) : (bits .and .u8 S k != 0) = b := by rw [h]; cases b <;> simp [hk]
/-- Is a number in the set of those of the first N that are so? -/
def inF (f : Nat → Bool) (N : Nat) (n : Int) : Bool := decide (0 ≤ n) && decide (n < N) && f n.toNat
theorem setN_le (f : Nat → Bool) : ∀ {k m : Nat}, k ≤ m → setN (fun i => decide (i < k) && f i) m = setN f k := by
  intro k m h
  induction m with
  | zero => obtain rfl : k = 0 := by omega
            rfl
  | succ m ih =>
    by_cases hk : k ≤ m
    · rw [setN, ih hk, decide_eq_false (by omega)]; simp
    · obtain rfl : k = m + 1 := by omega
      exact setN_congr _ fun i hi => by simp [hi]
theorem and_setN (f : Nat → Bool) (N : Nat) (hN : N ≤ 6) (i : Nat) (hi : i < 8) : bits .and .u8 (setN f N) ((2 ^ i : Nat) : Int) = if inF f N i then ((2 ^ i : Nat) : Int) else 0 := by
  rw [← setN_le f hN, and_set8 _ i hi]
  unfold inF
  by_cases h : i < N
  · have h6 : i < 6 := by omega
    simp [h, h6]
  · simp [h]
set_option maxRecDepth 20000 in
set_option maxHeartbeats 4000000 in
theorem sin_any (f : Nat → Bool) (N : Nat) (hN : N ≤ 6) (n : Int) (w : World) :
    Calls Try.prog 74 #[.int .u8 (setN f N), .int .i64 n] w fun e w' => e = .returned (.bool (inF f N n)) ∧ w = w' := by
  cases h0 : decide (0 ≤ n)
  · have h0' := of_decide_eq_false h0
    have HN := Lib.hid (show inF f N n = false by unfold inF; rw [h0]; rfl)
    go_enter Try.func74, Try.ntmps74
    go_wp2
    go_ret
    exact ⟨ret_bool HN.out.symm, rfl⟩
  have h0' := of_decide_eq_true h0
  cases h8 : decide (n < 8)
  · have h8' := of_decide_eq_false h8
    have HN := Lib.hid (show inF f N n = false by unfold inF; rw [decide_eq_false (show ¬ n < (N : Int) by omega)]; simp)
    go_enter Try.func74, Try.ntmps74
    go_wp2
    go_ret
    exact ⟨ret_bool HN.out.symm, rfl⟩
  have h8' := of_decide_eq_true h8
  obtain ⟨i, rfl⟩ := Int.eq_ofNat_of_zero_le h0'
  have hi : i < 8 := by omega
  have ha := and_setN f N hN i hi
  obtain ⟨S, hS⟩ : ∃ S, setN f N = S := ⟨_, rfl⟩
  obtain ⟨b, hb⟩ : ∃ b, inF f N i = b := ⟨_, rfl⟩
  rw [hS, hb] at ha
  have HB := Lib.hid hb
  rw [hS]
  clear h0 h0' h8 h8' hb hS
  obtain rfl | rfl | rfl | rfl | rfl | rfl | rfl | rfl : i = 0 ∨ i = 1 ∨ i = 2 ∨ i = 3 ∨ i = 4 ∨ i = 5 ∨ i = 6 ∨ i = 7 := by omega
  all_goals
    go_enter Try.func74, Try.ntmps74
    go_wp2
    go_ret
    exact ⟨ret_bool ((bit_ne S b _ (by decide) ha).trans HB.out.symm), rfl⟩

/-- The numbers of a set, rising. -/
def nums (f : Nat → Bool) (N : Nat) : List (Nat × Nat) := pickN (fun i => inF f N i) (fun i => i) 8
theorem enters_numbers1 : ∀ args w, (callFunc 73 args).run Try.prog w = .ok (.enter 73 args) w := enters_of Try.func73 (by kernel_rfl) rfl
set_option maxHeartbeats 1000000 in
theorem numbers_any (S : Int) (w : World) :
    Calls Try.prog 55 #[.int .u8 S] w fun e w' => e = .returned (.func (.func 73) #[] #[.pointer (some ⟨w.heap.size, 0, none⟩)]) ∧ Ext w w' ∧ w'.cell? ⟨w.heap.size, 0, none⟩ = some (.int .u8 S) ∧ Lt w.heap.size w' := by
  go_enter Try.func55, Try.ntmps55
  go_wp2
  go_ret
  exact ⟨rfl, by (repeat (first | with_reducible exact Ext.rf _ | with_reducible assumption | with_reducible refine Ext.al ?_ _ | with_reducible refine Ext.dr ?_ | with_reducible refine Ext.dn ?_ _ | ((with_reducible refine Ext.st _ ?_ ?_); focus (first | omega | (simp; omega) | simp)) | with_reducible refine Ext.tr ?_ (by assumption) | with_reducible refine Ext.tr ?_ (up_ext (by assumption)) | with_reducible refine Ext.of (by assumption) ?_)), by simp [go_sem], by simp [go_sem]⟩
set_option maxRecDepth 20000 in
set_option maxHeartbeats 4000000 in
theorem numbers_iter (n : Nat) (f : Nat → Bool) (N : Nat) (hN : N ≤ 6) (w : World) (B : Nat) (U : Nat → Prop) (hc : w.cell? ⟨B, 0, none⟩ = some (.int .u8 (setN f N))) (lB : Lt B w) (hU : ¬ U B) :
    Iter Fence.wide n Try.prog 73 #[.pointer (some ⟨B, 0, none⟩)] (fun x : Nat × Nat => #[.int .i64 x.1]) (fun _ => False) U (nums f N) w := by
  intro y J Jx W hW hJ hJx hY hJ0
  have HJ := Lib.hid hJ
  have HJx := Lib.hid hJx
  have HU := Lib.hid hU
  clear hJ hJx hU
  obtain ⟨yfn, ytm, yas, ybo, hY⟩ := hY
  have HY := Lib.hid hY
  clear hY
  have hcW : W.cell? ⟨B, 0, none⟩ = some (.int .u8 (setN f N)) := (hW.cell (p := ⟨B, 0, none⟩) lB).trans hc
  have hrW : W.heap[B]? = w.heap[B]? := hW.block B lB
  have hszW : w.heap.size ≤ W.heap.size := hW.size
  have HC := Lib.hid hc
  clear hc
  refine callsIn_of_wp Try.func73 rfl trivial ?_ rfl
  simp only [Try.ntmps73, List.size_toArray, List.length_cons, List.length_nil, Nat.reduceAdd, Nat.reduceSub, Array.replicate_succ, Array.replicate_zero, List.push_toArray, List.append_toArray, List.nil_append, List.cons_append]
  refine wpIn_wide.2 ?_
  go_wp2
  go_loopw [4] (fun a wr => ∃ i : Nat, i ≤ 8 ∧ a = .int .i64 i ∧ J (cntN (fun i => inF f N i) i) wr ∧ wr.heap[B]? = w.heap[B]? ∧ w.heap.size ≤ wr.heap.size) (fun a _ => 8 - (intOf a).toNat)
  case atStart => exact ⟨0, Nat.zero_le _, rfl, hJ0, hrW, hszW⟩
  case round =>
    clear hcW hrW hJ0
    obtain ⟨i, hi, rfl, hJi, hri, hsi⟩ := hrel
    by_cases hlt : i < 8
    · have hlt' : (i : Int) < 8 := by omega
      have hce : wr.cell? ⟨B, 0, none⟩ = some (.int .u8 (setN f N)) := by
        rw [cell_rowD, rowD_same hri, ← cell_rowD]; exact HC.out
      have lmr : Lt B wr := Nat.lt_of_lt_of_le lB hsi
      have HJI := Lib.hid hJi
      have HRI := Lib.hid hri
      clear hJi hri
      cases hin : inF f N i
      · have HK := Lib.hid (show cntN (fun i => inF f N i) (i + 1) = cntN (fun i => inF f N i) i by rw [cntN, hin]; simp)
        go_wp2_with (go_at_call 74; (with_reducible refine (sin_any f N hN _ _).mono ?_); rintro e w' ⟨rfl, rfl⟩)
        go_roundw
        case rel => exact ⟨i + 1, by omega, by go_num, by rw [HK.out]; exact HJI.out, HRI.out, hsi⟩
        case measure => simp [intOf]; omega
      · have HK := Lib.hid (show cntN (fun i => inF f N i) (i + 1) = cntN (fun i => inF f N i) i + 1 by rw [cntN, hin]; simp)
        have HXS := Lib.hid (pickN_get (fun i => inF f N i) (fun i => i) 8 i hlt hin)
        go_upto_region 3 with (fail)
        have hrun : (Instr.yield y #[.int .i64 i]).run Try.prog wr = .ok (.round y yfn (ytm #[.int .i64 i]) yas ybo) wr := (HY.out _ (i, i) wr HJI.out HXS.out).1
        have HRD := Lib.hid (HY.out _ (i, i) wr HJI.out HXS.out).2
        refine (wpIn_wide (n := n)).1 ?_
        gi_wp2
        refine ⟨trivial, (fun h => absurd h (by simp [Fence.wide])), (callsIn_wide.2 (sin_any f N hN (i : Int) wr)).mono ?_⟩
        rintro e w5 ⟨rfl, rfl⟩
        rw [hin]
        gi_wp2
        refine ⟨(fun h => absurd h (by simp [Fence.wide])), (HRD.out).mono ?_⟩
        rintro e w6 ⟨b, rfl, hP⟩
        obtain ⟨rfl, hJ6, hm6⟩ | ⟨rfl, hx6⟩ := hP
        · have hr6 : w6.heap[B]? = w.heap[B]? := (hm6.same B lmr (fun hh => by rcases hh with hh | hh; exact HU.out hh; exact absurd lB (Nat.not_lt.2 hh))).trans HRI.out
          have hs6 : w.heap.size ≤ w6.heap.size := Nat.le_trans hsi hm6.size
          have HR6 := Lib.hid hr6
          clear hm6 hr6
          gi_wp2
          go_wp2
          go_roundw
          case rel => exact ⟨i + 1, by omega, by go_num, by rw [HK.out]; exact hJ6, HR6.out, hs6⟩
          case measure => simp [intOf]; omega
        · gi_wp2
          go_wp2
          refine bodyPost_ret (results_none rfl _ _ _) rfl ⟨⟨_, rfl⟩, .inr hx6⟩
    · obtain rfl : i = 8 := by omega
      have HL := Lib.hid (pickN_len (fun i => inF f N i) (fun i => i) 8)
      go_wp2
      go_end0
      exact ⟨⟨_, rfl⟩, .inl (by unfold nums; rw [HL.out]; exact hJi)⟩

end Go.Proofs.Ytedamnocolfmlaa

/- Members: which may be. -/
namespace Go.Proofs.Ytedamnocolfmlaa
open Go.RowKit

/-- A state that may not be: of a node of a kind. -/
def badS (k s : Int) : Bool := decide (4 ≤ s) || (s == 2 && k == 1)
def mbR (m : Mb) : Bool := ((List.range 3).all fun i => !badS 1 (m.mx i)) && ((List.range 6).all fun i => !badS 2 (m.bk i))
@[go_sem ↓ high] theorem index2_0 (a b : Int) (w : World) : (Instr.index 157 (.agg #[.int .u8 a, .int .u8 b]) (.int .i64 0)).run Try.prog w = .ok (.int .u8 a) w := by kernel_rfl
@[go_sem ↓ high] theorem index2_1 (a b : Int) (w : World) : (Instr.index 157 (.agg #[.int .u8 a, .int .u8 b]) (.int .i64 1)).run Try.prog w = .ok (.int .u8 b) w := by kernel_rfl
set_option maxRecDepth 20000 in
set_option maxHeartbeats 4000000 in
theorem mbright_any (m : Mb) (w : World) :
    Calls Try.prog 87 #[.agg (mbv m)] w fun e w' => e = .returned (.bool (mbR m)) ∧ Ext w w' := by
  refine (callsIn_wide (n := 5)).1 ?_
  refine callsIn_of_wp_marks Try.func87 rfl trivial ?_ rfl
  simp only [Try.ntmps87, List.size_toArray, List.length_cons, List.length_nil, Nat.reduceAdd, Nat.reduceSub, Array.replicate_succ, Array.replicate_zero, List.push_toArray, List.append_toArray, List.nil_append, List.cons_append]
  refine wpIn_wide.2 ?_
  go_wp2
  refine wp_scope_fwd 0 rfl ?_
  go_wp2
  refine wp_loop_rounds 3 ?_
  rw [rounds_succ]
  obtain ⟨V, hV⟩ : ∃ V, w.alloc (.cells (mbv m) 25) = V := ⟨_, rfl⟩
  have hE : Ext w V := by rw [← hV]; exact Ext.al (Ext.rf _) _
  have hR : rowD V w.heap.size = mbv m := by rw [← hV]; simp [go_sem]
  have hL : Lt w.heap.size V := by rw [← hV]; simp [go_sem]
  rw [hV]
  clear hV

  obtain ⟨W0, hW0⟩ : ∃ W0, V.alloc (.cells #[.int .u8 1] 5) = W0 := ⟨_, rfl⟩
  have g0 : Ext V W0 := by rw [← hW0]; exact Ext.al (Ext.rf _) _
  have c0 : W0.cell? ⟨V.heap.size, 0, none⟩ = some (.int .u8 1) := by rw [← hW0]; simp [go_sem]
  have l0 : Lt V.heap.size W0 := by rw [← hW0]; simp [go_sem]
  go_upto_region 4 with (fail)
  clear hW0
  have gD := g0
  have hR0 : rowD W0 w.heap.size = mbv m := row_ext' g0 hL hR
  have hL0 : Lt w.heap.size W0 := Nat.lt_of_lt_of_le hL g0.size
  have HE0 := Lib.hid ((hE).tr g0)
  clear hR hL
  go_wp2_with (go_at_call 85; (with_reducible refine (mstates_mux m _).mono ?_); rintro e w0 ⟨rfl, g1, k1, l1, r1, t1⟩)
  have hc4 : w0.cell? ⟨V.heap.size, 0, none⟩ = some (.int .u8 1) := (g1.cell (p := ⟨V.heap.size, 0, none⟩) l0).trans c0
  have l4 : Lt V.heap.size w0 := Nat.lt_of_lt_of_le l0 g1.size
  have E1 := HE0.out.tr g1
  have hcs : ∀ i, i < 3 → w0.cell? ⟨W0.heap.size, 6 + i, none⟩ = some (.int .u8 (m.mx i)) := fun i hi => by rw [cell_rowD, r1]; exact get_mb_m m i hi
  have s01 : W0.heap.size ≤ w0.heap.size := g1.size
  have s0 : V.heap.size < W0.heap.size := l0
  have lw : w.heap.size < W0.heap.size := hL0
  have hR1 : rowD w0 w.heap.size = mbv m := row_ext' g1 hL0 hR0
  clear r1 hR0
  refine (wpIn_wide (n := 5)).1 ?_
  refine wpIn_range rfl (by omega) (gf := 94) (lb := #[.pointer (some ⟨W0.heap.size + 1, 0, none⟩)]) rfl trivial enters_mstates1
    (mstates_iter _ (fun i => m.mx i) 3 (by omega) w0 (W0.heap.size + 1) W0.heap.size 6 (fun _ => False) k1 l1 hcs t1 (fun h => h))
    (fun k h => h.elim) (fun k h => h.elim) (fun _ => rfl)
    (fun i _ => ∀ j, j < i → badS 1 (m.mx j) = false) (fun cc _ => cc = .goto 0 ∧ mbR m = false)
    (fun _ _ _ h _ => h) (fun _ _ _ h _ => h) (fun j hj => by omega)
    (fun x a' W => a' = { tmps := #[.agg (mbv m), .pointer (some ⟨w.heap.size, 0, none⟩), .bool false, undef, .pointer (some ⟨V.heap.size, 0, none⟩), undef, .int .u8 x.2, .agg #[.int .u8 1, .int .u8 2], .int .i64 0, .bool true, .int .u8 1, .agg (mbv m), .int .u8 1, .func (.func 94) #[] #[.pointer (some ⟨W0.heap.size + 1, 0, none⟩)], .int .i64 x.1, .int .u8 x.2, undef, undef, undef, undef, undef, undef, undef, undef, undef, undef, undef], defers := [] })
    (fun x a' A B h hm => h)
    ?assign ?body ?done ?stop
  case assign =>
    intro y i x W K hsz hv hI hx hK
    gi_wp2
    repeat (rw [Oper.semAt_some _ _ _ (by intro c h; cases h)]; go_simp; gi_wp2)
    exact hK _ _ (Mv.refl _ _) hI rfl
  case body =>
    rintro y i x a' W hyl ⟨rr, hr⟩ hsz' hv hI hx rfl
    have hi : i < 3 := by have := (List.getElem?_eq_some_iff.1 hx).1; rwa [msts_len] at this
    rw [msts_get (fun i => m.mx i) 3 i hi] at hx
    obtain rfl : (i, m.mx i) = x := by simpa using hx
    have hcW : W.cell? ⟨V.heap.size, 0, none⟩ = some (.int .u8 1) := by
      rw [cell_rowD, rowD_same (hv.same _ l4 (fun h => by rcases h with h | h <;> exact h.elim)), ← cell_rowD]; exact hc4
    have HI := Lib.hid hI
    clear hI hx hr hv k1 hcs
    obtain ⟨z, hz⟩ : ∃ z, m.mx i = z := ⟨_, rfl⟩
    have HZ := Lib.hid hz
    simp only [hz]
    clear hz
    cases hb : badS 1 z
    · have HG := Lib.hid (show ∀ j, j < i + 1 → badS 1 (m.mx j) = false from fun j hj => by
        rcases Nat.lt_or_ge j i with h | h
        · exact HI.out j h
        · obtain rfl : j = i := by omega
          rw [HZ.out]; exact hb)
      have hb' := Lib.hid hb
      cases h4 : decide (4 ≤ z) <;> cases h2 : (z == 2)
      all_goals first
        | (exfalso; have := hb'.out; unfold badS at this; rw [h4, h2] at this; revert this; decide)
        | (clear hb
           gi_wp2
           repeat (rw [Oper.semAt_some _ _ _ (by intro c h; cases h)]; go_simp; gi_wp2)
           exact ⟨Mv.refl _ _, HG.out⟩)
    · have HG := Lib.hid (show mbR m = false by
        unfold mbR
        rw [Bool.and_eq_false_iff]
        left
        exact List.all_eq_false.2 ⟨i, List.mem_range.2 hi, by rw [HZ.out, hb]; decide⟩)
      have hb' := Lib.hid hb
      cases h4 : decide (4 ≤ z) <;> cases h2 : (z == 2)
      all_goals first
        | (exfalso; have := hb'.out; unfold badS at this; rw [h4, h2] at this; revert this; decide)
        | (clear hb
           gi_wp2
           repeat (rw [Oper.semAt_some _ _ _ (by intro c h; cases h)]; go_simp; gi_wp2)
           refine wpIn_goto ?_
           exact ⟨Mv.refl _ _, rfl, HG.out⟩)
  case stop =>
    rintro cc W ⟨rfl, hn⟩ hv hK
    refine wpIn_goto ?_
    simp only [Exit.inBlock, Exit.then, Exit.jump]
    refine ⟨rfl, ?_⟩
    go_wp2
    rw [Exit.noGoto_ret]
    refine ⟨by simp, .inl ⟨_, _, rfl, run_takeDeferred hK, ?_⟩⟩
    refine ⟨_, results_tmp rfl _ _ _, by rw [hn]; rfl, ?_⟩
    have hE2 : Ext w W := Mv.ext_of E1 hv (fun k h => by rcases h with h | h <;> exact h.elim)
    exact Mv.ext_of hE2 (Mv.put (C := fun k => k = w0.heap.size) _ _ _ rfl) (fun k h => by have := E1.size; omega)
  case done =>
    rintro V0 hI0 hv0 hK0
    rw [msts_len] at hI0
    have hE2 : Ext w V0 := Mv.ext_of E1 hv0 (fun k h => by rcases h with h | h <;> exact h.elim)
    have hR : rowD V0 w.heap.size = mbv m := by rw [rowD_same (hv0.same _ (Nat.lt_of_lt_of_le lw s01) (fun h => by rcases h with h | h <;> exact h.elim))]; exact hR1
    have hL : Lt w.heap.size V0 := Nat.lt_of_lt_of_le hL0 (Nat.le_trans s01 hv0.size)
    have HK0 := Lib.hid hK0
    have HI0 := Lib.hid hI0
    have hw0 : w.heap.size ≤ w0.heap.size := E1.size
    have hlk : w0.heap.size < V0.heap.size := (Array.getElem?_eq_some_iff.1 hK0).1
    clear hv0 hK0 hI0 hR1 k1 l1 t1 hcs hc4 l4 c0 l0 g0 gD g1 s01 s0 lw hL0 HE0
    go_wp2
    rw [rounds_succ]
    obtain ⟨W1, hW0⟩ : ∃ W1, V0.alloc (.cells #[.int .u8 2] 5) = W1 := ⟨_, rfl⟩
    have g0 : Ext V0 W1 := by rw [← hW0]; exact Ext.al (Ext.rf _) _
    have c0 : W1.cell? ⟨V0.heap.size, 0, none⟩ = some (.int .u8 2) := by rw [← hW0]; simp [go_sem]
    have l0 : Lt V0.heap.size W1 := by rw [← hW0]; simp [go_sem]
    go_upto_region 4 with (fail)
    clear hW0
    have gD := g0
    have hR0 : rowD W1 w.heap.size = mbv m := row_ext' g0 hL hR
    have hL0 : Lt w.heap.size W1 := Nat.lt_of_lt_of_le hL g0.size
    have HE0 := Lib.hid ((hE2).tr g0)
    clear hR hL
    go_wp2_with (go_at_call 85; (with_reducible refine (mstates_back m _).mono ?_); rintro e w1 ⟨rfl, g1, k1, l1, r1, t1⟩)
    have hc4 : w1.cell? ⟨V0.heap.size, 0, none⟩ = some (.int .u8 2) := (g1.cell (p := ⟨V0.heap.size, 0, none⟩) l0).trans c0
    have l4 : Lt V0.heap.size w1 := Nat.lt_of_lt_of_le l0 g1.size
    have E1 := HE0.out.tr g1
    have hcs : ∀ i, i < 6 → w1.cell? ⟨W1.heap.size, 0 + i, none⟩ = some (.int .u8 (m.bk i)) := fun i hi => by rw [cell_rowD, r1]; rw [Nat.zero_add]; exact get_mb_b m i hi
    have s01 : W1.heap.size ≤ w1.heap.size := g1.size
    have s0 : V0.heap.size < W1.heap.size := l0
    have lw : w.heap.size < W1.heap.size := hL0
    have hR1 : rowD w1 w.heap.size = mbv m := row_ext' g1 hL0 hR0
    clear r1 hR0
    refine (wpIn_wide (n := 5)).1 ?_
    refine wpIn_range rfl (by omega) (gf := 94) (lb := #[.pointer (some ⟨W1.heap.size + 1, 0, none⟩)]) rfl trivial enters_mstates1
      (mstates_iter _ (fun i => m.bk i) 6 (by omega) w1 (W1.heap.size + 1) W1.heap.size 0 (fun _ => False) k1 l1 hcs t1 (fun h => h))
      (fun k h => h.elim) (fun k h => h.elim) (fun _ => rfl)
      (fun i _ => ∀ j, j < i → badS 2 (m.bk j) = false) (fun cc _ => cc = .goto 0 ∧ mbR m = false)
      (fun _ _ _ h _ => h) (fun _ _ _ h _ => h) (fun j hj => by omega)
      (fun x a' W => a' = { tmps := #[.agg (mbv m), .pointer (some ⟨w.heap.size, 0, none⟩), .bool false, undef, .pointer (some ⟨V0.heap.size, 0, none⟩), undef, .int .u8 x.2, .agg #[.int .u8 1, .int .u8 2], .int .i64 1, .bool true, .int .u8 2, .agg (mbv m), .int .u8 2, .func (.func 94) #[] #[.pointer (some ⟨W1.heap.size + 1, 0, none⟩)], .int .i64 x.1, .int .u8 x.2, undef, undef, undef, undef, undef, undef, undef, undef, undef, undef, .int .i64 1], defers := [] })
      (fun x a' A B h hm => h)
      ?assign ?body ?done ?stop
    case assign =>
      intro y i x W K hsz hv hI hx hK
      gi_wp2
      repeat (rw [Oper.semAt_some _ _ _ (by intro c h; cases h)]; go_simp; gi_wp2)
      exact hK _ _ (Mv.refl _ _) hI rfl
    case body =>
      rintro y i x a' W hyl ⟨rr, hr⟩ hsz' hv hI hx rfl
      have hi : i < 6 := by have := (List.getElem?_eq_some_iff.1 hx).1; rwa [msts_len] at this
      rw [msts_get (fun i => m.bk i) 6 i hi] at hx
      obtain rfl : (i, m.bk i) = x := by simpa using hx
      have hcW : W.cell? ⟨V0.heap.size, 0, none⟩ = some (.int .u8 2) := by
        rw [cell_rowD, rowD_same (hv.same _ l4 (fun h => by rcases h with h | h <;> exact h.elim)), ← cell_rowD]; exact hc4
      have HI := Lib.hid hI
      clear hI hx hr hv k1 hcs
      obtain ⟨z, hz⟩ : ∃ z, m.bk i = z := ⟨_, rfl⟩
      have HZ := Lib.hid hz
      simp only [hz]
      clear hz
      cases hb : badS 2 z
      · have HG := Lib.hid (show ∀ j, j < i + 1 → badS 2 (m.bk j) = false from fun j hj => by
          rcases Nat.lt_or_ge j i with h | h
          · exact HI.out j h
          · obtain rfl : j = i := by omega
            rw [HZ.out]; exact hb)
        have hb' := Lib.hid hb
        cases h4 : decide (4 ≤ z) <;> cases h2 : (z == 2)
        all_goals first
          | (exfalso; have := hb'.out; unfold badS at this; rw [h4, h2] at this; revert this; decide)
          | (clear hb
             gi_wp2
             repeat (rw [Oper.semAt_some _ _ _ (by intro c h; cases h)]; go_simp; gi_wp2)
             exact ⟨Mv.refl _ _, HG.out⟩)
      · have HG := Lib.hid (show mbR m = false by
          unfold mbR
          rw [Bool.and_eq_false_iff]
          right
          exact List.all_eq_false.2 ⟨i, List.mem_range.2 hi, by rw [HZ.out, hb]; decide⟩)
        have hb' := Lib.hid hb
        cases h4 : decide (4 ≤ z) <;> cases h2 : (z == 2)
        all_goals first
          | (exfalso; have := hb'.out; unfold badS at this; rw [h4, h2] at this; revert this; decide)
          | (clear hb
             gi_wp2
             repeat (rw [Oper.semAt_some _ _ _ (by intro c h; cases h)]; go_simp; gi_wp2)
             refine wpIn_goto ?_
             exact ⟨Mv.refl _ _, rfl, HG.out⟩)
    case stop =>
      rintro cc W ⟨rfl, hn⟩ hv hK
      refine wpIn_goto ?_
      simp only [Exit.inBlock, Exit.then, Exit.jump]
      refine ⟨rfl, ?_⟩
      go_wp2
      rw [Exit.noGoto_ret]
      have hlk1 : w0.heap.size < w1.heap.size := Nat.lt_of_lt_of_le hlk (Nat.le_trans gD.size g1.size)
      have hk2 := (hv.same w0.heap.size hlk1 (fun h => by rcases h with h | h <;> exact h.elim)).trans ((g1.block _ (Nat.lt_of_lt_of_le hlk gD.size)).trans ((gD.block _ hlk).trans HK0.out))
      have hE2' : Ext w W := Mv.ext_of E1 hv (fun k h => by rcases h with h | h <;> exact h.elim)
      have hE3 : Ext w (W.putObj w1.heap.size (.deferred none)) := Mv.ext_of hE2' (Mv.put (C := fun k => k = w1.heap.size) _ _ _ rfl) (fun k h => by have := E1.size; omega)
      refine ⟨by simp, .inl ⟨_, _, rfl, run_takeDeferred hK, ?_⟩⟩
      refine ⟨by simp, .inl ⟨_, _, rfl, run_takeDeferred ((World.putObj_heap_other (by omega)).trans hk2), ?_⟩⟩
      refine ⟨_, results_tmp rfl _ _ _, by rw [hn]; rfl, ?_⟩
      exact Mv.ext_of hE3 (Mv.put (C := fun k => k = w0.heap.size) _ _ _ rfl) (fun k h => by omega)
    case done =>
      rintro W hI hv hK
      rw [msts_len] at hI
      have hE2 : Ext w W := Mv.ext_of E1 hv (fun k h => by rcases h with h | h <;> exact h.elim)
      have HB := Lib.hid (show mbR m = true by
        unfold mbR
        rw [Bool.and_eq_true, List.all_eq_true, List.all_eq_true]
        exact ⟨fun i hi => by rw [HI0.out i (List.mem_range.1 hi)]; rfl, fun i hi => by rw [hI i (List.mem_range.1 hi)]; rfl⟩)
      clear hI
      go_wp2
      rw [rounds_succ]
      go_wp2
      simp only [Exit.jump]
      have hlk1 : w0.heap.size < w1.heap.size := Nat.lt_of_lt_of_le hlk (Nat.le_trans gD.size g1.size)
      have hk2 := (hv.same w0.heap.size hlk1 (fun h => by rcases h with h | h <;> exact h.elim)).trans ((g1.block _ (Nat.lt_of_lt_of_le hlk gD.size)).trans ((gD.block _ hlk).trans HK0.out))
      have hE2' : Ext w W := Mv.ext_of E1 hv (fun k h => by rcases h with h | h <;> exact h.elim)
      have hE3 : Ext w (W.putObj w1.heap.size (.deferred none)) := Mv.ext_of hE2' (Mv.put (C := fun k => k = w1.heap.size) _ _ _ rfl) (fun k h => by have := E1.size; omega)
      refine ⟨by simp, .inl ⟨_, _, rfl, run_takeDeferred hK, ?_⟩⟩
      refine ⟨by simp, .inl ⟨_, _, rfl, run_takeDeferred ((World.putObj_heap_other (by omega)).trans hk2), ?_⟩⟩
      refine ⟨_, results_tmp rfl _ _ _, by rw [HB.out]; rfl, ?_⟩
      exact Mv.ext_of hE3 (Mv.put (C := fun k => k = w0.heap.size) _ _ _ rfl) (fun k h => by omega)


end Go.Proofs.Ytedamnocolfmlaa

/- The controller: which may be. -/
namespace Go.Proofs.Ytedamnocolfmlaa
open Go.RowKit

def SchSrt (ops : Array Oper) : Prop := Region.noSelect ops = true ∧ takesB ops 12 [0, 1, 3, 4, 6, 7, 8] [] = true ∧ Region.ready .any ops (don 12 [8, 7, 6, 4, 3, 1, 0]) = [2] ∧ Region.ready .any ops (don 12 [2, 8, 7, 6, 4, 3, 1, 0]) = [5] ∧ Region.ready .any ops (don 12 [5, 2, 8, 7, 6, 4, 3, 1, 0]) = [9] ∧ Region.ready .any ops (don 12 [9, 5, 2, 8, 7, 6, 4, 3, 1, 0]) = [10] ∧ Region.ready .any ops (don 12 [10, 9, 5, 2, 8, 7, 6, 4, 3, 1, 0]) = [11] ∧ Region.ready .any ops (don 12 [11, 10, 9, 5, 2, 8, 7, 6, 4, 3, 1, 0]) = []
theorem schSrt : SchSrt ((Try.f75.body.bind (findR 1)).getD #[]) := ⟨by kernel_rfl, by kernel_rfl, by kernel_rfl, by kernel_rfl, by kernel_rfl, by kernel_rfl, by kernel_rfl, by kernel_rfl⟩

theorem end3D {C : Nat → Prop} {P : Program} {ops : Array Oper} {Q : Act → World → Prop} {N k k2 k3 : Nat} {d : List Nat} {oi oj ol : Oper} {fuel : Nat} {v v2 v3 : Value} {a : Act} {w : World}
    (hr : Region.ready .any ops (don N d) = [k]) (hi : ops[k]? = some oi) (hw : Region.wanted oi (yielded ops a.tmps) = true) (he : (execOp a.eval oi).run P w = .ok (.value v) w)
    (hr2 : Region.ready .any ops (don N (k :: d)) = [k2]) (hj : ops[k2]? = some oj) (hw2 : Region.wanted oj (yielded ops (a.put oi.dst v).tmps) = true) (he2 : (execOp (a.put oi.dst v).eval oj).run P w = .ok (.value v2) w)
    (hr3 : Region.ready .any ops (don N (k2 :: k :: d)) = [k3]) (hl : ops[k3]? = some ol) (hw3 : Region.wanted ol (yielded ops ((a.put oi.dst v).put oj.dst v2).tmps) = true) (he3 : (execOp ((a.put oi.dst v).put oj.dst v2).eval ol).run P w = .ok (.value v3) w)
    (hr4 : Region.ready .any ops (don N (k3 :: k2 :: k :: d)) = []) (H : Q (((a.put oi.dst v).put oj.dst v2).put ol.dst v3) w) : wpAnyK C P .any ops Q (fuel + 3) (don N d) a w :=
  soleD hr (makeD hi hw he (Mv.refl _ _) (soleD hr2 (makeD hj hw2 he2 (Mv.refl _ _) (soleD hr3 (makeD hl hw3 he3 (Mv.refl _ _) (doneK hr4 H))))))
theorem ldmb_K {C : Nat → Prop} {w : World} {B : Nat} {s : St} (h0 : rowD w B = stv s) (hl : Lt B w) (hC : ¬ C B) (ρ : Operand → Value) (dst : Option Tmp) (q : Operand) (ty : TypeId) (pos : String) (after : Array Edge) (g : Option (Nat × Bool)) (hx : ρ q = .pointer (some ⟨B, 0, none⟩)) :
    ∀ w', Mv C w w' → (execOp ρ ⟨dst, .load 25 q, ty, pos, after, g⟩).run Try.prog w' = .ok (.value (.agg (mbv s.mb))) w' := by
  intro w' hE
  have hr : rowD w' B = stv s := by rw [rowD_same (hE.same B hl hC)]; exact h0
  have e := exec_load_mb ρ dst q ty pos after g w' (by rw [hx]; rfl) (by rw [hx]; show Fits 0 9 (rowD w' B); rw [hr, fits_stv]; omega)
  rw [e, hx]
  show Result.ok (Next.value (Value.agg (cutD (rowD w' B) 0 9))) w' = _
  rw [hr, cut_st_mb]
@[go_sem] theorem get_st_ver (s : St) : (stv s)[105]? = some (.int .i64 s.t.ver) := by unfold stv; rw [get_rowv, if_pos (by omega)]; rfl
@[go_sem] theorem get_st_win (s : St) : (stv s)[189]? = some (.int .i64 s.win) := by unfold stv; rw [get_rowv, if_pos (by omega)]; rfl
theorem get_st_set (s : St) (k : Nat) (h : k < 16) : (stv s)[170 + k]? = some (.int .i64 (s.set k)) := by
  unfold stv; rw [get_rowv, if_pos (by omega)]
  unfold St.at
  rw [if_neg (by omega), if_neg (by omega), if_neg (by omega), if_pos (by omega), show 170 + k - 170 = k by omega]
theorem get_st_has (s : St) (k : Nat) (h : k < 3) : (stv s)[186 + k]? = some (.int .i64 (s.has k)) := by
  unfold stv; rw [get_rowv, if_pos (by omega)]
  unfold St.at
  rw [if_neg (by omega), if_neg (by omega), if_neg (by omega), if_neg (by omega), if_pos (by omega), show 186 + k - 186 = k by omega]
@[go_sem] theorem cut_st_has (s : St) : cutD (stv s) 186 3 = iv 3 s.has := by
  unfold stv iv
  rw [cut_rowv _ _ _ _ (by omega)]
  refine rowv_congr _ _ _ fun j hj => ?_
  unfold St.at
  rw [if_neg (by omega), if_neg (by omega), if_neg (by omega), if_neg (by omega), if_pos (by omega), show 186 + j - 186 = j by omega]
theorem isAgg_i3 (w : World) : (isAgg 3).run Try.prog w = .ok false w := by kernel_rfl
theorem size_i3 (w : World) : (sizeOf 3).run Try.prog w = .ok 1 w := by kernel_rfl
@[go_sem ↓ high] theorem index_iv3 (f : Nat → Int) (k : Nat) (w : World) (h1 : (k : Int) < 3) : (Instr.index 35 (.agg (iv 3 f)) (.int .i64 k)).run Try.prog w = .ok (.int .i64 (f k)) w := by
  have hu : (underlying 35).run Try.prog w = .ok (.array 3 3) w := run_underlying Try.underlying35 w
  have h2 : ¬ (3 : Int) ≤ (k : Int) := by omega
  have h3 : k < 3 := by omega
  have hx := get_iv (f := f) h3
  simp [Instr.index, asIntOf, Sem.run_bind, hu, h2, h3, part, isAgg_i3, size_i3, hx]
theorem ldver_K {C : Nat → Prop} {w : World} {B : Nat} {s : St} (h0 : rowD w B = stv s) (hl : Lt B w) (hC : ¬ C B) (ρ : Operand → Value) (dst : Option Tmp) (q : Operand) (ty : TypeId) (pos : String) (after : Array Edge) (g : Option (Nat × Bool)) (hx : ρ q = .pointer (some ⟨B, 105, none⟩)) :
    ∀ w', Mv C w w' → (execOp ρ ⟨dst, .load 3 q, ty, pos, after, g⟩).run Try.prog w' = .ok (.value (.int .i64 s.t.ver)) w' := by
  intro w' hE
  have hr : w'.cell? ⟨B, 105, none⟩ = some (.int .i64 s.t.ver) := by rw [cell_rowD, rowD_same (hE.same B hl hC), h0, get_st_ver]
  simp only [execOp, hx]
  go_simp
def bkF (m : Mb) (i : Nat) : Bool := thereB (m.bk i)
def mxF (m : Mb) (i : Nat) : Bool := thereB (m.mx i)
theorem sinb_any (m : Mb) (n : Int) (w : World) : Calls Try.prog 74 #[.int .u8 (backs m), .int .i64 n] w fun e w' => e = .returned (.bool (inF (bkF m) 6 n)) ∧ w = w' := sin_any (bkF m) 6 (by omega) n w
theorem sinm_any (m : Mb) (n : Int) (w : World) : Calls Try.prog 74 #[.int .u8 (muxes m), .int .i64 n] w fun e w' => e = .returned (.bool (inF (mxF m) 3 n)) ∧ w = w' := sin_any (mxF m) 3 (by omega) n w
/-- What is asked of a bucket's move. -/
def mvOk (s : St) (i : Nat) : Bool := (s.mv i).right && ((s.mv i).cur == -1 || inF (bkF s.mb) 6 (s.mv i).cur) && ((s.mv i).nxt == -1 || inF (bkF s.mb) 6 (s.mv i).nxt) && decide (0 ≤ s.set i) && decide (s.set i ≤ s.t.ver)
def hasOk (s : St) (i : Nat) : Bool := s.has i == -1 || (decide (0 ≤ s.has i) && decide (s.has i ≤ s.t.ver) && inF (mxF s.mb) 3 i)
def shOk (s : St) (x : Sh) : Bool := decide (0 ≤ x.b) && decide (x.b < 16) && inF (bkF s.mb) 6 x.t
def stR (s : St) : Bool := mbR s.mb && tbR s.t && decide (0 ≤ s.win) && decide (s.win ≤ 1099511627776) && decide (s.pl.length ≤ 16) && ((List.range 16).all fun i => mvOk s i) && ((List.range 3).all fun i => hasOk s i) && s.pl.all (shOk s)
theorem mvOk_bad (s : St) (k : Nat) (h : k < 16) (he : mvOk s k = false) : ((List.range 16).all fun i => mvOk s i) = false := List.all_eq_false.2 ⟨k, List.mem_range.2 h, by simp [he]⟩
theorem hasOk_bad (s : St) (k : Nat) (h : k < 3) (he : hasOk s k = false) : ((List.range 3).all fun i => hasOk s i) = false := List.all_eq_false.2 ⟨k, List.mem_range.2 h, by simp [he]⟩
set_option maxRecDepth 100000 in
set_option maxHeartbeats 8000000 in
theorem stright_any (s : St) (w : World) (hs : SlS w s.p s.pl) (hl : s.pl.length ≤ 1000) (h0 : ∀ i, i < 16 → 0 ≤ (s.mv i).ph) :
    Calls Try.prog 75 #[.agg (stv s)] w fun e w' => e = .returned (.bool (stR s)) ∧ Ext w w' := by
  have H0 := Lib.hid h0
  have HS := Lib.hid hs
  clear h0 hs
  go_enter Try.func75, Try.ntmps75
  go_wp2
  refine wp_scope_fwd 0 rfl ?_
  go_upto_region 1 with (fail)
  obtain ⟨W0, hW⟩ : ∃ W0, w.alloc (.cells (stv s) 38) = W0 := ⟨_, rfl⟩
  have g0 : Ext w W0 := by rw [← hW]; exact Ext.al (Ext.rf _) _
  have rx0 : rowD W0 w.heap.size = stv s := by rw [← hW]; simp [go_sem]
  have lx0 : Lt w.heap.size W0 := by rw [← hW]; simp [go_sem]
  rw [hW]
  clear hW
  refine wp_region_K (fun _ => False) (by kernel_rfl) ?_
  obtain ⟨W1, hW1⟩ : ∃ W1, W0.drew = W1 := ⟨_, rfl⟩
  have g1 : Ext W0 W1 := by rw [← hW1]; exact Ext.dr (Ext.rf _)
  rw [hW1]
  clear hW1
  have rx : rowD W1 w.heap.size = stv s := row_ext' g1 lx0 rx0
  have lx : Lt w.heap.size W1 := Nat.lt_of_lt_of_le lx0 g1.size
  refine withK (N := 12) (R := SchSrt) (E := ((Try.f75.body.bind (findR 1)).getD #[])) (by kernel_rfl) schSrt (by kernel_rfl) fun hS => ?_
  have hT := hS.2.1
  refine takeD (N := 12) (k := 0) (v := .pointer (some ⟨w.heap.size, 0, none⟩)) hS.1 hT rfl (by kernel_rfl) (fun _ _ => by kernel_rfl) fun hU => ?_
  clear hT
  have hT := hU
  clear hU
  refine takeD (N := 12) (k := 1) (v := .agg (mbv s.mb)) hS.1 hT rfl (by kernel_rfl) (ldmb_K rx lx (fun h => h) _ _ _ _ _ _ _ (by kernel_rfl)) fun hU => ?_
  clear hT
  have hT := hU
  clear hU
  refine takeD (N := 12) (k := 3) (v := .pointer (some ⟨w.heap.size, 0, none⟩)) hS.1 hT rfl (by kernel_rfl) (fun _ _ => by kernel_rfl) fun hU => ?_
  clear hT
  have hT := hU
  clear hU
  refine takeD (N := 12) (k := 4) (v := .agg (mbv s.mb)) hS.1 hT rfl (by kernel_rfl) (ldmb_K rx lx (fun h => h) _ _ _ _ _ _ _ (by kernel_rfl)) fun hU => ?_
  clear hT
  have hT := hU
  clear hU
  refine takeD (N := 12) (k := 6) (v := .pointer (some ⟨w.heap.size, 105, none⟩)) hS.1 hT rfl (by kernel_rfl) (fun _ _ => by kernel_rfl) fun hU => ?_
  clear hT
  have hT := hU
  clear hU
  refine takeD (N := 12) (k := 7) (v := .pointer (some ⟨w.heap.size, 105, none⟩)) hS.1 hT rfl (by kernel_rfl) (fun _ _ => by kernel_rfl) fun hU => ?_
  clear hT
  have hT := hU
  clear hU
  refine takeD (N := 12) (k := 8) (v := .int .i64 s.t.ver) hS.1 hT rfl (by kernel_rfl) (ldver_K rx lx (fun h => h) _ _ _ _ _ _ _ (by kernel_rfl)) fun hU => ?_
  clear hT
  have hT := hU
  clear hU
  refine soleD hS.2.2.1 (callD (R := fun v _ => v = .int .u8 (backs s.mb)) rfl rfl (by kernel_rfl) ((backs_any s.mb W1).mono fun e w' ⟨h1, h2⟩ => ⟨_, h1, rfl, h2⟩) fun v1 W2 g2 o1 => ?_)
  subst o1
  refine soleD hS.2.2.2.1 (callD (R := fun v _ => v = .int .u8 (muxes s.mb)) rfl rfl (by kernel_rfl) ((muxes_any s.mb W2).mono fun e w' ⟨h1, h2⟩ => ⟨_, h1, rfl, h2⟩) fun v2 W3 g3 o2 => ?_)
  subst o2
  refine end3D (v := .int .u8 (backs s.mb)) (v2 := .int .u8 (muxes s.mb)) (v3 := .int .i64 s.t.ver) hS.2.2.2.2.1 rfl rfl (by kernel_rfl) hS.2.2.2.2.2.1 rfl rfl (by kernel_rfl) hS.2.2.2.2.2.2.1 rfl rfl (by kernel_rfl) hS.2.2.2.2.2.2.2 ?_
  clear hS hT
  have hE0 := (g0.tr g1).tr (g2.tr g3)
  have rx : rowD W3 w.heap.size = stv s := row_ext' (g2.tr g3) lx rx
  have lx : Lt w.heap.size W3 := Nat.lt_of_lt_of_le lx (g2.tr g3).size
  clear rx0 lx0 g0 g1 g2 g3
  go_simp
  go_step
  have HR := Lib.hid rx
  have HL := Lib.hid lx
  cases h1 : mbR s.mb
  · have HN := Lib.hid (show stR s = false by unfold stR; rw [h1]; rfl)
    go_wp2_with (first | (go_at_call 87; (with_reducible refine (mbright_any s.mb _).mono ?_); rintro e w4 ⟨rfl, hb4⟩; have rx4 := row_ext' hb4 HL.out HR.out; have lx4 := Nat.lt_of_lt_of_le HL.out hb4.size) | (go_at_call 88; go_loud ((with_reducible refine (tright_any s.t _).mono ?_); rintro e w5 ⟨rfl, hb5⟩; have rx5 := row_ext' hb5 lx4 rx4; have lx5 := Nat.lt_of_lt_of_le lx4 hb5.size; have c189 : w5.cell? ⟨w.heap.size, 189, none⟩ = some (.int .i64 s.win) := (by rw [cell_rowD, rx5, get_st_win]); have c190 : w5.cell? ⟨w.heap.size, 190, none⟩ = some (.slice s.p s.pl.length s.c) := (by rw [cell_rowD, rx5, get_st_pl]); clear rx4 lx4)))
    go_step3
    refine ⟨rfl, ?_⟩
    go_wp2
    rw [Exit.noGoto_ret]
    go_ret
    exact ⟨ret_bool HN.out.symm, by (repeat (first | with_reducible exact Ext.rf _ | with_reducible assumption | with_reducible refine Ext.al ?_ _ | with_reducible refine Ext.dr ?_ | with_reducible refine Ext.dn ?_ _ | ((with_reducible refine Ext.st _ ?_ ?_); focus (first | omega | (simp; omega) | simp)) | with_reducible refine Ext.tr ?_ (by assumption) | with_reducible refine Ext.tr ?_ (up_ext (by assumption)) | with_reducible refine Ext.of (by assumption) ?_))⟩
  cases h2 : tbR s.t
  · have HN := Lib.hid (show stR s = false by unfold stR; rw [h1, h2]; rfl)
    go_wp2_with (first | (go_at_call 87; (with_reducible refine (mbright_any s.mb _).mono ?_); rintro e w4 ⟨rfl, hb4⟩; have rx4 := row_ext' hb4 HL.out HR.out; have lx4 := Nat.lt_of_lt_of_le HL.out hb4.size) | (go_at_call 88; go_loud ((with_reducible refine (tright_any s.t _).mono ?_); rintro e w5 ⟨rfl, hb5⟩; have rx5 := row_ext' hb5 lx4 rx4; have lx5 := Nat.lt_of_lt_of_le lx4 hb5.size; have c189 : w5.cell? ⟨w.heap.size, 189, none⟩ = some (.int .i64 s.win) := (by rw [cell_rowD, rx5, get_st_win]); have c190 : w5.cell? ⟨w.heap.size, 190, none⟩ = some (.slice s.p s.pl.length s.c) := (by rw [cell_rowD, rx5, get_st_pl]); clear rx4 lx4)))
    go_step3
    refine ⟨rfl, ?_⟩
    go_wp2
    rw [Exit.noGoto_ret]
    go_ret
    exact ⟨ret_bool HN.out.symm, by (repeat (first | with_reducible exact Ext.rf _ | with_reducible assumption | with_reducible refine Ext.al ?_ _ | with_reducible refine Ext.dr ?_ | with_reducible refine Ext.dn ?_ _ | ((with_reducible refine Ext.st _ ?_ ?_); focus (first | omega | (simp; omega) | simp)) | with_reducible refine Ext.tr ?_ (by assumption) | with_reducible refine Ext.tr ?_ (up_ext (by assumption)) | with_reducible refine Ext.of (by assumption) ?_))⟩
  cases h3 : decide (s.win < 0)
  case true =>
    have h3' := of_decide_eq_true h3
    have HN := Lib.hid (show stR s = false by unfold stR; rw [h1, h2, decide_eq_false (show ¬ 0 ≤ s.win by omega)]; rfl)
    go_wp2_with (first | (go_at_call 87; (with_reducible refine (mbright_any s.mb _).mono ?_); rintro e w4 ⟨rfl, hb4⟩; have rx4 := row_ext' hb4 HL.out HR.out; have lx4 := Nat.lt_of_lt_of_le HL.out hb4.size) | (go_at_call 88; go_loud ((with_reducible refine (tright_any s.t _).mono ?_); rintro e w5 ⟨rfl, hb5⟩; have rx5 := row_ext' hb5 lx4 rx4; have lx5 := Nat.lt_of_lt_of_le lx4 hb5.size; have c189 : w5.cell? ⟨w.heap.size, 189, none⟩ = some (.int .i64 s.win) := (by rw [cell_rowD, rx5, get_st_win]); have c190 : w5.cell? ⟨w.heap.size, 190, none⟩ = some (.slice s.p s.pl.length s.c) := (by rw [cell_rowD, rx5, get_st_pl]); clear rx4 lx4)))
    go_step3
    refine ⟨rfl, ?_⟩
    go_wp2
    rw [Exit.noGoto_ret]
    go_ret
    exact ⟨ret_bool HN.out.symm, by (repeat (first | with_reducible exact Ext.rf _ | with_reducible assumption | with_reducible refine Ext.al ?_ _ | with_reducible refine Ext.dr ?_ | with_reducible refine Ext.dn ?_ _ | ((with_reducible refine Ext.st _ ?_ ?_); focus (first | omega | (simp; omega) | simp)) | with_reducible refine Ext.tr ?_ (by assumption) | with_reducible refine Ext.tr ?_ (up_ext (by assumption)) | with_reducible refine Ext.of (by assumption) ?_))⟩
  have h3' := of_decide_eq_false h3
  cases h4 : decide (1099511627776 < s.win)
  case true =>
    have h4' := of_decide_eq_true h4
    have HN := Lib.hid (show stR s = false by unfold stR; rw [h1, h2, decide_eq_true (show 0 ≤ s.win by omega), decide_eq_false (show ¬ s.win ≤ 1099511627776 by omega)]; rfl)
    go_wp2_with (first | (go_at_call 87; (with_reducible refine (mbright_any s.mb _).mono ?_); rintro e w4 ⟨rfl, hb4⟩; have rx4 := row_ext' hb4 HL.out HR.out; have lx4 := Nat.lt_of_lt_of_le HL.out hb4.size) | (go_at_call 88; go_loud ((with_reducible refine (tright_any s.t _).mono ?_); rintro e w5 ⟨rfl, hb5⟩; have rx5 := row_ext' hb5 lx4 rx4; have lx5 := Nat.lt_of_lt_of_le lx4 hb5.size; have c189 : w5.cell? ⟨w.heap.size, 189, none⟩ = some (.int .i64 s.win) := (by rw [cell_rowD, rx5, get_st_win]); have c190 : w5.cell? ⟨w.heap.size, 190, none⟩ = some (.slice s.p s.pl.length s.c) := (by rw [cell_rowD, rx5, get_st_pl]); clear rx4 lx4)))
    go_step3
    refine ⟨rfl, ?_⟩
    go_wp2
    rw [Exit.noGoto_ret]
    go_ret
    exact ⟨ret_bool HN.out.symm, by (repeat (first | with_reducible exact Ext.rf _ | with_reducible assumption | with_reducible refine Ext.al ?_ _ | with_reducible refine Ext.dr ?_ | with_reducible refine Ext.dn ?_ _ | ((with_reducible refine Ext.st _ ?_ ?_); focus (first | omega | (simp; omega) | simp)) | with_reducible refine Ext.tr ?_ (by assumption) | with_reducible refine Ext.tr ?_ (up_ext (by assumption)) | with_reducible refine Ext.of (by assumption) ?_))⟩
  have h4' := of_decide_eq_false h4
  cases h5 : decide (16 < (s.pl.length : Int))
  case true =>
    have h5' := of_decide_eq_true h5
    have HN := Lib.hid (show stR s = false by unfold stR; rw [h1, h2, decide_eq_true (show 0 ≤ s.win by omega), decide_eq_true (show s.win ≤ 1099511627776 by omega), decide_eq_false (show ¬ s.pl.length ≤ 16 by omega)]; rfl)
    go_wp2_with (first | (go_at_call 87; (with_reducible refine (mbright_any s.mb _).mono ?_); rintro e w4 ⟨rfl, hb4⟩; have rx4 := row_ext' hb4 HL.out HR.out; have lx4 := Nat.lt_of_lt_of_le HL.out hb4.size) | (go_at_call 88; go_loud ((with_reducible refine (tright_any s.t _).mono ?_); rintro e w5 ⟨rfl, hb5⟩; have rx5 := row_ext' hb5 lx4 rx4; have lx5 := Nat.lt_of_lt_of_le lx4 hb5.size; have c189 : w5.cell? ⟨w.heap.size, 189, none⟩ = some (.int .i64 s.win) := (by rw [cell_rowD, rx5, get_st_win]); have c190 : w5.cell? ⟨w.heap.size, 190, none⟩ = some (.slice s.p s.pl.length s.c) := (by rw [cell_rowD, rx5, get_st_pl]); clear rx4 lx4)))
    go_step3
    refine ⟨rfl, ?_⟩
    go_wp2
    rw [Exit.noGoto_ret]
    go_ret
    exact ⟨ret_bool HN.out.symm, by (repeat (first | with_reducible exact Ext.rf _ | with_reducible assumption | with_reducible refine Ext.al ?_ _ | with_reducible refine Ext.dr ?_ | with_reducible refine Ext.dn ?_ _ | ((with_reducible refine Ext.st _ ?_ ?_); focus (first | omega | (simp; omega) | simp)) | with_reducible refine Ext.tr ?_ (by assumption) | with_reducible refine Ext.tr ?_ (up_ext (by assumption)) | with_reducible refine Ext.of (by assumption) ?_))⟩
  have h5' := of_decide_eq_false h5
  have HN := Lib.hid (show stR s = (((List.range 16).all fun i => mvOk s i) && ((List.range 3).all fun i => hasOk s i) && s.pl.all (shOk s)) by
    unfold stR; rw [h1, h2, decide_eq_true (show 0 ≤ s.win by omega), decide_eq_true (show s.win ≤ 1099511627776 by omega), decide_eq_true (show s.pl.length ≤ 16 by omega)]; simp)
  go_wp2_with (first | (go_at_call 87; (with_reducible refine (mbright_any s.mb _).mono ?_); rintro e w4 ⟨rfl, hb4⟩; have rx4 := row_ext' hb4 HL.out HR.out; have lx4 := Nat.lt_of_lt_of_le HL.out hb4.size) | (go_at_call 88; go_loud ((with_reducible refine (tright_any s.t _).mono ?_); rintro e w5 ⟨rfl, hb5⟩; have rx5 := row_ext' hb5 lx4 rx4; have lx5 := Nat.lt_of_lt_of_le lx4 hb5.size; have c189 : w5.cell? ⟨w.heap.size, 189, none⟩ = some (.int .i64 s.win) := (by rw [cell_rowD, rx5, get_st_win]); have c190 : w5.cell? ⟨w.heap.size, 190, none⟩ = some (.slice s.p s.pl.length s.c) := (by rw [cell_rowD, rx5, get_st_pl]); clear rx4 lx4)))
  have hE5 : Ext w w5 := by (repeat (first | with_reducible exact Ext.rf _ | with_reducible assumption | with_reducible refine Ext.al ?_ _ | with_reducible refine Ext.dr ?_ | with_reducible refine Ext.dn ?_ _ | ((with_reducible refine Ext.st _ ?_ ?_); focus (first | omega | (simp; omega) | simp)) | with_reducible refine Ext.tr ?_ (by assumption) | with_reducible refine Ext.tr ?_ (up_ext (by assumption)) | with_reducible refine Ext.of (by assumption) ?_))
  clear c189 c190 hb4 hb5 HR HL rx lx
  go_loopw [49] (fun a wr => ∃ k : Nat, k ≤ 16 ∧ a = .int .i64 k ∧ (∀ j, j < k → mvOk s j = true) ∧ rowD wr w.heap.size = stv s ∧ Lt w.heap.size wr ∧ Ext w wr) (fun a _ => 16 - (intOf a).toNat)
  case atStart => exact ⟨0, Nat.zero_le _, rfl, fun j hj => by omega, rx5, lx5, hE5⟩
  case round =>
    clear hE5 rx5 lx5
    obtain ⟨k, hk, rfl, ha, hR, hL, hE⟩ := hrel
    have HA := Lib.hid ha
    have HR := Lib.hid hR
    clear ha
    by_cases hlt : k < 16
    · have hlt' : (k : Int) < 16 := by omega
      have H0k := H0.out k hlt
      have ct : wr.cell? ⟨w.heap.size, 170 + k, none⟩ = some (.int .i64 (s.set k)) := by rw [cell_rowD, hR, get_st_set s k hlt]
      clear hR
      cases e1 : (s.mv k).right
      case false =>
        have HB := Lib.hid (show stR s = false by
          rw [HN.out, mvOk_bad s k hlt (by unfold mvOk; simp_all <;> omega)]; rfl)
        go_wp2_with (first | (go_at_call 89; (with_reducible refine (mright_any (s.mv k) _ H0k).mono ?_); rintro e w6 ⟨rfl, hb6⟩; have hE6 := (Ext.al hE _).tr hb6; have hL6 : Lt w.heap.size w6 := Nat.lt_of_lt_of_le hL (Nat.le_trans (by simp) hb6.size); have hR6 := Lib.hid (row_ext' ((Ext.al (Ext.rf _) _).tr hb6) hL HR.out); have ct6 : w6.cell? ⟨w.heap.size, 170 + k, none⟩ = some (.int .i64 (s.set k)) := (((Ext.al (Ext.rf _) _).tr hb6).cell (p := ⟨w.heap.size, 170 + k, none⟩) hL).trans ct; have m1 : w6.cell? ⟨wr.heap.size, 1, none⟩ = some (.int .i64 (s.mv k).cur) := (hb6.cell (p := ⟨wr.heap.size, 1, none⟩) (by simp)).trans (by simp [go_sem]); have m2 : w6.cell? ⟨wr.heap.size, 2, none⟩ = some (.int .i64 (s.mv k).nxt) := (hb6.cell (p := ⟨wr.heap.size, 2, none⟩) (by simp)).trans (by simp [go_sem])) | (go_at_call 74; (with_reducible refine (sinb_any _ _ _).mono ?_); rintro e w' ⟨rfl, rfl⟩))
        go_step3
        simp only [Exit.inBlock, Exit.then, Exit.jump]
        refine ⟨rfl, ?_⟩
        go_wp2
        rw [Exit.noGoto_ret]
        go_ret
        exact ⟨ret_bool HB.out.symm, by (repeat (first | with_reducible exact Ext.rf _ | with_reducible assumption | with_reducible refine Ext.al ?_ _ | with_reducible refine Ext.dr ?_ | with_reducible refine Ext.dn ?_ _ | ((with_reducible refine Ext.st _ ?_ ?_); focus (first | omega | (simp; omega) | simp)) | with_reducible refine Ext.tr ?_ (by assumption) | with_reducible refine Ext.tr ?_ (up_ext (by assumption)) | with_reducible refine Ext.of (by assumption) ?_))⟩
      case true =>
        cases e2 : ((s.mv k).cur != -1)
        case false =>
          cases e4 : ((s.mv k).nxt != -1)
          case false =>
            cases e6 : decide (s.set k < 0)
            case false =>
              cases e7 : decide (s.t.ver < s.set k)
              case false =>
                have d6 := of_decide_eq_false e6
                have d7 := of_decide_eq_false e7
                have HB := Lib.hid (show mvOk s k = true by unfold mvOk; simp_all <;> omega)
                go_wp2_with (first | (go_at_call 89; (with_reducible refine (mright_any (s.mv k) _ H0k).mono ?_); rintro e w6 ⟨rfl, hb6⟩; have hE6 := (Ext.al hE _).tr hb6; have hL6 : Lt w.heap.size w6 := Nat.lt_of_lt_of_le hL (Nat.le_trans (by simp) hb6.size); have hR6 := Lib.hid (row_ext' ((Ext.al (Ext.rf _) _).tr hb6) hL HR.out); have ct6 : w6.cell? ⟨w.heap.size, 170 + k, none⟩ = some (.int .i64 (s.set k)) := (((Ext.al (Ext.rf _) _).tr hb6).cell (p := ⟨w.heap.size, 170 + k, none⟩) hL).trans ct; have m1 : w6.cell? ⟨wr.heap.size, 1, none⟩ = some (.int .i64 (s.mv k).cur) := (hb6.cell (p := ⟨wr.heap.size, 1, none⟩) (by simp)).trans (by simp [go_sem]); have m2 : w6.cell? ⟨wr.heap.size, 2, none⟩ = some (.int .i64 (s.mv k).nxt) := (hb6.cell (p := ⟨wr.heap.size, 2, none⟩) (by simp)).trans (by simp [go_sem])) | (go_at_call 74; (with_reducible refine (sinb_any _ _ _).mono ?_); rintro e w' ⟨rfl, rfl⟩))
                go_roundw
                case rel => exact ⟨k + 1, by omega, by go_num, fun j hj => by rcases Nat.lt_or_ge j k with h | h; exact HA.out j h; (obtain rfl : j = k := by omega); exact HB.out, hR6.out, hL6, hE6⟩
                case measure => simp [intOf]; omega
              case true =>
                have d6 := of_decide_eq_false e6
                have d7 := of_decide_eq_true e7
                have HB := Lib.hid (show stR s = false by
                  rw [HN.out, mvOk_bad s k hlt (by unfold mvOk; simp_all <;> omega)]; rfl)
                go_wp2_with (first | (go_at_call 89; (with_reducible refine (mright_any (s.mv k) _ H0k).mono ?_); rintro e w6 ⟨rfl, hb6⟩; have hE6 := (Ext.al hE _).tr hb6; have hL6 : Lt w.heap.size w6 := Nat.lt_of_lt_of_le hL (Nat.le_trans (by simp) hb6.size); have hR6 := Lib.hid (row_ext' ((Ext.al (Ext.rf _) _).tr hb6) hL HR.out); have ct6 : w6.cell? ⟨w.heap.size, 170 + k, none⟩ = some (.int .i64 (s.set k)) := (((Ext.al (Ext.rf _) _).tr hb6).cell (p := ⟨w.heap.size, 170 + k, none⟩) hL).trans ct; have m1 : w6.cell? ⟨wr.heap.size, 1, none⟩ = some (.int .i64 (s.mv k).cur) := (hb6.cell (p := ⟨wr.heap.size, 1, none⟩) (by simp)).trans (by simp [go_sem]); have m2 : w6.cell? ⟨wr.heap.size, 2, none⟩ = some (.int .i64 (s.mv k).nxt) := (hb6.cell (p := ⟨wr.heap.size, 2, none⟩) (by simp)).trans (by simp [go_sem])) | (go_at_call 74; (with_reducible refine (sinb_any _ _ _).mono ?_); rintro e w' ⟨rfl, rfl⟩))
                go_step3
                simp only [Exit.inBlock, Exit.then, Exit.jump]
                refine ⟨rfl, ?_⟩
                go_wp2
                rw [Exit.noGoto_ret]
                go_ret
                exact ⟨ret_bool HB.out.symm, by (repeat (first | with_reducible exact Ext.rf _ | with_reducible assumption | with_reducible refine Ext.al ?_ _ | with_reducible refine Ext.dr ?_ | with_reducible refine Ext.dn ?_ _ | ((with_reducible refine Ext.st _ ?_ ?_); focus (first | omega | (simp; omega) | simp)) | with_reducible refine Ext.tr ?_ (by assumption) | with_reducible refine Ext.tr ?_ (up_ext (by assumption)) | with_reducible refine Ext.of (by assumption) ?_))⟩
            case true =>
              have d6 := of_decide_eq_true e6
              have HB := Lib.hid (show stR s = false by
                rw [HN.out, mvOk_bad s k hlt (by unfold mvOk; simp_all <;> omega)]; rfl)
              go_wp2_with (first | (go_at_call 89; (with_reducible refine (mright_any (s.mv k) _ H0k).mono ?_); rintro e w6 ⟨rfl, hb6⟩; have hE6 := (Ext.al hE _).tr hb6; have hL6 : Lt w.heap.size w6 := Nat.lt_of_lt_of_le hL (Nat.le_trans (by simp) hb6.size); have hR6 := Lib.hid (row_ext' ((Ext.al (Ext.rf _) _).tr hb6) hL HR.out); have ct6 : w6.cell? ⟨w.heap.size, 170 + k, none⟩ = some (.int .i64 (s.set k)) := (((Ext.al (Ext.rf _) _).tr hb6).cell (p := ⟨w.heap.size, 170 + k, none⟩) hL).trans ct; have m1 : w6.cell? ⟨wr.heap.size, 1, none⟩ = some (.int .i64 (s.mv k).cur) := (hb6.cell (p := ⟨wr.heap.size, 1, none⟩) (by simp)).trans (by simp [go_sem]); have m2 : w6.cell? ⟨wr.heap.size, 2, none⟩ = some (.int .i64 (s.mv k).nxt) := (hb6.cell (p := ⟨wr.heap.size, 2, none⟩) (by simp)).trans (by simp [go_sem])) | (go_at_call 74; (with_reducible refine (sinb_any _ _ _).mono ?_); rintro e w' ⟨rfl, rfl⟩))
              go_step3
              simp only [Exit.inBlock, Exit.then, Exit.jump]
              refine ⟨rfl, ?_⟩
              go_wp2
              rw [Exit.noGoto_ret]
              go_ret
              exact ⟨ret_bool HB.out.symm, by (repeat (first | with_reducible exact Ext.rf _ | with_reducible assumption | with_reducible refine Ext.al ?_ _ | with_reducible refine Ext.dr ?_ | with_reducible refine Ext.dn ?_ _ | ((with_reducible refine Ext.st _ ?_ ?_); focus (first | omega | (simp; omega) | simp)) | with_reducible refine Ext.tr ?_ (by assumption) | with_reducible refine Ext.tr ?_ (up_ext (by assumption)) | with_reducible refine Ext.of (by assumption) ?_))⟩
          case true =>
            cases e5 : inF (bkF s.mb) 6 (s.mv k).nxt
            case false =>
              have HB := Lib.hid (show stR s = false by
                rw [HN.out, mvOk_bad s k hlt (by unfold mvOk; simp_all <;> omega)]; rfl)
              go_wp2_with (first | (go_at_call 89; (with_reducible refine (mright_any (s.mv k) _ H0k).mono ?_); rintro e w6 ⟨rfl, hb6⟩; have hE6 := (Ext.al hE _).tr hb6; have hL6 : Lt w.heap.size w6 := Nat.lt_of_lt_of_le hL (Nat.le_trans (by simp) hb6.size); have hR6 := Lib.hid (row_ext' ((Ext.al (Ext.rf _) _).tr hb6) hL HR.out); have ct6 : w6.cell? ⟨w.heap.size, 170 + k, none⟩ = some (.int .i64 (s.set k)) := (((Ext.al (Ext.rf _) _).tr hb6).cell (p := ⟨w.heap.size, 170 + k, none⟩) hL).trans ct; have m1 : w6.cell? ⟨wr.heap.size, 1, none⟩ = some (.int .i64 (s.mv k).cur) := (hb6.cell (p := ⟨wr.heap.size, 1, none⟩) (by simp)).trans (by simp [go_sem]); have m2 : w6.cell? ⟨wr.heap.size, 2, none⟩ = some (.int .i64 (s.mv k).nxt) := (hb6.cell (p := ⟨wr.heap.size, 2, none⟩) (by simp)).trans (by simp [go_sem])) | (go_at_call 74; (with_reducible refine (sinb_any _ _ _).mono ?_); rintro e w' ⟨rfl, rfl⟩))
              go_step3
              simp only [Exit.inBlock, Exit.then, Exit.jump]
              refine ⟨rfl, ?_⟩
              go_wp2
              rw [Exit.noGoto_ret]
              go_ret
              exact ⟨ret_bool HB.out.symm, by (repeat (first | with_reducible exact Ext.rf _ | with_reducible assumption | with_reducible refine Ext.al ?_ _ | with_reducible refine Ext.dr ?_ | with_reducible refine Ext.dn ?_ _ | ((with_reducible refine Ext.st _ ?_ ?_); focus (first | omega | (simp; omega) | simp)) | with_reducible refine Ext.tr ?_ (by assumption) | with_reducible refine Ext.tr ?_ (up_ext (by assumption)) | with_reducible refine Ext.of (by assumption) ?_))⟩
            case true =>
              cases e6 : decide (s.set k < 0)
              case false =>
                cases e7 : decide (s.t.ver < s.set k)
                case false =>
                  have d6 := of_decide_eq_false e6
                  have d7 := of_decide_eq_false e7
                  have HB := Lib.hid (show mvOk s k = true by unfold mvOk; simp_all <;> omega)
                  go_wp2_with (first | (go_at_call 89; (with_reducible refine (mright_any (s.mv k) _ H0k).mono ?_); rintro e w6 ⟨rfl, hb6⟩; have hE6 := (Ext.al hE _).tr hb6; have hL6 : Lt w.heap.size w6 := Nat.lt_of_lt_of_le hL (Nat.le_trans (by simp) hb6.size); have hR6 := Lib.hid (row_ext' ((Ext.al (Ext.rf _) _).tr hb6) hL HR.out); have ct6 : w6.cell? ⟨w.heap.size, 170 + k, none⟩ = some (.int .i64 (s.set k)) := (((Ext.al (Ext.rf _) _).tr hb6).cell (p := ⟨w.heap.size, 170 + k, none⟩) hL).trans ct; have m1 : w6.cell? ⟨wr.heap.size, 1, none⟩ = some (.int .i64 (s.mv k).cur) := (hb6.cell (p := ⟨wr.heap.size, 1, none⟩) (by simp)).trans (by simp [go_sem]); have m2 : w6.cell? ⟨wr.heap.size, 2, none⟩ = some (.int .i64 (s.mv k).nxt) := (hb6.cell (p := ⟨wr.heap.size, 2, none⟩) (by simp)).trans (by simp [go_sem])) | (go_at_call 74; (with_reducible refine (sinb_any _ _ _).mono ?_); rintro e w' ⟨rfl, rfl⟩))
                  go_roundw
                  case rel => exact ⟨k + 1, by omega, by go_num, fun j hj => by rcases Nat.lt_or_ge j k with h | h; exact HA.out j h; (obtain rfl : j = k := by omega); exact HB.out, hR6.out, hL6, hE6⟩
                  case measure => simp [intOf]; omega
                case true =>
                  have d6 := of_decide_eq_false e6
                  have d7 := of_decide_eq_true e7
                  have HB := Lib.hid (show stR s = false by
                    rw [HN.out, mvOk_bad s k hlt (by unfold mvOk; simp_all <;> omega)]; rfl)
                  go_wp2_with (first | (go_at_call 89; (with_reducible refine (mright_any (s.mv k) _ H0k).mono ?_); rintro e w6 ⟨rfl, hb6⟩; have hE6 := (Ext.al hE _).tr hb6; have hL6 : Lt w.heap.size w6 := Nat.lt_of_lt_of_le hL (Nat.le_trans (by simp) hb6.size); have hR6 := Lib.hid (row_ext' ((Ext.al (Ext.rf _) _).tr hb6) hL HR.out); have ct6 : w6.cell? ⟨w.heap.size, 170 + k, none⟩ = some (.int .i64 (s.set k)) := (((Ext.al (Ext.rf _) _).tr hb6).cell (p := ⟨w.heap.size, 170 + k, none⟩) hL).trans ct; have m1 : w6.cell? ⟨wr.heap.size, 1, none⟩ = some (.int .i64 (s.mv k).cur) := (hb6.cell (p := ⟨wr.heap.size, 1, none⟩) (by simp)).trans (by simp [go_sem]); have m2 : w6.cell? ⟨wr.heap.size, 2, none⟩ = some (.int .i64 (s.mv k).nxt) := (hb6.cell (p := ⟨wr.heap.size, 2, none⟩) (by simp)).trans (by simp [go_sem])) | (go_at_call 74; (with_reducible refine (sinb_any _ _ _).mono ?_); rintro e w' ⟨rfl, rfl⟩))
                  go_step3
                  simp only [Exit.inBlock, Exit.then, Exit.jump]
                  refine ⟨rfl, ?_⟩
                  go_wp2
                  rw [Exit.noGoto_ret]
                  go_ret
                  exact ⟨ret_bool HB.out.symm, by (repeat (first | with_reducible exact Ext.rf _ | with_reducible assumption | with_reducible refine Ext.al ?_ _ | with_reducible refine Ext.dr ?_ | with_reducible refine Ext.dn ?_ _ | ((with_reducible refine Ext.st _ ?_ ?_); focus (first | omega | (simp; omega) | simp)) | with_reducible refine Ext.tr ?_ (by assumption) | with_reducible refine Ext.tr ?_ (up_ext (by assumption)) | with_reducible refine Ext.of (by assumption) ?_))⟩
              case true =>
                have d6 := of_decide_eq_true e6
                have HB := Lib.hid (show stR s = false by
                  rw [HN.out, mvOk_bad s k hlt (by unfold mvOk; simp_all <;> omega)]; rfl)
                go_wp2_with (first | (go_at_call 89; (with_reducible refine (mright_any (s.mv k) _ H0k).mono ?_); rintro e w6 ⟨rfl, hb6⟩; have hE6 := (Ext.al hE _).tr hb6; have hL6 : Lt w.heap.size w6 := Nat.lt_of_lt_of_le hL (Nat.le_trans (by simp) hb6.size); have hR6 := Lib.hid (row_ext' ((Ext.al (Ext.rf _) _).tr hb6) hL HR.out); have ct6 : w6.cell? ⟨w.heap.size, 170 + k, none⟩ = some (.int .i64 (s.set k)) := (((Ext.al (Ext.rf _) _).tr hb6).cell (p := ⟨w.heap.size, 170 + k, none⟩) hL).trans ct; have m1 : w6.cell? ⟨wr.heap.size, 1, none⟩ = some (.int .i64 (s.mv k).cur) := (hb6.cell (p := ⟨wr.heap.size, 1, none⟩) (by simp)).trans (by simp [go_sem]); have m2 : w6.cell? ⟨wr.heap.size, 2, none⟩ = some (.int .i64 (s.mv k).nxt) := (hb6.cell (p := ⟨wr.heap.size, 2, none⟩) (by simp)).trans (by simp [go_sem])) | (go_at_call 74; (with_reducible refine (sinb_any _ _ _).mono ?_); rintro e w' ⟨rfl, rfl⟩))
                go_step3
                simp only [Exit.inBlock, Exit.then, Exit.jump]
                refine ⟨rfl, ?_⟩
                go_wp2
                rw [Exit.noGoto_ret]
                go_ret
                exact ⟨ret_bool HB.out.symm, by (repeat (first | with_reducible exact Ext.rf _ | with_reducible assumption | with_reducible refine Ext.al ?_ _ | with_reducible refine Ext.dr ?_ | with_reducible refine Ext.dn ?_ _ | ((with_reducible refine Ext.st _ ?_ ?_); focus (first | omega | (simp; omega) | simp)) | with_reducible refine Ext.tr ?_ (by assumption) | with_reducible refine Ext.tr ?_ (up_ext (by assumption)) | with_reducible refine Ext.of (by assumption) ?_))⟩
        case true =>
          cases e3 : inF (bkF s.mb) 6 (s.mv k).cur
          case false =>
            have HB := Lib.hid (show stR s = false by
              rw [HN.out, mvOk_bad s k hlt (by unfold mvOk; simp_all <;> omega)]; rfl)
            go_wp2_with (first | (go_at_call 89; (with_reducible refine (mright_any (s.mv k) _ H0k).mono ?_); rintro e w6 ⟨rfl, hb6⟩; have hE6 := (Ext.al hE _).tr hb6; have hL6 : Lt w.heap.size w6 := Nat.lt_of_lt_of_le hL (Nat.le_trans (by simp) hb6.size); have hR6 := Lib.hid (row_ext' ((Ext.al (Ext.rf _) _).tr hb6) hL HR.out); have ct6 : w6.cell? ⟨w.heap.size, 170 + k, none⟩ = some (.int .i64 (s.set k)) := (((Ext.al (Ext.rf _) _).tr hb6).cell (p := ⟨w.heap.size, 170 + k, none⟩) hL).trans ct; have m1 : w6.cell? ⟨wr.heap.size, 1, none⟩ = some (.int .i64 (s.mv k).cur) := (hb6.cell (p := ⟨wr.heap.size, 1, none⟩) (by simp)).trans (by simp [go_sem]); have m2 : w6.cell? ⟨wr.heap.size, 2, none⟩ = some (.int .i64 (s.mv k).nxt) := (hb6.cell (p := ⟨wr.heap.size, 2, none⟩) (by simp)).trans (by simp [go_sem])) | (go_at_call 74; (with_reducible refine (sinb_any _ _ _).mono ?_); rintro e w' ⟨rfl, rfl⟩))
            go_step3
            simp only [Exit.inBlock, Exit.then, Exit.jump]
            refine ⟨rfl, ?_⟩
            go_wp2
            rw [Exit.noGoto_ret]
            go_ret
            exact ⟨ret_bool HB.out.symm, by (repeat (first | with_reducible exact Ext.rf _ | with_reducible assumption | with_reducible refine Ext.al ?_ _ | with_reducible refine Ext.dr ?_ | with_reducible refine Ext.dn ?_ _ | ((with_reducible refine Ext.st _ ?_ ?_); focus (first | omega | (simp; omega) | simp)) | with_reducible refine Ext.tr ?_ (by assumption) | with_reducible refine Ext.tr ?_ (up_ext (by assumption)) | with_reducible refine Ext.of (by assumption) ?_))⟩
          case true =>
            cases e4 : ((s.mv k).nxt != -1)
            case false =>
              cases e6 : decide (s.set k < 0)
              case false =>
                cases e7 : decide (s.t.ver < s.set k)
                case false =>
                  have d6 := of_decide_eq_false e6
                  have d7 := of_decide_eq_false e7
                  have HB := Lib.hid (show mvOk s k = true by unfold mvOk; simp_all <;> omega)
                  go_wp2_with (first | (go_at_call 89; (with_reducible refine (mright_any (s.mv k) _ H0k).mono ?_); rintro e w6 ⟨rfl, hb6⟩; have hE6 := (Ext.al hE _).tr hb6; have hL6 : Lt w.heap.size w6 := Nat.lt_of_lt_of_le hL (Nat.le_trans (by simp) hb6.size); have hR6 := Lib.hid (row_ext' ((Ext.al (Ext.rf _) _).tr hb6) hL HR.out); have ct6 : w6.cell? ⟨w.heap.size, 170 + k, none⟩ = some (.int .i64 (s.set k)) := (((Ext.al (Ext.rf _) _).tr hb6).cell (p := ⟨w.heap.size, 170 + k, none⟩) hL).trans ct; have m1 : w6.cell? ⟨wr.heap.size, 1, none⟩ = some (.int .i64 (s.mv k).cur) := (hb6.cell (p := ⟨wr.heap.size, 1, none⟩) (by simp)).trans (by simp [go_sem]); have m2 : w6.cell? ⟨wr.heap.size, 2, none⟩ = some (.int .i64 (s.mv k).nxt) := (hb6.cell (p := ⟨wr.heap.size, 2, none⟩) (by simp)).trans (by simp [go_sem])) | (go_at_call 74; (with_reducible refine (sinb_any _ _ _).mono ?_); rintro e w' ⟨rfl, rfl⟩))
                  go_roundw
                  case rel => exact ⟨k + 1, by omega, by go_num, fun j hj => by rcases Nat.lt_or_ge j k with h | h; exact HA.out j h; (obtain rfl : j = k := by omega); exact HB.out, hR6.out, hL6, hE6⟩
                  case measure => simp [intOf]; omega
                case true =>
                  have d6 := of_decide_eq_false e6
                  have d7 := of_decide_eq_true e7
                  have HB := Lib.hid (show stR s = false by
                    rw [HN.out, mvOk_bad s k hlt (by unfold mvOk; simp_all <;> omega)]; rfl)
                  go_wp2_with (first | (go_at_call 89; (with_reducible refine (mright_any (s.mv k) _ H0k).mono ?_); rintro e w6 ⟨rfl, hb6⟩; have hE6 := (Ext.al hE _).tr hb6; have hL6 : Lt w.heap.size w6 := Nat.lt_of_lt_of_le hL (Nat.le_trans (by simp) hb6.size); have hR6 := Lib.hid (row_ext' ((Ext.al (Ext.rf _) _).tr hb6) hL HR.out); have ct6 : w6.cell? ⟨w.heap.size, 170 + k, none⟩ = some (.int .i64 (s.set k)) := (((Ext.al (Ext.rf _) _).tr hb6).cell (p := ⟨w.heap.size, 170 + k, none⟩) hL).trans ct; have m1 : w6.cell? ⟨wr.heap.size, 1, none⟩ = some (.int .i64 (s.mv k).cur) := (hb6.cell (p := ⟨wr.heap.size, 1, none⟩) (by simp)).trans (by simp [go_sem]); have m2 : w6.cell? ⟨wr.heap.size, 2, none⟩ = some (.int .i64 (s.mv k).nxt) := (hb6.cell (p := ⟨wr.heap.size, 2, none⟩) (by simp)).trans (by simp [go_sem])) | (go_at_call 74; (with_reducible refine (sinb_any _ _ _).mono ?_); rintro e w' ⟨rfl, rfl⟩))
                  go_step3
                  simp only [Exit.inBlock, Exit.then, Exit.jump]
                  refine ⟨rfl, ?_⟩
                  go_wp2
                  rw [Exit.noGoto_ret]
                  go_ret
                  exact ⟨ret_bool HB.out.symm, by (repeat (first | with_reducible exact Ext.rf _ | with_reducible assumption | with_reducible refine Ext.al ?_ _ | with_reducible refine Ext.dr ?_ | with_reducible refine Ext.dn ?_ _ | ((with_reducible refine Ext.st _ ?_ ?_); focus (first | omega | (simp; omega) | simp)) | with_reducible refine Ext.tr ?_ (by assumption) | with_reducible refine Ext.tr ?_ (up_ext (by assumption)) | with_reducible refine Ext.of (by assumption) ?_))⟩
              case true =>
                have d6 := of_decide_eq_true e6
                have HB := Lib.hid (show stR s = false by
                  rw [HN.out, mvOk_bad s k hlt (by unfold mvOk; simp_all <;> omega)]; rfl)
                go_wp2_with (first | (go_at_call 89; (with_reducible refine (mright_any (s.mv k) _ H0k).mono ?_); rintro e w6 ⟨rfl, hb6⟩; have hE6 := (Ext.al hE _).tr hb6; have hL6 : Lt w.heap.size w6 := Nat.lt_of_lt_of_le hL (Nat.le_trans (by simp) hb6.size); have hR6 := Lib.hid (row_ext' ((Ext.al (Ext.rf _) _).tr hb6) hL HR.out); have ct6 : w6.cell? ⟨w.heap.size, 170 + k, none⟩ = some (.int .i64 (s.set k)) := (((Ext.al (Ext.rf _) _).tr hb6).cell (p := ⟨w.heap.size, 170 + k, none⟩) hL).trans ct; have m1 : w6.cell? ⟨wr.heap.size, 1, none⟩ = some (.int .i64 (s.mv k).cur) := (hb6.cell (p := ⟨wr.heap.size, 1, none⟩) (by simp)).trans (by simp [go_sem]); have m2 : w6.cell? ⟨wr.heap.size, 2, none⟩ = some (.int .i64 (s.mv k).nxt) := (hb6.cell (p := ⟨wr.heap.size, 2, none⟩) (by simp)).trans (by simp [go_sem])) | (go_at_call 74; (with_reducible refine (sinb_any _ _ _).mono ?_); rintro e w' ⟨rfl, rfl⟩))
                go_step3
                simp only [Exit.inBlock, Exit.then, Exit.jump]
                refine ⟨rfl, ?_⟩
                go_wp2
                rw [Exit.noGoto_ret]
                go_ret
                exact ⟨ret_bool HB.out.symm, by (repeat (first | with_reducible exact Ext.rf _ | with_reducible assumption | with_reducible refine Ext.al ?_ _ | with_reducible refine Ext.dr ?_ | with_reducible refine Ext.dn ?_ _ | ((with_reducible refine Ext.st _ ?_ ?_); focus (first | omega | (simp; omega) | simp)) | with_reducible refine Ext.tr ?_ (by assumption) | with_reducible refine Ext.tr ?_ (up_ext (by assumption)) | with_reducible refine Ext.of (by assumption) ?_))⟩
            case true =>
              cases e5 : inF (bkF s.mb) 6 (s.mv k).nxt
              case false =>
                have HB := Lib.hid (show stR s = false by
                  rw [HN.out, mvOk_bad s k hlt (by unfold mvOk; simp_all <;> omega)]; rfl)
                go_wp2_with (first | (go_at_call 89; (with_reducible refine (mright_any (s.mv k) _ H0k).mono ?_); rintro e w6 ⟨rfl, hb6⟩; have hE6 := (Ext.al hE _).tr hb6; have hL6 : Lt w.heap.size w6 := Nat.lt_of_lt_of_le hL (Nat.le_trans (by simp) hb6.size); have hR6 := Lib.hid (row_ext' ((Ext.al (Ext.rf _) _).tr hb6) hL HR.out); have ct6 : w6.cell? ⟨w.heap.size, 170 + k, none⟩ = some (.int .i64 (s.set k)) := (((Ext.al (Ext.rf _) _).tr hb6).cell (p := ⟨w.heap.size, 170 + k, none⟩) hL).trans ct; have m1 : w6.cell? ⟨wr.heap.size, 1, none⟩ = some (.int .i64 (s.mv k).cur) := (hb6.cell (p := ⟨wr.heap.size, 1, none⟩) (by simp)).trans (by simp [go_sem]); have m2 : w6.cell? ⟨wr.heap.size, 2, none⟩ = some (.int .i64 (s.mv k).nxt) := (hb6.cell (p := ⟨wr.heap.size, 2, none⟩) (by simp)).trans (by simp [go_sem])) | (go_at_call 74; (with_reducible refine (sinb_any _ _ _).mono ?_); rintro e w' ⟨rfl, rfl⟩))
                go_step3
                simp only [Exit.inBlock, Exit.then, Exit.jump]
                refine ⟨rfl, ?_⟩
                go_wp2
                rw [Exit.noGoto_ret]
                go_ret
                exact ⟨ret_bool HB.out.symm, by (repeat (first | with_reducible exact Ext.rf _ | with_reducible assumption | with_reducible refine Ext.al ?_ _ | with_reducible refine Ext.dr ?_ | with_reducible refine Ext.dn ?_ _ | ((with_reducible refine Ext.st _ ?_ ?_); focus (first | omega | (simp; omega) | simp)) | with_reducible refine Ext.tr ?_ (by assumption) | with_reducible refine Ext.tr ?_ (up_ext (by assumption)) | with_reducible refine Ext.of (by assumption) ?_))⟩
              case true =>
                cases e6 : decide (s.set k < 0)
                case false =>
                  cases e7 : decide (s.t.ver < s.set k)
                  case false =>
                    have d6 := of_decide_eq_false e6
                    have d7 := of_decide_eq_false e7
                    have HB := Lib.hid (show mvOk s k = true by unfold mvOk; simp_all <;> omega)
                    go_wp2_with (first | (go_at_call 89; (with_reducible refine (mright_any (s.mv k) _ H0k).mono ?_); rintro e w6 ⟨rfl, hb6⟩; have hE6 := (Ext.al hE _).tr hb6; have hL6 : Lt w.heap.size w6 := Nat.lt_of_lt_of_le hL (Nat.le_trans (by simp) hb6.size); have hR6 := Lib.hid (row_ext' ((Ext.al (Ext.rf _) _).tr hb6) hL HR.out); have ct6 : w6.cell? ⟨w.heap.size, 170 + k, none⟩ = some (.int .i64 (s.set k)) := (((Ext.al (Ext.rf _) _).tr hb6).cell (p := ⟨w.heap.size, 170 + k, none⟩) hL).trans ct; have m1 : w6.cell? ⟨wr.heap.size, 1, none⟩ = some (.int .i64 (s.mv k).cur) := (hb6.cell (p := ⟨wr.heap.size, 1, none⟩) (by simp)).trans (by simp [go_sem]); have m2 : w6.cell? ⟨wr.heap.size, 2, none⟩ = some (.int .i64 (s.mv k).nxt) := (hb6.cell (p := ⟨wr.heap.size, 2, none⟩) (by simp)).trans (by simp [go_sem])) | (go_at_call 74; (with_reducible refine (sinb_any _ _ _).mono ?_); rintro e w' ⟨rfl, rfl⟩))
                    go_roundw
                    case rel => exact ⟨k + 1, by omega, by go_num, fun j hj => by rcases Nat.lt_or_ge j k with h | h; exact HA.out j h; (obtain rfl : j = k := by omega); exact HB.out, hR6.out, hL6, hE6⟩
                    case measure => simp [intOf]; omega
                  case true =>
                    have d6 := of_decide_eq_false e6
                    have d7 := of_decide_eq_true e7
                    have HB := Lib.hid (show stR s = false by
                      rw [HN.out, mvOk_bad s k hlt (by unfold mvOk; simp_all <;> omega)]; rfl)
                    go_wp2_with (first | (go_at_call 89; (with_reducible refine (mright_any (s.mv k) _ H0k).mono ?_); rintro e w6 ⟨rfl, hb6⟩; have hE6 := (Ext.al hE _).tr hb6; have hL6 : Lt w.heap.size w6 := Nat.lt_of_lt_of_le hL (Nat.le_trans (by simp) hb6.size); have hR6 := Lib.hid (row_ext' ((Ext.al (Ext.rf _) _).tr hb6) hL HR.out); have ct6 : w6.cell? ⟨w.heap.size, 170 + k, none⟩ = some (.int .i64 (s.set k)) := (((Ext.al (Ext.rf _) _).tr hb6).cell (p := ⟨w.heap.size, 170 + k, none⟩) hL).trans ct; have m1 : w6.cell? ⟨wr.heap.size, 1, none⟩ = some (.int .i64 (s.mv k).cur) := (hb6.cell (p := ⟨wr.heap.size, 1, none⟩) (by simp)).trans (by simp [go_sem]); have m2 : w6.cell? ⟨wr.heap.size, 2, none⟩ = some (.int .i64 (s.mv k).nxt) := (hb6.cell (p := ⟨wr.heap.size, 2, none⟩) (by simp)).trans (by simp [go_sem])) | (go_at_call 74; (with_reducible refine (sinb_any _ _ _).mono ?_); rintro e w' ⟨rfl, rfl⟩))
                    go_step3
                    simp only [Exit.inBlock, Exit.then, Exit.jump]
                    refine ⟨rfl, ?_⟩
                    go_wp2
                    rw [Exit.noGoto_ret]
                    go_ret
                    exact ⟨ret_bool HB.out.symm, by (repeat (first | with_reducible exact Ext.rf _ | with_reducible assumption | with_reducible refine Ext.al ?_ _ | with_reducible refine Ext.dr ?_ | with_reducible refine Ext.dn ?_ _ | ((with_reducible refine Ext.st _ ?_ ?_); focus (first | omega | (simp; omega) | simp)) | with_reducible refine Ext.tr ?_ (by assumption) | with_reducible refine Ext.tr ?_ (up_ext (by assumption)) | with_reducible refine Ext.of (by assumption) ?_))⟩
                case true =>
                  have d6 := of_decide_eq_true e6
                  have HB := Lib.hid (show stR s = false by
                    rw [HN.out, mvOk_bad s k hlt (by unfold mvOk; simp_all <;> omega)]; rfl)
                  go_wp2_with (first | (go_at_call 89; (with_reducible refine (mright_any (s.mv k) _ H0k).mono ?_); rintro e w6 ⟨rfl, hb6⟩; have hE6 := (Ext.al hE _).tr hb6; have hL6 : Lt w.heap.size w6 := Nat.lt_of_lt_of_le hL (Nat.le_trans (by simp) hb6.size); have hR6 := Lib.hid (row_ext' ((Ext.al (Ext.rf _) _).tr hb6) hL HR.out); have ct6 : w6.cell? ⟨w.heap.size, 170 + k, none⟩ = some (.int .i64 (s.set k)) := (((Ext.al (Ext.rf _) _).tr hb6).cell (p := ⟨w.heap.size, 170 + k, none⟩) hL).trans ct; have m1 : w6.cell? ⟨wr.heap.size, 1, none⟩ = some (.int .i64 (s.mv k).cur) := (hb6.cell (p := ⟨wr.heap.size, 1, none⟩) (by simp)).trans (by simp [go_sem]); have m2 : w6.cell? ⟨wr.heap.size, 2, none⟩ = some (.int .i64 (s.mv k).nxt) := (hb6.cell (p := ⟨wr.heap.size, 2, none⟩) (by simp)).trans (by simp [go_sem])) | (go_at_call 74; (with_reducible refine (sinb_any _ _ _).mono ?_); rintro e w' ⟨rfl, rfl⟩))
                  go_step3
                  simp only [Exit.inBlock, Exit.then, Exit.jump]
                  refine ⟨rfl, ?_⟩
                  go_wp2
                  rw [Exit.noGoto_ret]
                  go_ret
                  exact ⟨ret_bool HB.out.symm, by (repeat (first | with_reducible exact Ext.rf _ | with_reducible assumption | with_reducible refine Ext.al ?_ _ | with_reducible refine Ext.dr ?_ | with_reducible refine Ext.dn ?_ _ | ((with_reducible refine Ext.st _ ?_ ?_); focus (first | omega | (simp; omega) | simp)) | with_reducible refine Ext.tr ?_ (by assumption) | with_reducible refine Ext.tr ?_ (up_ext (by assumption)) | with_reducible refine Ext.of (by assumption) ?_))⟩

    · obtain rfl : k = 16 := by omega
      have HN2 := Lib.hid (show stR s = (((List.range 3).all fun i => hasOk s i) && s.pl.all (shOk s)) by
        rw [HN.out, show ((List.range 16).all fun i => mvOk s i) = true from List.all_eq_true.2 fun i hi => HA.out i (List.mem_range.1 hi)]; rfl)
      have hR' := HR.out
      clear HA HR HN H0 hlt hk
      go_wp2
      go_loopw [98] (fun a wr => ∃ k : Nat, k ≤ 3 ∧ a = .int .i64 k ∧ (∀ j, j < k → hasOk s j = true) ∧ rowD wr w.heap.size = stv s ∧ Lt w.heap.size wr ∧ Ext w wr) (fun a _ => 3 - (intOf a).toNat)
      case atStart => exact ⟨0, Nat.zero_le _, rfl, fun j hj => by omega, hR', hL, hE⟩
      case round =>
        clear hE hR' hL
        obtain ⟨k, hk, rfl, ha, hR, hL, hE⟩ := hrel
        have HA := Lib.hid ha
        have HR := Lib.hid hR
        clear ha hR
        by_cases hlt : k < 3
        · have hlt' : (k : Int) < 3 := by omega
          cases e1 : (s.has k != -1)
          case false =>
            have HB := Lib.hid (show hasOk s k = true by unfold hasOk; simp_all <;> omega)
            go_wp2_with ((go_at_call 74; (with_reducible refine (sinm_any _ _ _).mono ?_); rintro e w' ⟨rfl, rfl⟩))
            go_roundw
            case rel => exact ⟨k + 1, by omega, by go_num, fun j hj => by rcases Nat.lt_or_ge j k with h | h; exact HA.out j h; (obtain rfl : j = k := by omega); exact HB.out, HR.out, hL, hE⟩
            case measure => simp [intOf]; omega
          case true =>
            cases e2 : decide (s.has k < 0)
            case false =>
              cases e3 : decide (s.t.ver < s.has k)
              case false =>
                cases e4 : inF (mxF s.mb) 3 (k : Int)
                case false =>
                  have d2 := of_decide_eq_false e2
                  have d3 := of_decide_eq_false e3
                  have HB := Lib.hid (show stR s = false by
                    rw [HN2.out, hasOk_bad s k hlt (by unfold hasOk; simp_all <;> omega)]; rfl)
                  go_wp2_with ((go_at_call 74; (with_reducible refine (sinm_any _ _ _).mono ?_); rintro e w' ⟨rfl, rfl⟩))
                  go_step3
                  simp only [Exit.inBlock, Exit.then, Exit.jump]
                  refine ⟨rfl, ?_⟩
                  go_wp2
                  rw [Exit.noGoto_ret]
                  go_ret
                  exact ⟨ret_bool HB.out.symm, by (repeat (first | with_reducible exact Ext.rf _ | with_reducible assumption | with_reducible refine Ext.al ?_ _ | with_reducible refine Ext.dr ?_ | with_reducible refine Ext.dn ?_ _ | ((with_reducible refine Ext.st _ ?_ ?_); focus (first | omega | (simp; omega) | simp)) | with_reducible refine Ext.tr ?_ (by assumption) | with_reducible refine Ext.tr ?_ (up_ext (by assumption)) | with_reducible refine Ext.of (by assumption) ?_))⟩
                case true =>
                  have d2 := of_decide_eq_false e2
                  have d3 := of_decide_eq_false e3
                  have HB := Lib.hid (show hasOk s k = true by unfold hasOk; simp_all <;> omega)
                  go_wp2_with ((go_at_call 74; (with_reducible refine (sinm_any _ _ _).mono ?_); rintro e w' ⟨rfl, rfl⟩))
                  refine ⟨⟨_, _, _, _, _, _, _, _, _, _, _, _, _, _, _, _, _, _, _, _, _, _, _, _, ?rel2, rfl⟩, ?mea2⟩
                  case rel2 => exact ⟨k + 1, by omega, by go_num, fun j hj => by rcases Nat.lt_or_ge j k with h | h; exact HA.out j h; (obtain rfl : j = k := by omega); exact HB.out, HR.out, hL, hE⟩
                  case mea2 => simp [intOf]; omega
              case true =>
                have d2 := of_decide_eq_false e2
                have d3 := of_decide_eq_true e3
                have HB := Lib.hid (show stR s = false by
                  rw [HN2.out, hasOk_bad s k hlt (by unfold hasOk; simp_all <;> omega)]; rfl)
                go_wp2_with ((go_at_call 74; (with_reducible refine (sinm_any _ _ _).mono ?_); rintro e w' ⟨rfl, rfl⟩))
                go_step3
                simp only [Exit.inBlock, Exit.then, Exit.jump]
                refine ⟨rfl, ?_⟩
                go_wp2
                rw [Exit.noGoto_ret]
                go_ret
                exact ⟨ret_bool HB.out.symm, by (repeat (first | with_reducible exact Ext.rf _ | with_reducible assumption | with_reducible refine Ext.al ?_ _ | with_reducible refine Ext.dr ?_ | with_reducible refine Ext.dn ?_ _ | ((with_reducible refine Ext.st _ ?_ ?_); focus (first | omega | (simp; omega) | simp)) | with_reducible refine Ext.tr ?_ (by assumption) | with_reducible refine Ext.tr ?_ (up_ext (by assumption)) | with_reducible refine Ext.of (by assumption) ?_))⟩
            case true =>
              have d2 := of_decide_eq_true e2
              have HB := Lib.hid (show stR s = false by
                rw [HN2.out, hasOk_bad s k hlt (by unfold hasOk; simp_all <;> omega)]; rfl)
              go_wp2_with ((go_at_call 74; (with_reducible refine (sinm_any _ _ _).mono ?_); rintro e w' ⟨rfl, rfl⟩))
              go_step3
              simp only [Exit.inBlock, Exit.then, Exit.jump]
              refine ⟨rfl, ?_⟩
              go_wp2
              rw [Exit.noGoto_ret]
              go_ret
              exact ⟨ret_bool HB.out.symm, by (repeat (first | with_reducible exact Ext.rf _ | with_reducible assumption | with_reducible refine Ext.al ?_ _ | with_reducible refine Ext.dr ?_ | with_reducible refine Ext.dn ?_ _ | ((with_reducible refine Ext.st _ ?_ ?_); focus (first | omega | (simp; omega) | simp)) | with_reducible refine Ext.tr ?_ (by assumption) | with_reducible refine Ext.tr ?_ (up_ext (by assumption)) | with_reducible refine Ext.of (by assumption) ?_))⟩

        · obtain rfl : k = 3 := by omega
          have HN3 := Lib.hid (show stR s = s.pl.all (shOk s) by
            rw [HN2.out, show ((List.range 3).all fun i => hasOk s i) = true from List.all_eq_true.2 fun i hi => HA.out i (List.mem_range.1 hi)]; rfl)
          have hR' := HR.out
          have c190 : wr.cell? ⟨w.heap.size, 190, none⟩ = some (.slice s.p s.pl.length s.c) := by rw [cell_rowD, hR', get_st_pl]
          clear HA HR HN2 hlt hk
          go_wp2
          clear c190
          go_loopw [123] (fun a wr => ∃ k : Nat, k ≤ s.pl.length ∧ a = .int .i64 k ∧ (∀ j, j < k → ∀ (h : j < s.pl.length), shOk s s.pl[j] = true) ∧ Ext w wr) (fun a _ => s.pl.length - (intOf a).toNat)
          case atStart => exact ⟨0, Nat.zero_le _, rfl, fun j hj => by omega, hE⟩
          case round =>
            clear hE hR' hL
            obtain ⟨k, hk, rfl, ha, hE⟩ := hrel
            have HA := Lib.hid ha
            clear ha
            by_cases hlt : k < s.pl.length
            · have hlt' : (k : Int) < s.pl.length := by omega
              obtain ⟨b, off, hpp, lb, x0, x1⟩ := (HS.out.ext hE) k hlt
              rw [hpp]
              obtain ⟨z, hz⟩ : ∃ z, s.pl[k] = z := ⟨_, rfl⟩
              have HZ := Lib.hid hz
              rw [hz] at x0 x1
              clear hz
              cases e1 : decide (z.b < 0)
              case false =>
                cases e2 : decide (16 ≤ z.b)
                case false =>
                  cases e3 : inF (bkF s.mb) 6 z.t
                  case false =>
                    have d1 := of_decide_eq_false e1
                    have d2 := of_decide_eq_false e2
                    have HB := Lib.hid (show stR s = false by
                      rw [HN3.out]; exact List.all_eq_false.2 ⟨s.pl[k], List.getElem_mem hlt, by rw [HZ.out]; unfold shOk; simp_all <;> omega⟩)
                    go_wp2_with ((go_at_call 74; (with_reducible refine (sinb_any _ _ _).mono ?_); rintro e w' ⟨rfl, rfl⟩))
                    go_step3
                    simp only [Exit.inBlock, Exit.then, Exit.jump]
                    refine ⟨rfl, ?_⟩
                    go_wp2
                    rw [Exit.noGoto_ret]
                    go_ret
                    exact ⟨ret_bool HB.out.symm, by (repeat (first | with_reducible exact Ext.rf _ | with_reducible assumption | with_reducible refine Ext.al ?_ _ | with_reducible refine Ext.dr ?_ | with_reducible refine Ext.dn ?_ _ | ((with_reducible refine Ext.st _ ?_ ?_); focus (first | omega | (simp; omega) | simp)) | with_reducible refine Ext.tr ?_ (by assumption) | with_reducible refine Ext.tr ?_ (up_ext (by assumption)) | with_reducible refine Ext.of (by assumption) ?_))⟩
                  case true =>
                    have d1 := of_decide_eq_false e1
                    have d2 := of_decide_eq_false e2
                    have HB := Lib.hid (show shOk s z = true by unfold shOk; simp_all <;> omega)
                    go_wp2_with ((go_at_call 74; (with_reducible refine (sinb_any _ _ _).mono ?_); rintro e w' ⟨rfl, rfl⟩))
                    refine ⟨⟨_, _, _, _, _, _, _, _, _, _, _, _, _, _, _, _, _, _, _, _, _, ?rel3, rfl⟩, ?mea3⟩
                    case rel3 => exact ⟨k + 1, by omega, by go_num, fun j hj hjl => by rcases Nat.lt_or_ge j k with h | h; exact HA.out j h hjl; (obtain rfl : j = k := by omega); rw [HZ.out]; exact HB.out, by (repeat (first | with_reducible exact Ext.rf _ | with_reducible assumption | with_reducible refine Ext.al ?_ _ | with_reducible refine Ext.dr ?_ | with_reducible refine Ext.dn ?_ _ | ((with_reducible refine Ext.st _ ?_ ?_); focus (first | omega | (simp; omega) | simp)) | with_reducible refine Ext.tr ?_ (by assumption) | with_reducible refine Ext.tr ?_ (up_ext (by assumption)) | with_reducible refine Ext.of (by assumption) ?_))⟩
                    case mea3 => simp [intOf]; omega
                case true =>
                  have d1 := of_decide_eq_false e1
                  have d2 := of_decide_eq_true e2
                  have HB := Lib.hid (show stR s = false by
                    rw [HN3.out]; exact List.all_eq_false.2 ⟨s.pl[k], List.getElem_mem hlt, by rw [HZ.out]; unfold shOk; simp_all <;> omega⟩)
                  go_wp2_with ((go_at_call 74; (with_reducible refine (sinb_any _ _ _).mono ?_); rintro e w' ⟨rfl, rfl⟩))
                  go_step3
                  simp only [Exit.inBlock, Exit.then, Exit.jump]
                  refine ⟨rfl, ?_⟩
                  go_wp2
                  rw [Exit.noGoto_ret]
                  go_ret
                  exact ⟨ret_bool HB.out.symm, by (repeat (first | with_reducible exact Ext.rf _ | with_reducible assumption | with_reducible refine Ext.al ?_ _ | with_reducible refine Ext.dr ?_ | with_reducible refine Ext.dn ?_ _ | ((with_reducible refine Ext.st _ ?_ ?_); focus (first | omega | (simp; omega) | simp)) | with_reducible refine Ext.tr ?_ (by assumption) | with_reducible refine Ext.tr ?_ (up_ext (by assumption)) | with_reducible refine Ext.of (by assumption) ?_))⟩
              case true =>
                have d1 := of_decide_eq_true e1
                have HB := Lib.hid (show stR s = false by
                  rw [HN3.out]; exact List.all_eq_false.2 ⟨s.pl[k], List.getElem_mem hlt, by rw [HZ.out]; unfold shOk; simp_all <;> omega⟩)
                go_wp2_with ((go_at_call 74; (with_reducible refine (sinb_any _ _ _).mono ?_); rintro e w' ⟨rfl, rfl⟩))
                go_step3
                simp only [Exit.inBlock, Exit.then, Exit.jump]
                refine ⟨rfl, ?_⟩
                go_wp2
                rw [Exit.noGoto_ret]
                go_ret
                exact ⟨ret_bool HB.out.symm, by (repeat (first | with_reducible exact Ext.rf _ | with_reducible assumption | with_reducible refine Ext.al ?_ _ | with_reducible refine Ext.dr ?_ | with_reducible refine Ext.dn ?_ _ | ((with_reducible refine Ext.st _ ?_ ?_); focus (first | omega | (simp; omega) | simp)) | with_reducible refine Ext.tr ?_ (by assumption) | with_reducible refine Ext.tr ?_ (up_ext (by assumption)) | with_reducible refine Ext.of (by assumption) ?_))⟩

            · obtain rfl : k = s.pl.length := by omega
              have HB := Lib.hid (show stR s = true by
                rw [HN3.out]; exact List.all_eq_true.2 fun z hz => by obtain ⟨j, hj, rfl⟩ := List.mem_iff_getElem.1 hz; exact HA.out j hj hj)
              go_wp2
              simp only [Exit.jump]
              go_ret
              exact ⟨ret_bool HB.out.symm, hE⟩

end Go.Proofs.Ytedamnocolfmlaa

/- The controller is quiet, and still: the searches. -/
namespace Go.Proofs.Ytedamnocolfmlaa
open Go.RowKit

/-- A slice reads as a list. -/
def SlM (w : World) (p : Option Addr) (xs : List Mo) : Prop := ∀ k, (h : k < xs.length) → ∃ b off, p = some ⟨b, off, none⟩ ∧ b < w.heap.size ∧ w.cell? ⟨b, off + k * 6, none⟩ = some (.int .u8 xs[k].ph) ∧ w.cell? ⟨b, off + k * 6 + 1, none⟩ = some (.int .i64 xs[k].cur) ∧ w.cell? ⟨b, off + k * 6 + 2, none⟩ = some (.int .i64 xs[k].nxt) ∧ w.cell? ⟨b, off + k * 6 + 3, none⟩ = some (.int .i64 xs[k].gen) ∧ w.cell? ⟨b, off + k * 6 + 4, none⟩ = some (.int .i64 xs[k].tick) ∧ w.cell? ⟨b, off + k * 6 + 5, none⟩ = some (.int .i64 xs[k].ver)
theorem SlM.ext {w w' : World} {p : Option Addr} {xs : List Mo} (h : SlM w p xs) (e : Ext w w') : SlM w' p xs := fun k hk => by
  obtain ⟨b, off, hp, hb, c0, c1, c2, c3, c4, c5⟩ := h k hk
  exact ⟨b, off, hp, Nat.lt_of_lt_of_le hb e.size, (e.cell (p := ⟨b, off + k * 6, none⟩) hb).trans c0, (e.cell (p := ⟨b, off + k * 6 + 1, none⟩) hb).trans c1, (e.cell (p := ⟨b, off + k * 6 + 2, none⟩) hb).trans c2, (e.cell (p := ⟨b, off + k * 6 + 3, none⟩) hb).trans c3, (e.cell (p := ⟨b, off + k * 6 + 4, none⟩) hb).trans c4, (e.cell (p := ⟨b, off + k * 6 + 5, none⟩) hb).trans c5⟩
theorem SlM.nil (w : World) (p : Option Addr) : SlM w p [] := fun k hk => by simp at hk
set_option maxHeartbeats 1000000 in
theorem indexFunc_M (g : Nat) (lb : Array Value) (eg : ∀ args w, (callFunc g args).run Try.prog w = .ok (.enter g args) w) (pr : Mo → Bool) (p : Option Addr) (xs : List Mo) (c : Nat) (w : World)
    (hs : SlM w p xs) (hl : xs.length ≤ 1000) (hf : ∀ x W, x ∈ xs → Ext w W → Calls Try.prog g (#[.agg #[.int .u8 x.ph, .int .i64 x.cur, .int .i64 x.nxt, .int .i64 x.gen, .int .i64 x.tick, .int .i64 x.ver]] ++ lb) W fun e w' => e = .returned (.bool (pr x)) ∧ Ext W w') :
    Calls Try.prog 90 #[.slice p xs.length c, .func (.func g) #[] lb] w fun e w' => e = .returned (.int .i64 (idx pr xs)) ∧ Ext w w' := by
  have HF := Lib.hid hf
  clear hf
  go_enter Try.func90, Try.ntmps90
  go_wp2
  go_loopw [5, 8] (fun _ i wr => ∃ k : Nat, k ≤ xs.length ∧ i = .int .i64 k ∧ (∀ j, j < k → ∀ (hj : j < xs.length), pr xs[j] = false) ∧ Ext w wr) (fun _ i _ => xs.length - (intOf i).toNat)
  case atStart => exact ⟨0, Nat.zero_le _, rfl, fun j hj => by omega, Ext.rf _⟩
  case round =>
    obtain ⟨k, hk, rfl, hno, hE⟩ := hrel
    have HN := Lib.hid hno
    clear hno
    by_cases hlt : k < xs.length
    · have hil : (k : Int) < xs.length := by omega
      obtain ⟨b, off, rfl, hb, c0, c1, c2, c3, c4, c5⟩ := (hs.ext hE) k hlt
      have lbb : Lt b wr := hb
      have HC := HF.out xs[k] wr (List.getElem_mem hlt) hE
      obtain ⟨x, hx⟩ : ∃ x, xs[k] = x := ⟨_, rfl⟩
      rw [hx] at c0 c1 c2 c3 c4 c5 HC
      have HX := Lib.hid hx
      clear hx
      cases hp : pr x
      · rw [hp] at HC
        have HP := Lib.hid hp
        clear hp
        have HCC := Lib.hid HC
        clear HC
        go_wp2_with ((with_reducible refine (HCC.out).mono ?_); rintro e w' ⟨rfl, hb'⟩)
        go_roundw
        case rel => exact ⟨k + 1, by omega, by go_num, fun j hj hj' => by
          rcases Nat.lt_or_ge j k with h | h
          · exact HN.out j h hj'
          · obtain rfl : j = k := by omega
            rw [HX.out, HP.out], hE.tr hb'⟩
        case measure => simp [intOf]; omega
      · rw [hp] at HC
        have HP := Lib.hid hp
        clear hp
        have HCC := Lib.hid HC
        clear HC
        go_wp2_with ((with_reducible refine (HCC.out).mono ?_); rintro e w' ⟨rfl, hb'⟩)
        go_ret
        exact ⟨by rw [idx_some pr xs k hlt (fun j hj => HN.out j hj _) (by rw [HX.out, HP.out])]; rfl, hE.tr hb'⟩
    · obtain rfl : k = xs.length := by omega
      go_wp2
      go_ret
      exact ⟨by rw [idx_none pr xs (fun j hj => HN.out j hj hj)]; rfl, hE⟩
set_option maxHeartbeats 1000000 in
theorem containsFunc_M (g : Nat) (lb : Array Value) (eg : ∀ args w, (callFunc g args).run Try.prog w = .ok (.enter g args) w) (pr : Mo → Bool) (p : Option Addr) (xs : List Mo) (c : Nat) (w : World)
    (hs : SlM w p xs) (hl : xs.length ≤ 1000) (hf : ∀ x W, x ∈ xs → Ext w W → Calls Try.prog g (#[.agg #[.int .u8 x.ph, .int .i64 x.cur, .int .i64 x.nxt, .int .i64 x.gen, .int .i64 x.tick, .int .i64 x.ver]] ++ lb) W fun e w' => e = .returned (.bool (pr x)) ∧ Ext W w') :
    Calls Try.prog 76 #[.slice p xs.length c, .func (.func g) #[] lb] w fun e w' => e = .returned (.bool (xs.any pr)) ∧ Ext w w' := by
  have HF := Lib.hid hf
  have HE := Lib.hid eg
  clear hf eg
  go_enter Try.func76, Try.ntmps76
  go_wp2_with (go_at_call 90; (with_reducible refine (indexFunc_M g lb HE.out pr p xs c _ hs hl HF.out).mono ?_); rintro e w' ⟨rfl, hb⟩)
  go_ret
  exact ⟨ret_bool (idx_ge _ _), hb⟩

structure Pa where
  fk : Int
  fi : Int
  tk : Int
  ti : Int
  ctl : Bool
  bp : Option Addr
  bn : Nat
  bc : Nat
  deriving DecidableEq
abbrev Pa.v (x : Pa) : Value := .agg #[.int .u8 x.fk, .int .i64 x.fi, .int .u8 x.tk, .int .i64 x.ti, .bool x.ctl, .slice x.bp x.bn x.bc]
/-- A slice reads as a list. -/
def SlP (w : World) (p : Option Addr) (xs : List Pa) : Prop := ∀ k, (h : k < xs.length) → ∃ b off, p = some ⟨b, off, none⟩ ∧ b < w.heap.size ∧ w.cell? ⟨b, off + k * 6, none⟩ = some (.int .u8 xs[k].fk) ∧ w.cell? ⟨b, off + k * 6 + 1, none⟩ = some (.int .i64 xs[k].fi) ∧ w.cell? ⟨b, off + k * 6 + 2, none⟩ = some (.int .u8 xs[k].tk) ∧ w.cell? ⟨b, off + k * 6 + 3, none⟩ = some (.int .i64 xs[k].ti) ∧ w.cell? ⟨b, off + k * 6 + 4, none⟩ = some (.bool xs[k].ctl) ∧ w.cell? ⟨b, off + k * 6 + 5, none⟩ = some (.slice xs[k].bp xs[k].bn xs[k].bc)
theorem SlP.ext {w w' : World} {p : Option Addr} {xs : List Pa} (h : SlP w p xs) (e : Ext w w') : SlP w' p xs := fun k hk => by
  obtain ⟨b, off, hp, hb, c0, c1, c2, c3, c4, c5⟩ := h k hk
  exact ⟨b, off, hp, Nat.lt_of_lt_of_le hb e.size, (e.cell (p := ⟨b, off + k * 6, none⟩) hb).trans c0, (e.cell (p := ⟨b, off + k * 6 + 1, none⟩) hb).trans c1, (e.cell (p := ⟨b, off + k * 6 + 2, none⟩) hb).trans c2, (e.cell (p := ⟨b, off + k * 6 + 3, none⟩) hb).trans c3, (e.cell (p := ⟨b, off + k * 6 + 4, none⟩) hb).trans c4, (e.cell (p := ⟨b, off + k * 6 + 5, none⟩) hb).trans c5⟩
theorem SlP.nil (w : World) (p : Option Addr) : SlP w p [] := fun k hk => by simp at hk
set_option maxHeartbeats 1000000 in
theorem indexFunc_P (g : Nat) (lb : Array Value) (eg : ∀ args w, (callFunc g args).run Try.prog w = .ok (.enter g args) w) (pr : Pa → Bool) (p : Option Addr) (xs : List Pa) (c : Nat) (w : World)
    (hs : SlP w p xs) (hl : xs.length ≤ 1000) (hf : ∀ x W, x ∈ xs → Ext w W → Calls Try.prog g (#[.agg #[.int .u8 x.fk, .int .i64 x.fi, .int .u8 x.tk, .int .i64 x.ti, .bool x.ctl, .slice x.bp x.bn x.bc]] ++ lb) W fun e w' => e = .returned (.bool (pr x)) ∧ Ext W w') :
    Calls Try.prog 58 #[.slice p xs.length c, .func (.func g) #[] lb] w fun e w' => e = .returned (.int .i64 (idx pr xs)) ∧ Ext w w' := by
  have HF := Lib.hid hf
  clear hf
  go_enter Try.func58, Try.ntmps58
  go_wp2
  go_loopw [5, 8] (fun _ i wr => ∃ k : Nat, k ≤ xs.length ∧ i = .int .i64 k ∧ (∀ j, j < k → ∀ (hj : j < xs.length), pr xs[j] = false) ∧ Ext w wr) (fun _ i _ => xs.length - (intOf i).toNat)
  case atStart => exact ⟨0, Nat.zero_le _, rfl, fun j hj => by omega, Ext.rf _⟩
  case round =>
    obtain ⟨k, hk, rfl, hno, hE⟩ := hrel
    have HN := Lib.hid hno
    clear hno
    by_cases hlt : k < xs.length
    · have hil : (k : Int) < xs.length := by omega
      obtain ⟨b, off, rfl, hb, c0, c1, c2, c3, c4, c5⟩ := (hs.ext hE) k hlt
      have lbb : Lt b wr := hb
      have HC := HF.out xs[k] wr (List.getElem_mem hlt) hE
      obtain ⟨x, hx⟩ : ∃ x, xs[k] = x := ⟨_, rfl⟩
      rw [hx] at c0 c1 c2 c3 c4 c5 HC
      have HX := Lib.hid hx
      clear hx
      cases hp : pr x
      · rw [hp] at HC
        have HP := Lib.hid hp
        clear hp
        have HCC := Lib.hid HC
        clear HC
        go_wp2_with ((with_reducible refine (HCC.out).mono ?_); rintro e w' ⟨rfl, hb'⟩)
        go_roundw
        case rel => exact ⟨k + 1, by omega, by go_num, fun j hj hj' => by
          rcases Nat.lt_or_ge j k with h | h
          · exact HN.out j h hj'
          · obtain rfl : j = k := by omega
            rw [HX.out, HP.out], hE.tr hb'⟩
        case measure => simp [intOf]; omega
      · rw [hp] at HC
        have HP := Lib.hid hp
        clear hp
        have HCC := Lib.hid HC
        clear HC
        go_wp2_with ((with_reducible refine (HCC.out).mono ?_); rintro e w' ⟨rfl, hb'⟩)
        go_ret
        exact ⟨by rw [idx_some pr xs k hlt (fun j hj => HN.out j hj _) (by rw [HX.out, HP.out])]; rfl, hE.tr hb'⟩
    · obtain rfl : k = xs.length := by omega
      go_wp2
      go_ret
      exact ⟨by rw [idx_none pr xs (fun j hj => HN.out j hj hj)]; rfl, hE⟩
set_option maxHeartbeats 1000000 in
theorem containsFunc_P (g : Nat) (lb : Array Value) (eg : ∀ args w, (callFunc g args).run Try.prog w = .ok (.enter g args) w) (pr : Pa → Bool) (p : Option Addr) (xs : List Pa) (c : Nat) (w : World)
    (hs : SlP w p xs) (hl : xs.length ≤ 1000) (hf : ∀ x W, x ∈ xs → Ext w W → Calls Try.prog g (#[.agg #[.int .u8 x.fk, .int .i64 x.fi, .int .u8 x.tk, .int .i64 x.ti, .bool x.ctl, .slice x.bp x.bn x.bc]] ++ lb) W fun e w' => e = .returned (.bool (pr x)) ∧ Ext W w') :
    Calls Try.prog 37 #[.slice p xs.length c, .func (.func g) #[] lb] w fun e w' => e = .returned (.bool (xs.any pr)) ∧ Ext w w' := by
  have HF := Lib.hid hf
  have HE := Lib.hid eg
  clear hf eg
  go_enter Try.func37, Try.ntmps37
  go_wp2_with (go_at_call 58; (with_reducible refine (indexFunc_P g lb HE.out pr p xs c _ hs hl HF.out).mono ?_); rintro e w' ⟨rfl, hb⟩)
  go_ret
  exact ⟨ret_bool (idx_ge _ _), hb⟩

end Go.Proofs.Ytedamnocolfmlaa

/- The controller is quiet. -/
namespace Go.Proofs.Ytedamnocolfmlaa
open Go.RowKit

theorem enters_under : ∀ args w, (callFunc 77 args).run Try.prog w = .ok (.enter 77 args) w := enters_of Try.func77 (by kernel_rfl) rfl
theorem under_cl (m : Mo) (w : World) : Calls Try.prog 77 (#[mo m.ph m.cur m.nxt m.gen m.tick m.ver] ++ #[]) w fun e w' => e = .returned (.bool (undM m)) ∧ Ext w w' := by
  rw [show (#[mo m.ph m.cur m.nxt m.gen m.tick m.ver] ++ #[] : Array Value) = #[m.v] from rfl]; exact under_any m w
def mvs (s : St) : List Mo := (List.range 16).map s.mv
theorem mvs_len (s : St) : (mvs s).length = 16 := by simp [mvs]
theorem get_st_mv (s : St) (k j : Nat) (h : k < 16) (hj : j < 6) : (stv s)[9 + k * 6 + j]? = some ((s.mv k).at j) := by
  unfold stv; rw [get_rowv, if_pos (by omega)]
  unfold St.at
  rw [if_neg (by omega), if_pos (by omega), show (9 + k * 6 + j - 9) / 6 = k by omega, show (9 + k * 6 + j - 9) % 6 = j by omega]
theorem mvs_sl {w : World} {B : Nat} {s : St} (hr : rowD w B = stv s) (hl : Lt B w) : SlM w (some ⟨B, 9, none⟩) (mvs s) := fun k hk => by
  have hk' : k < 16 := by rw [mvs_len] at hk; exact hk
  have e : (mvs s)[k]'hk = s.mv k := by simp [mvs]
  simp only [e]
  refine ⟨B, 9, rfl, hl, ?_, ?_, ?_, ?_, ?_, ?_⟩ <;> rw [cell_rowD, hr]
  · exact get_st_mv s k 0 hk' (by omega)
  · exact get_st_mv s k 1 hk' (by omega)
  · exact get_st_mv s k 2 hk' (by omega)
  · exact get_st_mv s k 3 hk' (by omega)
  · exact get_st_mv s k 4 hk' (by omega)
  · exact get_st_mv s k 5 hk' (by omega)
/-- A quiet controller. -/
def quietB (s : St) : Bool := stR s && decide (s.pl.length = 0) && !(mvs s).any undM
set_option maxRecDepth 20000 in
set_option maxHeartbeats 2000000 in
theorem quiet_any (s : St) (w : World) (hs : SlS w s.p s.pl) (hl : s.pl.length ≤ 1000) (h0 : ∀ i, i < 16 → 0 ≤ (s.mv i).ph) :
    Calls Try.prog 57 #[.agg (stv s)] w fun e w' => e = .returned (.bool (quietB s)) ∧ Ext w w' := by
  have HR := Lib.hid (fun W (hE : Ext w W) => stright_any s W (hs.ext hE) hl h0)
  clear hs h0
  go_enter Try.func57, Try.ntmps57
  go_upto_region 1 with (fail)
  obtain ⟨W0, hW⟩ : ∃ W0, w.alloc (.cells (stv s) 38) = W0 := ⟨_, rfl⟩
  have g0 : Ext w W0 := by rw [← hW]; exact Ext.al (Ext.rf _) _
  have rx0 : rowD W0 w.heap.size = stv s := by rw [← hW]; simp [go_sem]
  have lx0 : Lt w.heap.size W0 := by rw [← hW]; simp [go_sem]
  rw [hW]
  clear hW
  have HC := Lib.hid (fun W (hE : Ext W0 W) => by
    have h := containsFunc_M 77 #[] enters_under undM (some ⟨w.heap.size, 9, none⟩) (mvs s) 16 W (mvs_sl (row_ext' hE lx0 rx0) (Nat.lt_of_lt_of_le lx0 hE.size)) (by rw [mvs_len]; omega) (fun x W' _ _ => under_cl x W')
    rw [mvs_len] at h
    exact h)
  have HRX := Lib.hid (fun W (hE : Ext W0 W) => row_ext' hE lx0 rx0)
  have HLX := Lib.hid (fun W (hE : Ext W0 W) => (Nat.lt_of_lt_of_le lx0 hE.size : Lt w.heap.size W))
  cases h1 : stR s
  · have HB := Lib.hid (show quietB s = false by unfold quietB; rw [h1]; rfl)
    rw [h1] at HR
    go_wp2_with (go_at_call 75; (with_reducible refine (HR.out _ g0).mono ?_); rintro e w1 ⟨rfl, g1⟩)
    go_ret
    exact ⟨ret_bool HB.out.symm, g0.tr g1⟩
  rw [h1] at HR
  cases h2 : decide (s.pl.length = 0)
  · have h2' := of_decide_eq_false h2
    have HB := Lib.hid (show quietB s = false by unfold quietB; rw [h1, h2]; rfl)
    have h3 : ((s.pl.length : Int) == 0) = false := by rw [beq_eq_false_iff_ne]; omega
    go_wp2_with (go_at_call 75; (with_reducible refine (HR.out _ g0).mono ?_); rintro e w1 ⟨rfl, g1⟩; have c190 : w1.cell? ⟨w.heap.size, 190, none⟩ = some (.slice s.p s.pl.length s.c) := (by rw [cell_rowD, HRX.out _ g1, get_st_pl]))
    go_ret
    exact ⟨ret_bool HB.out.symm, g0.tr g1⟩
  · have h2' := of_decide_eq_true h2
    have HB := Lib.hid (show quietB s = !(mvs s).any undM by unfold quietB; rw [h1, h2]; rfl)
    have h3 : ((s.pl.length : Int) == 0) = true := by simp [h2']
    go_wp2_with (first | (go_at_call 75; (with_reducible refine (HR.out _ g0).mono ?_); rintro e w1 ⟨rfl, g1⟩; have c190 : w1.cell? ⟨w.heap.size, 190, none⟩ = some (.slice s.p s.pl.length s.c) := (by rw [cell_rowD, HRX.out _ g1, get_st_pl]); have l1 := HLX.out _ g1) | (go_at_call 76; (with_reducible refine (HC.out _ g1).mono ?_); rintro e w2 ⟨rfl, g2⟩))
    go_ret
    exact ⟨ret_bool HB.out.symm, (g0.tr g1).tr g2⟩

end Go.Proofs.Ytedamnocolfmlaa

/- The controller is still. -/
namespace Go.Proofs.Ytedamnocolfmlaa
open Go.RowKit

def pathsSti : List (Nat × List Nat) := [(0, [1, 2, 11]), (1, [2, 11]), (2, [11]), (3, [5, 6, 10, 11]), (4, [5, 6, 10, 11]), (5, [6, 10, 11]), (6, [10, 11]), (7, [8, 9, 10, 11]), (8, [9, 10, 11]), (9, [10, 11]), (10, [11])]
def SchSti (ops : Array Oper) : Prop := Region.noSelect ops = true ∧ (∀ k, k < 11 → okX ops 12 k = true) ∧ (∀ k, k < 11 → closedB .any ops (lst 12 k) = true) ∧ (∀ k l, (k, l) ∈ pathsSti → waitsB .any ops (k :: l) = true) ∧ Region.ready .any ops (lst 12 11) = [11] ∧ Region.ready .any ops (lst 12 12) = []
theorem schSti : SchSti ((Try.f36.body.bind (findR 3)).getD #[]) := by
  have h1 : ((List.range 11).all fun k => okX ((Try.f36.body.bind (findR 3)).getD #[]) 12 k) = true := by kernel_rfl
  have h2 : ((List.range 11).all fun k => closedB .any ((Try.f36.body.bind (findR 3)).getD #[]) (lst 12 k)) = true := by kernel_rfl
  have h3 : (pathsSti.all fun kl => waitsB .any ((Try.f36.body.bind (findR 3)).getD #[]) (kl.1 :: kl.2)) = true := by kernel_rfl
  exact ⟨by kernel_rfl, fun k hk => List.all_eq_true.1 h1 k (List.mem_range.2 hk), fun k hk => List.all_eq_true.1 h2 k (List.mem_range.2 hk), fun k l h => List.all_eq_true.1 h3 (k, l) h, by kernel_rfl, by kernel_rfl⟩

theorem lss3_run {i : Nat} (hi : i < 3) (ρ : Operand → Value) (dst : Option Tmp) (x : Operand) (ty : TypeId) (pos : String) (after : Array Edge) (g : Option (Nat × Bool)) (hx : ρ x = .int .i64 i) (hk : ρ (.const (.int .i64 3)) = .int .i64 3) (w : World) :
    (execOp ρ ⟨dst, .binOp .lss 3 x (.const (.int .i64 3)) 3, ty, pos, after, g⟩).run Try.prog w = .ok (.value (.bool true)) w := by
  have hi' : (i : Int) < 3 := by omega
  simp only [execOp, hx, hk]
  go_simp
theorem idx3_run {i B : Nat} (hi : i < 3) (ρ : Operand → Value) (dst : Option Tmp) (x y : Operand) (ty : TypeId) (pos : String) (after : Array Edge) (g : Option (Nat × Bool)) (hx : ρ x = .pointer (some ⟨B, 186, none⟩)) (hy : ρ y = .int .i64 i) (w : World) :
    (execOp ρ ⟨dst, .indexAddr 35 x y, ty, pos, after, g⟩).run Try.prog w = .ok (.value (.pointer (some ⟨B, 186 + i, none⟩))) w := by
  have hi' : (i : Int) < 3 := by omega
  simp only [execOp, hx, hy]
  go_simp
theorem ldi_W {C : Nat → Prop} {w : World} {B O : Nat} {x : Int} (h0 : w.cell? ⟨B, O, none⟩ = some (.int .i64 x)) (hl : Lt B w) (hC : ¬ C B) (ρ : Operand → Value) (dst : Option Tmp) (q : Operand) (ty : TypeId) (pos : String) (after : Array Edge) (g : Option (Nat × Bool)) (hx : ρ q = .pointer (some ⟨B, O, none⟩)) :
    ∀ w', Mv C w w' → (execOp ρ ⟨dst, .load 3 q, ty, pos, after, g⟩).run Try.prog w' = .ok (.value (.int .i64 x)) w' := by
  intro w' hE
  have hr : w'.cell? ⟨B, O, none⟩ = some (.int .i64 x) := by rw [cell_rowD, rowD_same (hE.same B hl hC), ← cell_rowD]; exact h0
  simp only [execOp, hx]
  go_simp
theorem neqi_run {x y : Int} (ρ : Operand → Value) (dst : Option Tmp) (p q : Operand) (ty : TypeId) (pos : String) (after : Array Edge) (g : Option (Nat × Bool)) (hx : ρ p = .int .i64 x) (hy : ρ q = .int .i64 y) (w : World) :
    (execOp ρ ⟨dst, .binOp .neq 3 p q 3, ty, pos, after, g⟩).run Try.prog w = .ok (.value (.bool (x != y))) w := by
  simp only [execOp, hx, hy]
  go_simp
theorem loadbo {w : World} {b o : Nat} {x : Bool} (h : w.cell? ⟨b, o, none⟩ = some (.bool x)) : (loadVar 4 ⟨b, o, none⟩).run Try.prog w = .ok (.bool x) w := by go_simp
theorem setCell_heap_other {w : World} {b o k : Nat} {v : Value} (h : k ≠ b) : (w.setCell ⟨b, o, none⟩ v).heap[k]? = w.heap[k]? := by
  simp only [World.setCell, Array.getElem?_modify]
  rw [if_neg (by omega)]
theorem nums_mem {f : Nat → Bool} {N i : Nat} {x : Nat × Nat} (h : (nums f N)[i]? = some x) : x.1 = x.2 ∧ x.1 < 8 ∧ inF f N x.1 = true := by
  have := List.mem_of_getElem? h
  unfold nums pickN at this
  rw [List.mem_map] at this
  obtain ⟨j, hj, rfl⟩ := this
  rw [List.mem_filter, List.mem_range] at hj
  exact ⟨rfl, hj.1, hj.2⟩
/-- All muxes have the table. -/
def allHas (s : St) : Bool := (nums (mxF s.mb) 3).all fun x => s.has x.1 == s.t.ver
def stillB (s : St) : Bool := allHas s && quietB s
set_option maxRecDepth 100000 in
set_option maxHeartbeats 4000000 in
theorem still_any (s : St) (w : World) (hs : SlS w s.p s.pl) (hl : s.pl.length ≤ 1000) (h0 : ∀ i, i < 16 → 0 ≤ (s.mv i).ph) :
    Calls Try.prog 36 #[.agg (stv s)] w fun e w' => e = .returned (.bool (stillB s)) ∧ Ext w w' := by
  have HQ := Lib.hid (fun W (hE : Ext w W) => quiet_any s W (hs.ext hE) hl h0)
  clear hs h0
  refine (callsIn_wide (n := 5)).1 ?_
  refine callsIn_of_wp_marks Try.func36 rfl trivial ?_ rfl
  simp only [Try.ntmps36, List.size_toArray, List.length_cons, List.length_nil, Nat.reduceAdd, Nat.reduceSub, Array.replicate_succ, Array.replicate_zero, List.push_toArray, List.append_toArray, List.nil_append, List.cons_append]
  refine wpIn_wide.2 ?_
  go_upto_region 1 with (fail)
  obtain ⟨W0, hW⟩ : ∃ W0, (w.alloc (.cells (stv s) 38)).alloc (.cells #[.bool false] 4) = W0 := ⟨_, rfl⟩
  have g0 : Ext w W0 := by rw [← hW]; exact Ext.al (Ext.al (Ext.rf _) _) _
  have rx0 : rowD W0 w.heap.size = stv s := by rw [← hW]; simp [go_sem]
  have lx0 : Lt w.heap.size W0 := by rw [← hW]; simp [go_sem]
  have c20 : W0.cell? ⟨w.heap.size + 1, 0, none⟩ = some (.bool false) := by rw [← hW]; simp [go_sem]
  have f20 : W0.frozen? ⟨w.heap.size + 1, 0, none⟩ = false := by rw [← hW]; simp [go_sem]
  have l20 : Lt (w.heap.size + 1) W0 := by rw [← hW]; simp [go_sem]
  rw [hW]
  clear hW
  go_wp2_with (first | (go_at_call 56; (with_reducible refine (muxes_any s.mb _).mono ?_); rintro e w1 ⟨rfl, g1⟩) | (go_at_call 55; (with_reducible refine (numbers_any _ _).mono ?_); rintro e w2 ⟨rfl, g2, k2, l2⟩))
  have g12 := g1.tr g2
  have E2 := g0.tr g12
  have s0 : w.heap.size + 1 < W0.heap.size := l20
  have s1 : W0.heap.size ≤ w1.heap.size := g1.size
  have s2 : w1.heap.size ≤ w2.heap.size := g2.size
  have rx : rowD w2 w.heap.size = stv s := row_ext' g12 lx0 rx0
  have c2 : w2.cell? ⟨w.heap.size + 1, 0, none⟩ = some (.bool false) := (g12.cell (p := ⟨w.heap.size + 1, 0, none⟩) l20).trans c20
  have f2 : w2.frozen? ⟨w.heap.size + 1, 0, none⟩ = false := (g12.frozen (p := ⟨w.heap.size + 1, 0, none⟩) l20).trans f20
  clear rx0 c20 f20 g1 g2 g12
  refine (wpIn_wide (n := 5)).1 ?_
  refine wpIn_range rfl (by omega) (gf := 73) (lb := #[.pointer (some ⟨w1.heap.size, 0, none⟩)]) rfl trivial enters_numbers1
    (numbers_iter _ (mxF s.mb) 3 (by omega) w2 w1.heap.size (fun k => k = w.heap.size + 1) k2 l2 (fun e => by omega))
    (fun k e => e.elim) (fun k e => by omega) (fun _ => rfl)
    (fun i W => (∀ j, j < i → ∀ h : j < (nums (mxF s.mb) 3).length, s.has (nums (mxF s.mb) 3)[j].1 = s.t.ver) ∧ W.cell? ⟨w.heap.size + 1, 0, none⟩ = some (.bool false) ∧ W.frozen? ⟨w.heap.size + 1, 0, none⟩ = false ∧ w2.heap.size ≤ W.heap.size) (fun cc W => cc = .ret ∧ allHas s = false ∧ W.cell? ⟨w.heap.size + 1, 0, none⟩ = some (.bool false) ∧ w2.heap.size ≤ W.heap.size)
    ?hI ?hS ⟨fun j hj => by omega, c2, f2, Nat.le_refl _⟩
    (fun x a' W => a' = { tmps := #[.agg (stv s), .pointer (some ⟨w.heap.size, 0, none⟩), .pointer (some ⟨w.heap.size + 1, 0, none⟩), .int .i64 x.1, .pointer (some ⟨w.heap.size, 0, none⟩), .agg (mbv s.mb), .int .u8 (muxes s.mb), .func (.func 73) #[] #[.pointer (some ⟨w1.heap.size, 0, none⟩)], .int .i64 x.1, undef, undef, undef, undef, undef, undef, undef, undef, undef, undef, undef, undef, undef, undef], defers := [] })
    (fun x a' A B h hm => h)
    ?assign ?body ?done ?stop
  case hI =>
    rintro i A B ⟨h1, h2, h3, h4⟩ hm
    have s1 := hm.same (w.heap.size + 1) (by omega) (by rintro (h | h | h) <;> first | exact h.elim | omega)
    exact ⟨h1, by rw [cell_rowD, rowD_same s1, ← cell_rowD]; exact h2, by rw [frozen_frzD] at h3 ⊢; unfold frzD at h3 ⊢; rw [s1]; exact h3, Nat.le_trans h4 hm.size⟩
  case hS =>
    rintro c A B ⟨h1, h2, h3, h4⟩ hm
    have s1 := hm.same (w.heap.size + 1) (by omega) (by rintro (h | h | h) <;> first | exact h.elim | omega)
    exact ⟨h1, h2, by rw [cell_rowD, rowD_same s1, ← cell_rowD]; exact h3, Nat.le_trans h4 hm.size⟩
  case assign =>
    intro y i x W K hsz hv hI hx hK
    gi_wp2
    repeat (rw [Oper.semAt_some _ _ _ (by intro c h; cases h)]; go_simp; gi_wp2)
    exact hK _ _ (Mv.refl _ _) hI rfl
  case body =>
    rintro y i x a' W hyl ⟨rr, hr⟩ hsz' hv ⟨hI, b2, b3, b4⟩ hx rfl
    have hil : i < (nums (mxF s.mb) 3).length := (List.getElem?_eq_some_iff.1 hx).1
    have hxi : (nums (mxF s.mb) 3)[i] = x := (List.getElem?_eq_some_iff.1 hx).2
    obtain ⟨e1, e2, e3⟩ := nums_mem hx
    obtain ⟨q, q2⟩ := x
    dsimp only at e1 e2 e3 ⊢
    subst e1
    have hi : q < 3 := by
      unfold inF at e3
      rw [Bool.and_eq_true, Bool.and_eq_true] at e3
      have := of_decide_eq_true e3.1.2
      omega
    have lB : Lt w.heap.size W := by unfold Lt; omega
    have lR : Lt (w.heap.size + 1) W := by unfold Lt; omega
    have hrW : rowD W w.heap.size = stv s := by rw [rowD_same (hv.same w.heap.size (by omega) (by rintro (h | h) <;> first | exact h.elim | omega))]; exact rx
    have HI := Lib.hid hI
    have HXI := Lib.hid hxi
    have HB3 := Lib.hid b3
    clear hI hxi hx hr hv c2 f2 k2
    cases hb : (s.has q != s.t.ver)
    · have HG := Lib.hid (show ∀ j, j < i + 1 → ∀ h : j < (nums (mxF s.mb) 3).length, s.has (nums (mxF s.mb) 3)[j].1 = s.t.ver from fun j hj hjl => by
        rcases Nat.lt_or_ge j i with h | h
        · exact HI.out j h hjl
        · obtain rfl : j = i := by omega
          rw [HXI.out]; simpa using hb)
      gi_wp2
      repeat (rw [Oper.semAt_some _ _ _ (by intro c h; cases h)]; go_simp; gi_wp2)
      refine wp_region_W (F := _) 11 (fun _ => False) (fun _ => trivial) (by kernel_rfl) (by kernel_rfl) ?_
      have ch : W.drew.cell? ⟨w.heap.size, 186 + q, none⟩ = some (.int .i64 (s.has q)) := by show W.cell? _ = _; rw [cell_rowD, hrW, get_st_has s q hi]
      have cv : W.drew.cell? ⟨w.heap.size, 105, none⟩ = some (.int .i64 s.t.ver) := by show W.cell? _ = _; rw [cell_rowD, hrW, get_st_ver]
      refine withW (N := 12) (R := SchSti) (E := ((Try.f36.body.bind (findR 3)).getD #[])) (by kernel_rfl) schSti (by kernel_rfl) fun hS => ?_
      refine takeW (N := 12) (k := 0) (l := [1, 2, 11]) (v := .int .i64 (q : Nat)) hS.1 (hS.2.1 0 (by decide)) (hS.2.2.1 0 (by decide)) (hS.2.2.2.1 0 [1, 2, 11] (by decide)) rfl (by decide) rfl (by kernel_rfl) (fun _ _ => by kernel_rfl) ?_
      refine takeW (N := 12) (k := 1) (l := [2, 11]) (v := .bool true) hS.1 (hS.2.1 1 (by decide)) (hS.2.2.1 1 (by decide)) (hS.2.2.2.1 1 [2, 11] (by decide)) rfl (by decide) rfl (by kernel_rfl) (fun w' _ => lss3_run hi _ _ _ _ _ _ _ (by kernel_rfl) rfl w') ?_
      refine takeW (N := 12) (k := 2) (l := [11]) (v := .bool true) hS.1 (hS.2.1 2 (by decide)) (hS.2.2.1 2 (by decide)) (hS.2.2.2.1 2 [11] (by decide)) rfl (by decide) rfl (by kernel_rfl) (fun _ _ => by kernel_rfl) ?_
      refine takeW (N := 12) (k := 3) (l := [5, 6, 10, 11]) (v := .int .i64 (q : Nat)) hS.1 (hS.2.1 3 (by decide)) (hS.2.2.1 3 (by decide)) (hS.2.2.2.1 3 [5, 6, 10, 11] (by decide)) rfl (by decide) rfl (by kernel_rfl) (fun _ _ => by kernel_rfl) ?_
      refine takeW (N := 12) (k := 4) (l := [5, 6, 10, 11]) (v := .pointer (some ⟨w.heap.size, 186, none⟩)) hS.1 (hS.2.1 4 (by decide)) (hS.2.2.1 4 (by decide)) (hS.2.2.2.1 4 [5, 6, 10, 11] (by decide)) rfl (by decide) rfl (by kernel_rfl) (fun _ _ => by kernel_rfl) ?_
      refine takeW (N := 12) (k := 5) (l := [6, 10, 11]) (v := .pointer (some ⟨w.heap.size, 186 + q, none⟩)) hS.1 (hS.2.1 5 (by decide)) (hS.2.2.1 5 (by decide)) (hS.2.2.2.1 5 [6, 10, 11] (by decide)) rfl (by decide) rfl (by kernel_rfl) (fun w' _ => idx3_run hi _ _ _ _ _ _ _ _ (by kernel_rfl) (by kernel_rfl) w') ?_
      refine takeW (N := 12) (k := 6) (l := [10, 11]) (v := .int .i64 (s.has q)) hS.1 (hS.2.1 6 (by decide)) (hS.2.2.1 6 (by decide)) (hS.2.2.2.1 6 [10, 11] (by decide)) rfl (by decide) rfl (by kernel_rfl) (ldi_W ch lB (fun h => h) _ _ _ _ _ _ _ (by kernel_rfl)) ?_
      refine takeW (N := 12) (k := 7) (l := [8, 9, 10, 11]) (v := .pointer (some ⟨w.heap.size, 105, none⟩)) hS.1 (hS.2.1 7 (by decide)) (hS.2.2.1 7 (by decide)) (hS.2.2.2.1 7 [8, 9, 10, 11] (by decide)) rfl (by decide) rfl (by kernel_rfl) (fun _ _ => by kernel_rfl) ?_
      refine takeW (N := 12) (k := 8) (l := [9, 10, 11]) (v := .pointer (some ⟨w.heap.size, 105, none⟩)) hS.1 (hS.2.1 8 (by decide)) (hS.2.2.1 8 (by decide)) (hS.2.2.2.1 8 [9, 10, 11] (by decide)) rfl (by decide) rfl (by kernel_rfl) (fun _ _ => by kernel_rfl) ?_
      refine takeW (N := 12) (k := 9) (l := [10, 11]) (v := .int .i64 s.t.ver) hS.1 (hS.2.1 9 (by decide)) (hS.2.2.1 9 (by decide)) (hS.2.2.2.1 9 [10, 11] (by decide)) rfl (by decide) rfl (by kernel_rfl) (ldi_W cv lB (fun h => h) _ _ _ _ _ _ _ (by kernel_rfl)) ?_
      refine takeW (N := 12) (k := 10) (l := [11]) (v := .bool (s.has q != s.t.ver)) hS.1 (hS.2.1 10 (by decide)) (hS.2.2.1 10 (by decide)) (hS.2.2.2.1 10 [11] (by decide)) rfl (by decide) rfl (by kernel_rfl) (fun w' _ => neqi_run _ _ _ _ _ _ _ _ (by kernel_rfl) (by kernel_rfl) w') ?_
      refine valueW (N := 12) (k := 11) (v := .bool (s.has q != s.t.ver)) hS.2.2.2.2.1 rfl (by kernel_rfl) (by kernel_rfl) ?_
      refine doneW hS.2.2.2.2.2 ?_
      clear hS
      rw [hb]
      go_simp
      gi_wp2
      exact ⟨Mv.of_ext (Ext.dr (Ext.rf _)), HG.out, by simpa [go_sem] using b2, by simpa [go_sem] using HB3.out, by simpa [go_sem] using b4⟩
    · have HG := Lib.hid (show allHas s = false from List.all_eq_false.2 ⟨(q, q), by rw [← HXI.out]; exact List.getElem_mem hil, by simpa using hb⟩)
      gi_wp2
      repeat (rw [Oper.semAt_some _ _ _ (by intro c h; cases h)]; go_simp; gi_wp2)
      refine wp_region_W (F := _) 11 (fun _ => False) (fun _ => trivial) (by kernel_rfl) (by kernel_rfl) ?_
      have ch : W.drew.cell? ⟨w.heap.size, 186 + q, none⟩ = some (.int .i64 (s.has q)) := by show W.cell? _ = _; rw [cell_rowD, hrW, get_st_has s q hi]
      have cv : W.drew.cell? ⟨w.heap.size, 105, none⟩ = some (.int .i64 s.t.ver) := by show W.cell? _ = _; rw [cell_rowD, hrW, get_st_ver]
      refine withW (N := 12) (R := SchSti) (E := ((Try.f36.body.bind (findR 3)).getD #[])) (by kernel_rfl) schSti (by kernel_rfl) fun hS => ?_
      refine takeW (N := 12) (k := 0) (l := [1, 2, 11]) (v := .int .i64 (q : Nat)) hS.1 (hS.2.1 0 (by decide)) (hS.2.2.1 0 (by decide)) (hS.2.2.2.1 0 [1, 2, 11] (by decide)) rfl (by decide) rfl (by kernel_rfl) (fun _ _ => by kernel_rfl) ?_
      refine takeW (N := 12) (k := 1) (l := [2, 11]) (v := .bool true) hS.1 (hS.2.1 1 (by decide)) (hS.2.2.1 1 (by decide)) (hS.2.2.2.1 1 [2, 11] (by decide)) rfl (by decide) rfl (by kernel_rfl) (fun w' _ => lss3_run hi _ _ _ _ _ _ _ (by kernel_rfl) rfl w') ?_
      refine takeW (N := 12) (k := 2) (l := [11]) (v := .bool true) hS.1 (hS.2.1 2 (by decide)) (hS.2.2.1 2 (by decide)) (hS.2.2.2.1 2 [11] (by decide)) rfl (by decide) rfl (by kernel_rfl) (fun _ _ => by kernel_rfl) ?_
      refine takeW (N := 12) (k := 3) (l := [5, 6, 10, 11]) (v := .int .i64 (q : Nat)) hS.1 (hS.2.1 3 (by decide)) (hS.2.2.1 3 (by decide)) (hS.2.2.2.1 3 [5, 6, 10, 11] (by decide)) rfl (by decide) rfl (by kernel_rfl) (fun _ _ => by kernel_rfl) ?_
      refine takeW (N := 12) (k := 4) (l := [5, 6, 10, 11]) (v := .pointer (some ⟨w.heap.size, 186, none⟩)) hS.1 (hS.2.1 4 (by decide)) (hS.2.2.1 4 (by decide)) (hS.2.2.2.1 4 [5, 6, 10, 11] (by decide)) rfl (by decide) rfl (by kernel_rfl) (fun _ _ => by kernel_rfl) ?_
      refine takeW (N := 12) (k := 5) (l := [6, 10, 11]) (v := .pointer (some ⟨w.heap.size, 186 + q, none⟩)) hS.1 (hS.2.1 5 (by decide)) (hS.2.2.1 5 (by decide)) (hS.2.2.2.1 5 [6, 10, 11] (by decide)) rfl (by decide) rfl (by kernel_rfl) (fun w' _ => idx3_run hi _ _ _ _ _ _ _ _ (by kernel_rfl) (by kernel_rfl) w') ?_
      refine takeW (N := 12) (k := 6) (l := [10, 11]) (v := .int .i64 (s.has q)) hS.1 (hS.2.1 6 (by decide)) (hS.2.2.1 6 (by decide)) (hS.2.2.2.1 6 [10, 11] (by decide)) rfl (by decide) rfl (by kernel_rfl) (ldi_W ch lB (fun h => h) _ _ _ _ _ _ _ (by kernel_rfl)) ?_
      refine takeW (N := 12) (k := 7) (l := [8, 9, 10, 11]) (v := .pointer (some ⟨w.heap.size, 105, none⟩)) hS.1 (hS.2.1 7 (by decide)) (hS.2.2.1 7 (by decide)) (hS.2.2.2.1 7 [8, 9, 10, 11] (by decide)) rfl (by decide) rfl (by kernel_rfl) (fun _ _ => by kernel_rfl) ?_
      refine takeW (N := 12) (k := 8) (l := [9, 10, 11]) (v := .pointer (some ⟨w.heap.size, 105, none⟩)) hS.1 (hS.2.1 8 (by decide)) (hS.2.2.1 8 (by decide)) (hS.2.2.2.1 8 [9, 10, 11] (by decide)) rfl (by decide) rfl (by kernel_rfl) (fun _ _ => by kernel_rfl) ?_
      refine takeW (N := 12) (k := 9) (l := [10, 11]) (v := .int .i64 s.t.ver) hS.1 (hS.2.1 9 (by decide)) (hS.2.2.1 9 (by decide)) (hS.2.2.2.1 9 [10, 11] (by decide)) rfl (by decide) rfl (by kernel_rfl) (ldi_W cv lB (fun h => h) _ _ _ _ _ _ _ (by kernel_rfl)) ?_
      refine takeW (N := 12) (k := 10) (l := [11]) (v := .bool (s.has q != s.t.ver)) hS.1 (hS.2.1 10 (by decide)) (hS.2.2.1 10 (by decide)) (hS.2.2.2.1 10 [11] (by decide)) rfl (by decide) rfl (by kernel_rfl) (fun w' _ => neqi_run _ _ _ _ _ _ _ _ (by kernel_rfl) (by kernel_rfl) w') ?_
      refine valueW (N := 12) (k := 11) (v := .bool (s.has q != s.t.ver)) hS.2.2.2.2.1 rfl (by kernel_rfl) (by kernel_rfl) ?_
      refine doneW hS.2.2.2.2.2 ?_
      clear hS
      rw [hb]
      go_simp
      gi_wp2
      exact ⟨Mv.st _ (.inl (.inl rfl)) (Mv.of_ext (Ext.dr (Ext.rf _))), rfl, HG.out, World.cell?_setCell_same _ _ _ (show W.drew.cell? ⟨w.heap.size + 1, 0, none⟩ = some (.bool false) from b2), by simpa [go_sem] using b4⟩
  case done =>
    rintro W ⟨hI, b2, b3, b4⟩ hv hK
    have HA := Lib.hid (show stillB s = quietB s by
      unfold stillB
      rw [show allHas s = true from List.all_eq_true.2 fun z hz => by obtain ⟨j, hj, rfl⟩ := List.mem_iff_getElem.1 hz; simpa using hI j hj hj]
      rfl)
    have hE2 : Ext w W := Mv.ext_of E2 hv (fun k h => by rcases h with h | h; exact h.elim; omega)
    have rW : rowD W w.heap.size = stv s := by rw [rowD_same (hv.same w.heap.size (by omega) (by rintro (h | h) <;> first | exact h.elim | omega))]; exact rx
    have lR : Lt (w.heap.size + 1) W := by unfold Lt; omega
    have lB : Lt w.heap.size W := by unfold Lt; omega
    have HK := Lib.hid hK
    have HB2 := Lib.hid b2
    have hlk : w2.heap.size < W.heap.size := (Array.getElem?_eq_some_iff.1 hK).1
    clear hI hv hK c2 f2 k2 rx b2
    go_wp2_with (go_at_call 57; (with_reducible refine (HQ.out _ hE2).mono ?_); rintro e w4 ⟨rfl, g4⟩; have c4 : w4.cell? ⟨w.heap.size + 1, 0, none⟩ = some (.bool false) := ((g4.cell (p := ⟨w.heap.size + 1, 0, none⟩) lR).trans HB2.out); have f4 : w4.frozen? ⟨w.heap.size + 1, 0, none⟩ = false := ((g4.frozen (p := ⟨w.heap.size + 1, 0, none⟩) lR).trans b3))
    have hk4 : (w4.setCell ⟨w.heap.size + 1, 0, none⟩ (.bool (quietB s))).heap[w2.heap.size]? = some (.deferred (some [])) := by
      rw [setCell_heap_other (by omega)]; exact (g4.block _ hlk).trans HK.out
    refine ⟨by simp, .inl ⟨_, _, rfl, run_takeDeferred hk4, ?_⟩⟩
    obtain ⟨W5, hW5⟩ : ∃ W5, ((w4.setCell ⟨w.heap.size + 1, 0, none⟩ (.bool (quietB s))).putObj w2.heap.size (.deferred none)) = W5 := ⟨_, rfl⟩
    have hc5 : W5.cell? ⟨w.heap.size + 1, 0, none⟩ = some (.bool (quietB s)) := by
      rw [← hW5, cell_rowD, rowD_same (World.putObj_heap_other (by omega)), ← cell_rowD]
      exact World.cell?_setCell_same _ _ _ c4
    have hE5 : Ext w W5 := by rw [← hW5]; exact Mv.ext_of (Ext.st _ (by simp) (hE2.tr g4)) (Mv.put (C := fun k => k = w2.heap.size) _ _ _ rfl) (fun k h => by omega)
    rw [hW5]
    refine ⟨_, results_of rfl _ _ (w.heap.size + 1) rfl (loadbo hc5), by rw [HA.out], hE5⟩
  case stop =>
    rintro cc W ⟨rfl, hn, b2, b4⟩ hv hK
    have HA := Lib.hid (show stillB s = false by unfold stillB; rw [hn]; rfl)
    have hE2 : Ext w W := Mv.ext_of E2 hv (fun k h => by rcases h with h | h; exact h.elim; omega)
    refine wpIn_wide.2 ?_
    go_wp2
    refine ⟨by simp, .inl ⟨_, _, rfl, run_takeDeferred hK, ?_⟩⟩
    obtain ⟨W5, hW5⟩ : ∃ W5, (W.putObj w2.heap.size (.deferred none)) = W5 := ⟨_, rfl⟩
    have hc5 : W5.cell? ⟨w.heap.size + 1, 0, none⟩ = some (.bool false) := by
      rw [← hW5, cell_rowD, rowD_same (World.putObj_heap_other (by omega)), ← cell_rowD]
      exact b2
    have hE5 : Ext w W5 := by rw [← hW5]; exact Mv.ext_of hE2 (Mv.put (C := fun k => k = w2.heap.size) _ _ _ rfl) (fun k h => by omega)
    rw [hW5]
    refine ⟨_, results_of rfl _ _ (w.heap.size + 1) rfl (loadbo hc5), by rw [HA.out], hE5⟩

end Go.Proofs.Ytedamnocolfmlaa

/- A world at rest. -/
namespace Go.Proofs.Ytedamnocolfmlaa
open Go.RowKit

theorem enters_rest1 : ∀ args w, (callFunc 38 args).run Try.prog w = .ok (.enter 38 args) w := enters_of Try.func38 (by kernel_rfl) rfl
set_option maxHeartbeats 400000 in
theorem rest1_cl (x : Pa) (w : World) : Calls Try.prog 38 (#[.agg #[.int .u8 x.fk, .int .i64 x.fi, .int .u8 x.tk, .int .i64 x.ti, .bool x.ctl, .slice x.bp x.bn x.bc]] ++ #[]) w fun e w' => e = .returned (.bool x.ctl) ∧ Ext w w' := by
  rw [show (#[.agg #[.int .u8 x.fk, .int .i64 x.fi, .int .u8 x.tk, .int .i64 x.ti, .bool x.ctl, .slice x.bp x.bn x.bc]] ++ #[] : Array Value) = #[.agg #[.int .u8 x.fk, .int .i64 x.fi, .int .u8 x.tk, .int .i64 x.ti, .bool x.ctl, .slice x.bp x.bn x.bc]] from rfl]
  go_enter Try.func38, Try.ntmps38
  go_wp2
  go_ret
  exact ⟨rfl, by (repeat (first | with_reducible exact Ext.rf _ | with_reducible assumption | with_reducible refine Ext.al ?_ _ | with_reducible refine Ext.dr ?_ | with_reducible refine Ext.dn ?_ _ | ((with_reducible refine Ext.st _ ?_ ?_); focus (first | omega | (simp; omega) | simp)) | with_reducible refine Ext.tr ?_ (by assumption) | with_reducible refine Ext.tr ?_ (up_ext (by assumption)) | with_reducible refine Ext.of (by assumption) ?_))⟩
@[go_sem] theorem get_wd_fl (x : Wd) : (wdv x)[793]? = some (.slice x.fp x.fl x.fc) := by unfold wdv; rw [get_rowv, if_pos (by omega)]; simp [Wd.at]
@[go_sem] theorem get_wd_tr (x : Wd) : (wdv x)[794]? = some (.slice x.tp x.tl x.tc) := by unfold wdv; rw [get_rowv, if_pos (by omega)]; simp [Wd.at]
/-- A world at rest. -/
def restB (x : Wd) (ps : List Pa) : Bool := stillB x.st && !(ps.any fun p => p.ctl)
set_option maxRecDepth 20000 in
set_option maxHeartbeats 2000000 in
theorem rest_any (x : Wd) (ps : List Pa) (w : World) (hp : SlP w x.fp ps) (hn : ps.length = x.fl) (hpl : ps.length ≤ 1000) (hs : SlS w x.st.p x.st.pl) (hl : x.st.pl.length ≤ 1000) (h0 : ∀ i, i < 16 → 0 ≤ (x.st.mv i).ph) :
    Calls Try.prog 15 #[.agg (wdv x)] w fun e w' => e = .returned (.bool (restB x ps)) ∧ Ext w w' := by
  have HR := Lib.hid (fun W (hE : Ext w W) => still_any x.st W (hs.ext hE) hl h0)
  have HC := Lib.hid (fun W (hE : Ext w W) => hn ▸ containsFunc_P 38 #[] enters_rest1 (fun p => p.ctl) x.fp ps x.fc W (hp.ext hE) hpl (fun p W' _ _ => rest1_cl p W'))
  clear hs h0 hp hn hpl
  go_enter Try.func15, Try.ntmps15
  go_upto_region 1 with (fail)
  obtain ⟨W0, hW⟩ : ∃ W0, w.alloc (.cells (wdv x) 53) = W0 := ⟨_, rfl⟩
  have g0 : Ext w W0 := by rw [← hW]; exact Ext.al (Ext.rf _) _
  have rx0 : rowD W0 w.heap.size = wdv x := by rw [← hW]; simp [go_sem]
  have lx0 : Lt w.heap.size W0 := by rw [← hW]; simp [go_sem]
  rw [hW]
  clear hW
  have HRX := Lib.hid (fun W (hE : Ext W0 W) => row_ext' hE lx0 rx0)
  cases h1 : stillB x.st
  · have HB := Lib.hid (show restB x ps = false by unfold restB; rw [h1]; rfl)
    rw [h1] at HR
    go_wp2_with (go_at_call 36; (with_reducible refine (HR.out _ g0).mono ?_); rintro e w1 ⟨rfl, g1⟩)
    go_ret
    exact ⟨ret_bool HB.out.symm, g0.tr g1⟩
  · rw [h1] at HR
    have HB := Lib.hid (show restB x ps = !(ps.any fun p => p.ctl) by unfold restB; rw [h1]; rfl)
    go_wp2_with (first | (go_at_call 36; (with_reducible refine (HR.out _ g0).mono ?_); rintro e w1 ⟨rfl, g1⟩; have c793 : w1.cell? ⟨w.heap.size, 793, none⟩ = some (.slice x.fp x.fl x.fc) := (by rw [cell_rowD, HRX.out _ g1, get_wd_fl])) | (go_at_call 37; (with_reducible refine (HC.out _ (g0.tr g1)).mono ?_); rintro e w2 ⟨rfl, g2⟩))
    go_ret
    exact ⟨ret_bool HB.out.symm, (g0.tr g1).tr g2⟩

end Go.Proofs.Ytedamnocolfmlaa

/- New tables, controllers, agents, worlds: rows. -/
namespace Go.Proofs.Ytedamnocolfmlaa
open Go.RowKit

def enz : En := ⟨0, 0, 0, 0⟩
def en0 : En := ⟨-1, -1, 0, 0⟩
def tbz : Tb := ⟨0, fun _ => enz⟩
def tb0 : Tb := ⟨0, fun _ => en0⟩
def moz : Mo := ⟨0, 0, 0, 0, 0, 0⟩
def mo0 : Mo := ⟨0, -1, -1, 0, 0, 0⟩
def mdz : Md := ⟨0, 0, 0, false⟩
def md0 : Md := ⟨0, -1, 0, false⟩
def mbz : Mb := ⟨fun _ => 0, fun _ => 0⟩
def stz : St := ⟨mbz, fun _ => moz, tbz, fun _ => 0, fun _ => 0, 0, none, [], 0⟩
def clz : Cl := ⟨false, tbz⟩
def agz : Ag := ⟨0, 0, fun _ => mdz, none, [], 0⟩
def wdz : Wd := ⟨0, 0, stz, fun _ => clz, fun _ => agz, none, 0, 0, none, 0, 0, fun _ => 0⟩

theorem z_tb : Try.zeroCells33 = tbv tbz := by kernel_rfl
theorem exec_zalloc_tb (ρ : Operand → Value) (dst : Option Tmp) (ty : TypeId) (pos : String) (after : Array Edge) (g : Option (Nat × Bool)) (w : World) :
    (execOp ρ ⟨dst, .alloc 33, ty, pos, after, g⟩).run Try.prog w = .ok (.value (.pointer (some ⟨w.heap.size, 0, none⟩))) (w.alloc (.cells (tbv tbz) 33)) := by
  have h : (execOp ρ ⟨dst, .alloc 33, ty, pos, after, g⟩).run Try.prog w = .ok (.value (.pointer (some ⟨w.heap.size, 0, none⟩))) (w.alloc (.cells Try.zeroCells33 33)) := by kernel_rfl
  rw [h, z_tb]
theorem sem_zalloc_tb (l : Option Nat) (ρ : Operand → Value) (dst : Option Tmp) (ty : TypeId) (pos : String) (after : Array Edge) (g : Option (Nat × Bool)) (w : World) :
    (Oper.semAt l ρ ⟨dst, .alloc 33, ty, pos, after, g⟩).run Try.prog w = .ok (.value (.pointer (some ⟨w.heap.size, 0, none⟩))) (w.alloc (.cells (tbv tbz) 33)) := by rw [Oper.semAt_eq _ _ _ (fun c h => by cases h)]; exact exec_zalloc_tb ρ dst ty pos after g w
theorem lv_tb {w : World} {b : Nat} {x} (h : rowD w b = tbv x) : (loadVar 33 ⟨b, 0, none⟩).run Try.prog w = .ok (.agg (tbv x)) w := by
  have e := loadVar_tb (w := w) (b := b) (o := 0) (by rw [h, size_tbv]; exact Nat.le_refl _)
  have c := @cut_all_tbv x
  unfold cutD at c
  rw [h, c] at e
  exact e

theorem z_st : Try.zeroCells38 = stv stz := by kernel_rfl
theorem exec_zalloc_st (ρ : Operand → Value) (dst : Option Tmp) (ty : TypeId) (pos : String) (after : Array Edge) (g : Option (Nat × Bool)) (w : World) :
    (execOp ρ ⟨dst, .alloc 38, ty, pos, after, g⟩).run Try.prog w = .ok (.value (.pointer (some ⟨w.heap.size, 0, none⟩))) (w.alloc (.cells (stv stz) 38)) := by
  have h : (execOp ρ ⟨dst, .alloc 38, ty, pos, after, g⟩).run Try.prog w = .ok (.value (.pointer (some ⟨w.heap.size, 0, none⟩))) (w.alloc (.cells Try.zeroCells38 38)) := by kernel_rfl
  rw [h, z_st]
theorem sem_zalloc_st (l : Option Nat) (ρ : Operand → Value) (dst : Option Tmp) (ty : TypeId) (pos : String) (after : Array Edge) (g : Option (Nat × Bool)) (w : World) :
    (Oper.semAt l ρ ⟨dst, .alloc 38, ty, pos, after, g⟩).run Try.prog w = .ok (.value (.pointer (some ⟨w.heap.size, 0, none⟩))) (w.alloc (.cells (stv stz) 38)) := by rw [Oper.semAt_eq _ _ _ (fun c h => by cases h)]; exact exec_zalloc_st ρ dst ty pos after g w
theorem lv_st {w : World} {b : Nat} {x} (h : rowD w b = stv x) : (loadVar 38 ⟨b, 0, none⟩).run Try.prog w = .ok (.agg (stv x)) w := by
  have e := loadVar_st (w := w) (b := b) (o := 0) (by rw [h, size_stv]; exact Nat.le_refl _)
  have c := @cut_all_stv x
  unfold cutD at c
  rw [h, c] at e
  exact e

theorem z_ag : Try.zeroCells47 = agv agz := by kernel_rfl
theorem exec_zalloc_ag (ρ : Operand → Value) (dst : Option Tmp) (ty : TypeId) (pos : String) (after : Array Edge) (g : Option (Nat × Bool)) (w : World) :
    (execOp ρ ⟨dst, .alloc 47, ty, pos, after, g⟩).run Try.prog w = .ok (.value (.pointer (some ⟨w.heap.size, 0, none⟩))) (w.alloc (.cells (agv agz) 47)) := by
  have h : (execOp ρ ⟨dst, .alloc 47, ty, pos, after, g⟩).run Try.prog w = .ok (.value (.pointer (some ⟨w.heap.size, 0, none⟩))) (w.alloc (.cells Try.zeroCells47 47)) := by kernel_rfl
  rw [h, z_ag]
theorem sem_zalloc_ag (l : Option Nat) (ρ : Operand → Value) (dst : Option Tmp) (ty : TypeId) (pos : String) (after : Array Edge) (g : Option (Nat × Bool)) (w : World) :
    (Oper.semAt l ρ ⟨dst, .alloc 47, ty, pos, after, g⟩).run Try.prog w = .ok (.value (.pointer (some ⟨w.heap.size, 0, none⟩))) (w.alloc (.cells (agv agz) 47)) := by rw [Oper.semAt_eq _ _ _ (fun c h => by cases h)]; exact exec_zalloc_ag ρ dst ty pos after g w
theorem lv_ag {w : World} {b : Nat} {x} (h : rowD w b = agv x) : (loadVar 47 ⟨b, 0, none⟩).run Try.prog w = .ok (.agg (agv x)) w := by
  have e := loadVar_ag (w := w) (b := b) (o := 0) (by rw [h, size_agv]; exact Nat.le_refl _)
  have c := @cut_all_agv x
  unfold cutD at c
  rw [h, c] at e
  exact e

theorem z_wd : Try.zeroCells53 = wdv wdz := by kernel_rfl
theorem exec_zalloc_wd (ρ : Operand → Value) (dst : Option Tmp) (ty : TypeId) (pos : String) (after : Array Edge) (g : Option (Nat × Bool)) (w : World) :
    (execOp ρ ⟨dst, .alloc 53, ty, pos, after, g⟩).run Try.prog w = .ok (.value (.pointer (some ⟨w.heap.size, 0, none⟩))) (w.alloc (.cells (wdv wdz) 53)) := by
  have h : (execOp ρ ⟨dst, .alloc 53, ty, pos, after, g⟩).run Try.prog w = .ok (.value (.pointer (some ⟨w.heap.size, 0, none⟩))) (w.alloc (.cells Try.zeroCells53 53)) := by kernel_rfl
  rw [h, z_wd]
theorem sem_zalloc_wd (l : Option Nat) (ρ : Operand → Value) (dst : Option Tmp) (ty : TypeId) (pos : String) (after : Array Edge) (g : Option (Nat × Bool)) (w : World) :
    (Oper.semAt l ρ ⟨dst, .alloc 53, ty, pos, after, g⟩).run Try.prog w = .ok (.value (.pointer (some ⟨w.heap.size, 0, none⟩))) (w.alloc (.cells (wdv wdz) 53)) := by rw [Oper.semAt_eq _ _ _ (fun c h => by cases h)]; exact exec_zalloc_wd ρ dst ty pos after g w
theorem lv_wd {w : World} {b : Nat} {x} (h : rowD w b = wdv x) : (loadVar 53 ⟨b, 0, none⟩).run Try.prog w = .ok (.agg (wdv x)) w := by
  have e := loadVar_wd (w := w) (b := b) (o := 0) (by rw [h, size_wdv]; exact Nat.le_refl _)
  have c := @cut_all_wdv x
  unfold cutD at c
  rw [h, c] at e
  exact e

/-- What lies at a place behind cells that were laid over a row. -/
theorem fill_get (off : Nat) (vs : List Value) : ∀ (k : Nat) (cells : Array Value) (i : Nat), ((vs.zipIdx k).foldl (fun cs (x : Value × Nat) => cs.setIfInBounds (off + x.2) x.1) cells)[i]? = if off + k ≤ i ∧ i < off + k + vs.length ∧ i < cells.size then vs[i - off - k]? else cells[i]? := by
  induction vs with
  | nil => intro k cells i; simp; intros; omega
  | cons v vs ih =>
    intro k cells i
    rw [List.zipIdx_cons, List.foldl_cons, ih (k + 1)]
    simp only [Array.size_setIfInBounds, List.length_cons]
    by_cases h1 : off + (k + 1) ≤ i ∧ i < off + (k + 1) + vs.length ∧ i < cells.size
    · rw [if_pos h1, if_pos (by omega), show i - off - k = (i - off - (k + 1)) + 1 by omega, List.getElem?_cons_succ]
    · rw [if_neg h1]
      by_cases h2 : i = off + k
      · subst h2
        by_cases h3 : off + k < cells.size
        · rw [if_pos (by omega), Array.getElem?_setIfInBounds_self_of_lt h3, show off + k - off - k = 0 by omega]; rfl
        · rw [if_neg (by omega), Array.getElem?_eq_none (by simpa using h3), Array.getElem?_eq_none (by omega)]
      · rw [Array.getElem?_setIfInBounds_ne (by omega), if_neg (by omega)]
theorem fill_row (off n m : Nat) (f g : Nat → Value) (h : off + m ≤ n) : (rowv m g).zipIdx.foldl (fun cs (x : Value × Nat) => cs.setIfInBounds (off + x.2) x.1) (rowv n f) = rowv n (ovl f off m g) := by
  rw [← Array.foldl_toList, Array.toList_zipIdx]
  refine Array.ext_getElem? fun i => ?_
  rw [fill_get]
  simp only [Array.length_toList, size_rowv, get_rowv, Nat.add_zero, Nat.sub_zero]
  unfold ovl
  by_cases hi : i < n
  · by_cases hc : off ≤ i ∧ i < off + m
    · rw [if_pos (by omega), if_pos hi, if_pos hc, Array.getElem?_toList, get_rowv, if_pos (by omega)]
    · rw [if_neg (by omega), if_pos hi, if_pos hi, if_neg hc]
  · rw [if_neg (by omega), if_neg hi, if_neg hi]
theorem fill_one (off n : Nat) (f : Nat → Value) (v : Value) : (#[v] : Array Value).zipIdx.foldl (fun cs (x : Value × Nat) => cs.setIfInBounds (off + x.2) x.1) (rowv n f) = rowv n (upd f off v) := by
  show (rowv n f).setIfInBounds (off + 0) v = _
  rw [Nat.add_zero, set_rowv]
theorem cells_int' (k : IntKind) (n : Int) : (Value.int k n).cells = #[.int k n] := rfl
theorem fill_st (t : Tb) (n : Int) (place : Nat → Option (Nat × Nat)) (h2 : place 2 = some (105, 65)) (h5 : place 5 = some (189, 1)) :
    Instr.fill place (stv stz) [(2, .agg (tbv t)), (5, .int .i64 n)] = some (stv { stz with t := t, win := n }) := by
  have e1 : ((Value.agg (tbv t)).cells.zipIdx.foldl (fun cs (x : Value × Nat) => cs.setIfInBounds (105 + x.2) x.1) (stv stz)) = rowv 191 (ovl (St.at stz) 105 65 t.at) := by
    rw [cells_tbv]; exact fill_row 105 191 65 _ _ (by omega)
  have e2 : ((Value.int .i64 n).cells.zipIdx.foldl (fun cs (x : Value × Nat) => cs.setIfInBounds (189 + x.2) x.1) (rowv 191 (ovl (St.at stz) 105 65 t.at))) = stv { stz with t := t, win := n } := by
    rw [cells_int', fill_one]
    refine rowv_congr _ _ _ fun j hj => ?_
    unfold upd ovl St.at
    by_cases h1 : j = 189
    · subst h1; rfl
    · rw [if_neg h1]
      by_cases h3 : 105 ≤ j ∧ j < 105 + 65
      · rw [if_pos h3, if_neg (show ¬ j < 9 by omega), if_neg (show ¬ j < 105 by omega), if_pos (show j < 170 by omega)]
      · rw [if_neg h3]
        by_cases a1 : j < 9
        · rw [if_pos a1, if_pos a1]
        rw [if_neg a1, if_neg a1]
        by_cases a2 : j < 105
        · rw [if_pos a2, if_pos a2]
        have a5 : ¬ j < 170 := by omega
        rw [if_neg a2, if_neg a2, if_neg a5, if_neg a5]
        by_cases a3 : j < 186
        · rw [if_pos a3, if_pos a3]
        rw [if_neg a3, if_neg a3]
        by_cases a4 : j < 189
        · rw [if_pos a4, if_pos a4]
        rw [if_neg a4, if_neg a4, if_neg h1, if_neg h1]
  have c1 : ¬ ((Value.agg (tbv t)).cells.size ≠ 65 || 105 + (Value.agg (tbv t)).cells.size > (stv stz).size) = true := by rw [cells_tbv, size_tbv, size_stv]; decide
  have c2 : ¬ ((Value.int .i64 n).cells.size ≠ 1 || 189 + (Value.int .i64 n).cells.size > (rowv 191 (ovl (St.at stz) 105 65 t.at)).size) = true := by rw [cells_int', size_rowv]; simp
  unfold Instr.fill
  simp only [h2]
  rw [if_neg c1]
  unfold Instr.fill
  simp only [h5]
  rw [e1, if_neg c2]
  unfold Instr.fill
  rw [e2]

end Go.Proofs.Ytedamnocolfmlaa

/- Structs of hundreds of cells, built. -/
namespace Go.Proofs.Ytedamnocolfmlaa
open Go.RowKit

set_option maxRecDepth 100000
theorem build_struct {P : Program} {T : TypeId} {fields : Array Go.Field} {zc cells : Array Value} (places : Array (Nat × Nat)) {parts : Array (Nat × Value)} {w : World} (hz : (zeroValue T).run P w = .ok (.agg zc) w) (hu : P.underlying T = some (.struct fields))
    (hm : (fields.mapM fun (f : Go.Field) => do pure (f.offset, ← sizeOf f.type)).run P w = .ok places w) (hf : Instr.fill (places[·]?) zc parts.toList = some cells) : (Instr.build T parts).run P w = .ok (.agg cells) w := by
  have hu' := run_underlying hu w
  unfold Instr.build
  simp only [Sem.run_bind, hz, Result.andThen_ok, hu', hm, cells_agg', hf, Sem.run_pure]
@[go_sem] theorem intOf_int (k : IntKind) (n : Int) : intOf (.int k n) = n := rfl
/-- A row that is a table's; a controller's. -/
def IsTb (cs : Array Value) : Prop := ∃ t, cs = tbv t
def IsSt (cs : Array Value) : Prop := ∃ s, cs = stv s
@[go_sem] theorem isTb_tbv (t : Tb) : IsTb (tbv t) := ⟨t, rfl⟩
@[go_sem] theorem isSt_stv (s : St) : IsSt (stv s) := ⟨s, rfl⟩
def stB (cs : Array Value) (v : Value) : Value := .agg ((Instr.fill ((#[(0, 9), (9, 96), (105, 65), (170, 16), (186, 3), (189, 1), (190, 1)] : Array (Nat × Nat))[·]?) (stv stz) [(2, .agg cs), (5, v)]).getD #[])
@[go_sem] theorem stB_eq (t : Tb) (n : Int) : stB (tbv t) (.int .i64 n) = .agg (stv { stz with t := t, win := n }) := by
  unfold stB
  rw [fill_st t n _ (by kernel_rfl) (by kernel_rfl), Option.getD_some]
theorem build_st2 (t : Tb) (n : Int) (w : World) : (Instr.build 38 #[(2, .agg (tbv t)), (5, .int .i64 n)]).run Try.prog w = .ok (.agg (stv { stz with t := t, win := n })) w := by
  refine build_struct #[(0, 9), (9, 96), (105, 65), (170, 16), (186, 3), (189, 1), (190, 1)] (Try.zeroValue38 w) Try.underlying38 (by kernel_rfl) ?_
  rw [z_st]
  exact fill_st t n _ (by kernel_rfl) (by kernel_rfl)
def agOf (a b : Int) : Ag := { agz with id := a, idle := b }
theorem fill_ag (a b : Int) (place : Nat → Option (Nat × Nat)) (h0 : place 0 = some (0, 1)) (h1 : place 1 = some (1, 1)) :
    Instr.fill place (agv agz) [(0, .int .i64 a), (1, .int .i64 b)] = some (agv (agOf a b)) := by
  have e1 : ((Value.int .i64 a).cells.zipIdx.foldl (fun cs (x : Value × Nat) => cs.setIfInBounds (0 + x.2) x.1) (agv agz)) = rowv 67 (upd (Ag.at agz) 0 (.int .i64 a)) := by
    rw [cells_int']; exact fill_one 0 67 _ _
  have e2 : ((Value.int .i64 b).cells.zipIdx.foldl (fun cs (x : Value × Nat) => cs.setIfInBounds (1 + x.2) x.1) (rowv 67 (upd (Ag.at agz) 0 (.int .i64 a)))) = agv (agOf a b) := by
    unfold agOf
    rw [cells_int', fill_one]
    refine rowv_congr _ _ _ fun j hj => ?_
    unfold upd Ag.at
    by_cases h1 : j = 1
    · subst h1; rfl
    · rw [if_neg h1]
      by_cases h2 : j = 0
      · subst h2; rfl
      · rw [if_neg h2, if_neg h2, if_neg h1, if_neg h2, if_neg h1]
  have c1 : ¬ ((Value.int .i64 a).cells.size ≠ 1 || 0 + (Value.int .i64 a).cells.size > (agv agz).size) = true := by rw [cells_int', size_agv]; simp
  have c2 : ¬ ((Value.int .i64 b).cells.size ≠ 1 || 1 + (Value.int .i64 b).cells.size > (rowv 67 (upd (Ag.at agz) 0 (.int .i64 a))).size) = true := by rw [cells_int', size_rowv]; simp
  unfold Instr.fill
  simp only [h0]
  rw [if_neg c1]
  unfold Instr.fill
  simp only [h1]
  rw [e1, if_neg c2]
  unfold Instr.fill
  rw [e2]
theorem build_ag2 (a b : Int) (w : World) : (Instr.build 47 #[(0, .int .i64 a), (1, .int .i64 b)]).run Try.prog w = .ok (.agg (agv (agOf a b))) w := by
  refine build_struct #[(0, 1), (1, 1), (2, 64), (66, 1)] (Try.zeroValue47 w) Try.underlying47 (by kernel_rfl) ?_
  rw [z_ag]
  exact fill_ag a b _ (by kernel_rfl) (by kernel_rfl)
theorem fill_wd (s : St) (n : Int) (place : Nat → Option (Nat × Nat)) (h1 : place 1 = some (1, 1)) (h2 : place 2 = some (2, 191)) :
    Instr.fill place (wdv wdz) [(1, .int .i64 n), (2, .agg (stv s))] = some (wdv { wdz with idle := n, st := s }) := by
  have e1 : ((Value.int .i64 n).cells.zipIdx.foldl (fun cs (x : Value × Nat) => cs.setIfInBounds (1 + x.2) x.1) (wdv wdz)) = rowv 814 (upd (Wd.at wdz) 1 (.int .i64 n)) := by
    rw [cells_int']; exact fill_one 1 814 _ _
  have e2 : ((Value.agg (stv s)).cells.zipIdx.foldl (fun cs (x : Value × Nat) => cs.setIfInBounds (2 + x.2) x.1) (rowv 814 (upd (Wd.at wdz) 1 (.int .i64 n)))) = wdv { wdz with idle := n, st := s } := by
    rw [cells_stv]
    refine (fill_row 2 814 191 _ _ (by omega)).trans (rowv_congr _ _ _ fun j hj => ?_)
    unfold upd ovl Wd.at
    by_cases h3 : 2 ≤ j ∧ j < 2 + 191
    · rw [if_pos h3, if_neg (show ¬ j = 0 by omega), if_neg (show ¬ j = 1 by omega), if_pos (show j < 193 by omega)]
    · rw [if_neg h3]
      by_cases h1 : j = 1
      · subst h1; rfl
      · simp only [if_neg h1]
        by_cases h4 : j = 0
        · subst h4; rfl
        · have h5 : ¬ j < 193 := by omega
          simp only [if_neg h4, if_neg h5]
  have c1 : ¬ ((Value.int .i64 n).cells.size ≠ 1 || 1 + (Value.int .i64 n).cells.size > (wdv wdz).size) = true := by rw [cells_int', size_wdv]; simp
  have c2 : ¬ ((Value.agg (stv s)).cells.size ≠ 191 || 2 + (Value.agg (stv s)).cells.size > (rowv 814 (upd (Wd.at wdz) 1 (.int .i64 n))).size) = true := by rw [cells_stv, size_stv, size_rowv]; decide
  unfold Instr.fill
  simp only [h1]
  rw [if_neg c1]
  unfold Instr.fill
  simp only [h2]
  rw [e1, if_neg c2]
  unfold Instr.fill
  rw [e2]
def wdB (v : Value) (cs : Array Value) : Value := .agg ((Instr.fill ((#[(0, 1), (1, 1), (2, 191), (193, 198), (391, 402), (793, 1), (794, 1), (795, 19)] : Array (Nat × Nat))[·]?) (wdv wdz) [(1, v), (2, .agg cs)]).getD #[])
@[go_sem] theorem wdB_eq (n : Int) (s : St) : wdB (.int .i64 n) (stv s) = .agg (wdv { wdz with idle := n, st := s }) := by
  unfold wdB
  rw [fill_wd s n _ (by kernel_rfl) (by kernel_rfl), Option.getD_some]
theorem build_wd2 (n : Int) (s : St) (w : World) : (Instr.build 53 #[(1, .int .i64 n), (2, .agg (stv s))]).run Try.prog w = .ok (.agg (wdv { wdz with idle := n, st := s })) w := by
  refine build_struct #[(0, 1), (1, 1), (2, 191), (193, 198), (391, 402), (793, 1), (794, 1), (795, 19)] (Try.zeroValue53 w) Try.underlying53 (by kernel_rfl) ?_
  rw [z_wd]
  exact fill_wd s n _ (by kernel_rfl) (by kernel_rfl)

theorem exec_build_st2 (ρ : Operand → Value) (dst : Option Tmp) (a b : Operand) (ty : TypeId) (pos : String) (after : Array Edge) (g : Option (Nat × Bool)) (w : World) (ha : ρ a = .agg (ρ a).cells) (ht : IsTb (ρ a).cells) (hb : ρ b = .int .i64 (intOf (ρ b))) :
    (execOp ρ ⟨dst, .build 38 #[(2, a), (5, b)], ty, pos, after, g⟩).run Try.prog w = .ok (.value (stB (ρ a).cells (ρ b))) w := by
  obtain ⟨t, ht⟩ := ht
  rw [ht] at ha
  generalize intOf (ρ b) = n at hb
  have h := build_st2 t n w
  simp only [execOp, List.map_toArray, List.map_cons, List.map_nil, ha, hb, Sem.run_bind, h, Result.andThen_ok, Sem.run_pure]
  rw [cells_agg', stB_eq]
attribute [go_sem ↓ high] exec_build_st2

theorem exec_build_ag2 (ρ : Operand → Value) (dst : Option Tmp) (a b : Operand) (ty : TypeId) (pos : String) (after : Array Edge) (g : Option (Nat × Bool)) (w : World) (ha : ρ a = .int .i64 (intOf (ρ a))) (hb : ρ b = .int .i64 (intOf (ρ b))) :
    (execOp ρ ⟨dst, .build 47 #[(0, a), (1, b)], ty, pos, after, g⟩).run Try.prog w = .ok (.value (.agg (agv (agOf (intOf (ρ a)) (intOf (ρ b)))))) w := by
  generalize intOf (ρ a) = m at *
  generalize intOf (ρ b) = n at *
  have h := build_ag2 m n w
  simp only [execOp, List.map_toArray, List.map_cons, List.map_nil, ha, hb, Sem.run_bind, h, Result.andThen_ok, Sem.run_pure]
attribute [go_sem ↓ high] exec_build_ag2

theorem exec_build_wd2 (ρ : Operand → Value) (dst : Option Tmp) (b a : Operand) (ty : TypeId) (pos : String) (after : Array Edge) (g : Option (Nat × Bool)) (w : World) (ha : ρ a = .agg (ρ a).cells) (ht : IsSt (ρ a).cells) (hb : ρ b = .int .i64 (intOf (ρ b))) :
    (execOp ρ ⟨dst, .build 53 #[(1, b), (2, a)], ty, pos, after, g⟩).run Try.prog w = .ok (.value (wdB (ρ b) (ρ a).cells)) w := by
  obtain ⟨t, ht⟩ := ht
  rw [ht] at ha
  generalize intOf (ρ b) = n at hb
  have h := build_wd2 n t w
  simp only [execOp, List.map_toArray, List.map_cons, List.map_nil, ha, hb, Sem.run_bind, h, Result.andThen_ok, Sem.run_pure]
  rw [cells_agg', wdB_eq]
attribute [go_sem ↓ high] exec_build_wd2

end Go.Proofs.Ytedamnocolfmlaa
