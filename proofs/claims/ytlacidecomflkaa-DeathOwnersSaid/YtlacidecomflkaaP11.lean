/- Clone and DeleteFunc at ints; the closures of Remove and Fill. -/
import Derived.Test.YtlacidecomflkaaP10
import Derived.Lib.SliceRun
set_option linter.unusedSimpArgs false
set_option linter.unusedVariables false
namespace Go.Proofs.Ytlacidecomflkaa
open Go.RowKit

theorem info_int : (Try.prog.info? 3).map (fun i => (i.zero, i.size, i.bytes)) = some (some (.int .i64 0), 1, 8) := by kernel_rfl
theorem sl_own_row {w : World} {base : Nat} {v : Value} {ms : List Int} (h : w.ownsRow base 3 1 v ms.length (ms.map (Value.int .i64))) :
    ms = [] ∧ v = .slice none 0 0 ∨ ∃ g cap, v = .slice (some ⟨g, 0, none⟩) ms.length cap ∧ base ≤ g ∧ g < w.heap.size ∧ frzD w g = (0, 0) ∧ ms.length ≤ cap ∧ cap ≤ maxLen ∧ ∀ k (hk : k < ms.length), w.cell? ⟨g, k, none⟩ = some (.int .i64 ms[k]) := by
  rcases h.2 with ⟨rfl, h0⟩ | ⟨g, cap, cur, rfl, hg, hgb, h1, h2, h3, h4⟩
  · exact .inl ⟨List.length_eq_zero_iff.1 h0, rfl⟩
  · refine .inr ⟨g, cap, rfl, hg, (Array.getElem?_eq_some_iff.1 hgb).1, by unfold frzD; rw [hgb], h1, h2, fun k hk => ?_⟩
    have hu : (ms.map (Value.int .i64))[k]? = some (.int .i64 ms[k]) := by simp [hk]
    rw [← h4, List.getElem?_take_of_lt (by omega)] at hu
    simp only [World.cell?, hgb]
    simpa using hu
set_option maxRecDepth 20000 in
set_option maxHeartbeats 2000000 in
theorem clone_any (p : Option Addr) (ms : List Int) (c : Nat) (w : World) (hs : Sl w p ms) (hlen : ms.length ≤ 1000) :
    Calls Try.prog 51 #[.slice p ms.length c] w fun e w' => ∃ v, e = .returned v ∧ w'.ownsRow w.heap.size 3 1 v ms.length (ms.map (Value.int .i64)) ∧ Ext w w' := by
  obtain ⟨i0, hi, hz0, hz1, hz2⟩ := info_parts info_int
  have hnil := fun (W : World) (a : Option Addr) (n c : Nat) => Lib.run_eql_slice_nil (P := Try.prog) W 23 3 a n c 0 0 Try.underlying23
  cases p with
  | none =>
    have h0 : ms = [] := by
      cases ms with
      | nil => rfl
      | cons m r => obtain ⟨b, off, h, _⟩ := hs 0 (by simp); cases h
    subst h0
    go_enter Try.func51, Try.ntmps51
    go_wp2
    go_ret
    exact ⟨_, rfl, World.ownsRow_nil _ _ _ _, Ext.rf _⟩
  | some a =>
    have own0 : (w.alloc (.cells #[] 3)).ownsRow w.heap.size 3 1 (.slice (some ⟨w.heap.size, 0, none⟩) 0 0) 0 [] := ⟨rfl, .inr ⟨w.heap.size, 0, #[], rfl, Nat.le_refl _, World.alloc_heap_new _ _, Nat.le_refl _, by unfold maxLen; omega, rfl, rfl⟩⟩
    have hnews : ∀ j u, (ms.map (Value.int .i64))[j]? = some u → (w.alloc (.cells #[] 3)).cell? (a.add j) = some u := by
      intro j u hu
      have hj : j < ms.length := by simpa using (List.getElem?_eq_some_iff.1 hu).1
      obtain ⟨b, off, h, hb, hc⟩ := hs j hj
      cases h
      have e : (⟨b, off, none⟩ : Addr).add j = ⟨b, off + j, none⟩ := by unfold Addr.add; split <;> simp_all
      rw [e, World.cell?_alloc_past _ _ _ hb, hc, ← hu]; simp [hj]
    have HN := Lib.hid hnews
    have HO := Lib.hid own0
    clear hnews own0 hs
    go_enter Try.func51, Try.ntmps51
    go_wp2_with (at_builtin; refine wpList_append_own _ rfl _ _ 23 rfl w.heap.size 3 i0 (.int .i64 0) 1 8 Try.underlying23 hi hz0 hz1 hz2 rfl (by decide) _ _ _ rfl HO.out a ms.length c (ms.map (Value.int .i64)) rfl (by simp) HN.out (by simp [Value.oneCell']) (by unfold maxLen; omega) (by omega) (by simp) ?_; intro v' w2 hown' hgrow _; have HOW := Lib.hid hown'; have HG := Lib.hid hgrow; clear hown' hgrow)
    go_ret
    refine ⟨v', rfl, ?_, ?_⟩
    · have := HOW.out; rw [Nat.zero_add, List.nil_append] at this; exact this
    · exact Mv.ext (C := fun k => k = w.heap.size) ((Mv.al _ (Mv.refl _ _)).trans (Mv.of_grown HG.out fun r e => .inl (by have e' : some w.heap.size = some r := e; injection e' with h; exact h.symm))) (fun k hk e => by omega)

theorem filter_take (pr : Int → Bool) (ms : List Int) (j : Nat) (h : j < ms.length) : (ms.take (j + 1)).filter (fun x => !pr x) = (ms.take j).filter (fun x => !pr x) ++ (if pr ms[j] then [] else [ms[j]]) := by
  rw [List.take_succ_eq_append_getElem h, List.filter_append]
  cases hp : pr ms[j] <;> simp [hp]
/-- What holds in DeleteFunc's loop: i are kept of the first j. -/
def DelRel (pr : Int → Bool) (ms : List Int) (B : Nat) (w : World) (i j : Nat) (wr : World) : Prop :=
  i = ((ms.take j).filter fun x => !pr x).length ∧ i < j ∧ j ≤ ms.length ∧ (∀ k, k < i → wr.cell? ⟨B, k, none⟩ = some (.int .i64 (((ms.take j).filter fun x => !pr x)[k]?.getD 0))) ∧
  (∀ k, j ≤ k → k < ms.length → wr.cell? ⟨B, k, none⟩ = some (.int .i64 (ms[k]?.getD 0))) ∧ (∀ k, k < ms.length → (wr.cell? ⟨B, k, none⟩).isSome = true) ∧ frzD wr B = (0, 0) ∧ Lt B wr ∧ Mv (fun k => k = B) w wr
set_option maxRecDepth 20000 in
set_option maxHeartbeats 4000000 in
theorem delete_any (g : Nat) (lb : Array Value) (eg : ∀ args w, (callFunc g args).run Try.prog w = .ok (.enter g args) w) (pr : Int → Bool) (B cap : Nat) (ms : List Int) (w : World) (hlen : ms.length ≤ 1000) (hcap : ms.length ≤ cap) (hcapm : cap ≤ maxLen)
    (hc : ∀ k (hk : k < ms.length), w.cell? ⟨B, k, none⟩ = some (.int .i64 ms[k])) (hz : frzD w B = (0, 0)) (hB : Lt B w)
    (hf : ∀ x W, Mv (fun k => k = B) w W → Calls Try.prog g (#[.int .i64 x] ++ lb) W fun e w' => e = .returned (.bool (pr x)) ∧ Ext W w') :
    Calls Try.prog 50 #[.slice (some ⟨B, 0, none⟩) ms.length cap, .func (.func g) #[] lb] w fun e w' =>
      ∃ c', e = .returned (.slice (some ⟨B, 0, none⟩) (ms.filter fun x => !pr x).length c') ∧ (ms.filter fun x => !pr x).length ≤ c' ∧ Sl w' (some ⟨B, 0, none⟩) (ms.filter fun x => !pr x) ∧ Mv (fun k => k = B) w w' := by
  have hs : Sl w (some ⟨B, 0, none⟩) ms := fun k hk => ⟨B, 0, rfl, hB, by rw [Nat.zero_add, hc k hk]; simp [hk]⟩
  have HF := Lib.hid hf
  have HEG := Lib.hid eg
  have HC := Lib.hid hc
  clear hf hc
  unfold maxLen at hcapm
  by_cases hany : ms.any pr = true
  · obtain ⟨i0, hi0, hp0, hno⟩ : ∃ i0, ∃ h : i0 < ms.length, pr ms[i0] = true ∧ ∀ j (hj : j < i0), pr (ms[j]'(by omega)) = false := by
      have h1 : ms.findIdx pr < ms.length := List.findIdx_lt_length_of_exists (List.any_eq_true.1 hany)
      refine ⟨ms.findIdx pr, h1, List.findIdx_getElem (w := h1), fun j hj => ?_⟩
      have := List.not_of_lt_findIdx hj
      simpa using this
    have HX := Lib.hid (idx_some pr ms i0 hi0 hno hp0)
    have hne1 : ((i0 : Int) == -1) = false := by rw [beq_eq_false_iff_ne]; omega
    have hf0 : (ms.take i0).filter (fun x => !pr x) = ms.take i0 := List.filter_eq_self.2 fun x hx => by
      obtain ⟨j, hj, rfl⟩ := List.mem_iff_getElem.1 hx
      have hj' : j < i0 := by simp at hj; omega
      simp [hno j hj']
    have hf1 : (ms.take (i0 + 1)).filter (fun x => !pr x) = ms.take i0 := by rw [filter_take pr ms i0 hi0, hp0, hf0]; simp
    have hfin : ∀ j, j ≤ ms.length → ((ms.take j).filter fun x => !pr x).length ≤ j := fun j hj => Nat.le_trans (List.length_filter_le _ _) (by simp; omega)
    have HF1 := Lib.hid hf1
    have HFI := Lib.hid hfin
    clear hf0 hf1 hfin hno hp0 hany
    go_enter Try.func50, Try.ntmps50
    go_wp2_with (go_at_call 75; (with_reducible refine (indexFunc_any g lb HEG.out pr _ ms cap _ hs hlen (fun x W _ he => HF.out x W (Mv.of_ext he))).mono ?_); rw [HX.out]; rintro e w1 ⟨rfl, hb⟩)
    have hz1 : frzD w1 B = (0, 0) := by unfold frzD; rw [hb.block B hB]; exact hz
    have hB1 : Lt B w1 := Nat.lt_of_lt_of_le hB hb.size
    have HC1 := Lib.hid (fun k (hk : k < ms.length) => (hb.cell (p := ⟨B, k, none⟩) hB).trans (HC.out k hk))
    have HM1 := Lib.hid (Mv.of_ext (C := fun k => k = B) hb)
    clear hb hz
    go_loopw [5, 6, 7] (fun a b _ wr => ∃ i j : Nat, a = .int .i64 i ∧ b = .int .i64 j ∧ DelRel pr ms B w i j wr) (fun _ b _ _ => ms.length - (intOf b).toNat)
    case atStart =>
      refine ⟨i0, i0 + 1, rfl, by go_num, ?_, by omega, by omega, ?_, ?_, ?_, hz1, hB1, HM1.out⟩
      · rw [HF1.out]; simp; omega
      · intro k hk; rw [HF1.out, HC1.out k (by omega)]; simp [hk, show k < ms.length by omega]
      · intro k _ hk; rw [HC1.out k hk]; simp [hk]
      · intro k hk; rw [HC1.out k hk]; rfl
    case round =>
      clear HC1 HM1 hz1 hB1
      obtain ⟨i, j, rfl, rfl, hi, hij, hj, hk1, hk2, hk3, hZ, hL, hM⟩ := hrel
      have hiL : (i : Int) < ms.length := by omega
      have hiL' : i < ms.length := by omega
      have hic : (i : Int) < cap := by omega
      have hic' : i < cap := by omega
      by_cases hlt : j < ms.length
      · have hcell := hk2 j (Nat.le_refl _) hlt
        have hjl : (j : Int) < ms.length := by omega
        have e1 : ms[j]?.getD 0 = ms[j] := by simp [hlt]
        have HFT := Lib.hid (filter_take pr ms j hlt)
        have HK1 := Lib.hid hk1
        have HK2 := Lib.hid hk2
        have HK3 := Lib.hid hk3
        have HMV := Lib.hid hM
        have HI := Lib.hid hi
        rw [e1] at hcell
        generalize hv : ms[j] = v at hcell HFT
        have HV := Lib.hid hv
        have HD := HF.out v wr hM
        clear hk1 hk2 hk3 hM hi e1 hv
        cases hp : pr v
        · rw [hp] at HD HFT
          have HDD := Lib.hid HD
          clear HD hp
          have hci : ∃ u, wr.cell? ⟨B, i, none⟩ = some u := Option.isSome_iff_exists.1 (HK3.out i hiL')
          obtain ⟨u, hu⟩ := hci
          have hfr := frozen_of_frz hZ i
          go_wp2_with ((with_reducible refine (HDD.out).mono ?_); rintro e w2 ⟨rfl, hb2⟩; have hu2 := (hb2.cell (p := ⟨B, i, none⟩) hL).trans hu; have hfr2 := frozen_of_frz (show frzD w2 B = (0, 0) by unfold frzD; rw [hb2.block B hL]; exact hZ) i)
          go_roundw
          case rel =>
            have keep : ∀ k, w2.cell? ⟨B, k, none⟩ = wr.cell? ⟨B, k, none⟩ := fun k => hb2.cell (p := ⟨B, k, none⟩) hL
            have hset : ∀ k, k ≠ i → (w2.setCell ⟨B, i, none⟩ (.int .i64 v)).cell? ⟨B, k, none⟩ = wr.cell? ⟨B, k, none⟩ := fun k hk => by
              rw [World.cell?_setCell_other _ _ _ _ (by intro e; cases e; exact hk rfl), keep]
            have hsame : (w2.setCell ⟨B, i, none⟩ (.int .i64 v)).cell? ⟨B, i, none⟩ = some (.int .i64 v) := World.cell?_setCell_same _ _ _ hu2
            refine ⟨i + 1, j + 1, by go_num, by go_num, ?_, by omega, by omega, ?_, ?_, ?_, ?_, ?_, ?_⟩
            · rw [HFT.out]; simp [← HI.out]
            · intro k hk
              rw [HFT.out]
              rcases Nat.lt_or_ge k i with h | h
              · rw [hset k (by omega), HK1.out k h, List.getElem?_append_left (by rw [← HI.out]; exact h)]
              · obtain rfl : k = i := by omega
                rw [hsame, List.getElem?_append_right (by rw [← HI.out]; exact Nat.le_refl _)]; simp [← HI.out]
            · intro k h1 h2; rw [hset k (by omega)]; exact HK2.out k (by omega) h2
            · intro k hk
              by_cases h : k = i
              · subst h; rw [hsame]; rfl
              · rw [hset k h]; exact HK3.out k hk
            · rw [frzD_setCell]; unfold frzD; rw [hb2.block B hL]; exact hZ
            · rw [Lt_setCell]; exact Nat.lt_of_lt_of_le hL hb2.size
            · exact Mv.st _ (.inl rfl) (HMV.out.tr hb2)
          case measure => simp [intOf]; omega
        · rw [hp] at HD HFT
          have HDD := Lib.hid HD
          clear HD hp
          go_wp2_with ((with_reducible refine (HDD.out).mono ?_); rintro e w2 ⟨rfl, hb2⟩)
          go_roundw
          case rel =>
            have keep : ∀ k, w2.cell? ⟨B, k, none⟩ = wr.cell? ⟨B, k, none⟩ := fun k => hb2.cell (p := ⟨B, k, none⟩) hL
            have hft : (ms.take (j + 1)).filter (fun x => !pr x) = (ms.take j).filter (fun x => !pr x) := by rw [HFT.out]; simp
            refine ⟨i, j + 1, rfl, by go_num, by rw [hft]; exact HI.out, by omega, by omega, ?_, ?_, ?_, ?_, Nat.lt_of_lt_of_le hL hb2.size, HMV.out.tr hb2⟩
            · intro k hk; rw [hft, keep]; exact HK1.out k hk
            · intro k h1 h2; rw [keep]; exact HK2.out k (by omega) h2
            · intro k hk; rw [keep]; exact HK3.out k hk
            · unfold frzD; rw [hb2.block B hL]; exact hZ
          case measure => simp [intOf]; omega
      · obtain rfl : j = ms.length := by omega
        rw [List.take_length] at hi hk1
        have hclr : ∀ ty, (Builtin.clear_ #[23] ty #[.slice (some ⟨B, i, none⟩) (ms.length - i) (cap - i)]).run Try.prog wr = .ok (.tuple #[]) (wr.setCells B i (List.replicate (ms.length - i) (.int .i64 0))) := fun ty =>
          Lib.run_clear_slice wr 23 3 ty (.int .i64 0) Try.underlying23 (fun w => by kernel_rfl) rfl rfl B i (ms.length - i) (cap - i) (by omega) (fun k hk => hk3 (i + k) (by omega)) (fun k _ => frozen_of_frz hZ _)
        have HK1 := Lib.hid hk1
        have HI := Lib.hid hi
        have HMV := Lib.hid hM
        clear hk1 hk2 hk3 hi hM
        go_wp2
        go_ret
        have HIO := HI.out
        obtain ⟨h1, h2, h3, h4, h5, _⟩ := setCells_shape B (List.replicate (ms.length - i) (.int .i64 0)) i wr
        refine ⟨cap, ?_, by omega, fun k hk => ⟨B, 0, rfl, by rw [h1]; exact hL, ?_⟩, HMV.out.trans ⟨h3, h4, h5, by rw [h1]; exact Nat.le_refl _, fun k _ hk => h2 k hk⟩⟩
        · rw [← HIO]; rfl
        · rw [Nat.zero_add, World.cell?_setCells_out B _ i wr ⟨B, k, none⟩ (fun _ _ => .inl (by show k < i; omega))]
          exact HK1.out k (by omega)
  · have hx := idx_none pr ms (fun k hk => by
      cases h : pr ms[k]
      · rfl
      · exact absurd (List.any_eq_true.2 ⟨_, List.getElem_mem hk, h⟩) hany)
    have hfl : (ms.filter fun x => !pr x) = ms := List.filter_eq_self.2 fun x hx => by
      cases h : pr x
      · rfl
      · exact absurd (List.any_eq_true.2 ⟨_, hx, h⟩) hany
    have HX := Lib.hid hx
    clear hx
    rw [hfl]
    have HFL := Lib.hid hfl
    clear hfl hany
    go_enter Try.func50, Try.ntmps50
    go_wp2_with (go_at_call 75; (with_reducible refine (indexFunc_any g lb HEG.out pr _ ms cap _ hs hlen (fun x W _ he => HF.out x W (Mv.of_ext he))).mono ?_); rw [HX.out]; rintro e w' ⟨rfl, hb⟩)
    go_ret
    exact ⟨cap, rfl, hcap, hs.ext hb, Mv.of_ext hb⟩

set_option maxHeartbeats 1000000 in
theorem delete_row (g : Nat) (lb : Array Value) (eg : ∀ args w, (callFunc g args).run Try.prog w = .ok (.enter g args) w) (pr : Int → Bool) (base : Nat) (v : Value) (ms : List Int) (w : World) (hlen : ms.length ≤ 1000)
    (h : w.ownsRow base 3 1 v ms.length (ms.map (Value.int .i64))) (hf : ∀ x W, Mv (fun k => base ≤ k) w W → Calls Try.prog g (#[.int .i64 x] ++ lb) W fun e w' => e = .returned (.bool (pr x)) ∧ Ext W w') :
    Calls Try.prog 50 #[v, .func (.func g) #[] lb] w fun e w' =>
      ∃ p' c', e = .returned (.slice p' (ms.filter fun x => !pr x).length c') ∧ (ms.filter fun x => !pr x).length ≤ c' ∧ Sl w' p' (ms.filter fun x => !pr x) ∧ Mv (fun k => base ≤ k) w w' := by
  rcases sl_own_row h with ⟨rfl, rfl⟩ | ⟨b, cap, rfl, hb, hbl, hz, hcap, hcm, hc⟩
  · have HF := Lib.hid hf
    have HEG := Lib.hid eg
    clear hf
    have hc0 : Calls Try.prog 75 #[.slice none 0 0, .func (.func g) #[] lb] w fun e w' => e = .returned (.int .i64 (-1)) ∧ Ext w w' := indexFunc_any g lb HEG.out pr none [] 0 w (Sl.nil _ _) (by simp) (fun x W hx _ => by simp at hx)
    have HC0 := Lib.hid hc0
    clear hc0 h
    go_enter Try.func50, Try.ntmps50
    go_wp2_with (go_at_call 75; (with_reducible refine (HC0.out).mono ?_); rintro e w' ⟨rfl, hb⟩)
    go_ret
    exact ⟨none, 0, rfl, Nat.le_refl _, Sl.nil _ _, Mv.of_ext hb⟩
  · refine (delete_any g lb eg pr b cap ms w hlen hcap hcm hc hz hbl fun x W hm => hf x W (hm.mono fun k _ e => by omega)).mono fun e w' h => ?_
    obtain ⟨c', h1, h2, h3, h4⟩ := h
    exact ⟨_, c', h1, h2, h3, h4.mono fun k _ e => by omega⟩

set_option maxHeartbeats 400000 in
theorem Remove1_any (x who : Int) (B : Nat) (w : World) (hc : w.cell? ⟨B, 0, none⟩ = some (.int .i64 who)) :
    Calls Try.prog 52 #[.int .i64 x, .pointer (some ⟨B, 0, none⟩)] w fun e w' => e = .returned (.bool (x == who)) ∧ w = w' := by
  go_enter Try.func52, Try.ntmps52
  go_wp2
  go_ret
  exact ⟨rfl, rfl⟩
theorem enters_Remove1 : ∀ args w, (callFunc 52 args).run Try.prog w = .ok (.enter 52 args) w := enters_of Try.func52 (by kernel_rfl) rfl

set_option maxHeartbeats 400000 in
theorem Remove2_any (x who : Int) (B : Nat) (w : World) (hc : w.cell? ⟨B, 0, none⟩ = some (.int .i64 who)) :
    Calls Try.prog 55 #[.int .i64 x, .pointer (some ⟨B, 0, none⟩)] w fun e w' => e = .returned (.bool (x == who)) ∧ w = w' := by
  go_enter Try.func55, Try.ntmps55
  go_wp2
  go_ret
  exact ⟨rfl, rfl⟩
theorem enters_Remove2 : ∀ args w, (callFunc 55 args).run Try.prog w = .ok (.enter 55 args) w := enters_of Try.func55 (by kernel_rfl) rfl

set_option maxHeartbeats 400000 in
theorem Fill1_any (x : Int) (p : Option Addr) (ms : List Int) (c B : Nat) (w : World) (hc : w.cell? ⟨B, 0, none⟩ = some (.slice p ms.length c)) (hs : Sl w p ms) (hlen : ms.length ≤ 1000) :
    Calls Try.prog 57 #[.int .i64 x, .pointer (some ⟨B, 0, none⟩)] w fun e w' => e = .returned (.bool (!ms.any (x == ·))) ∧ w = w' := by
  go_enter Try.func57, Try.ntmps57
  go_wp2_with (go_at_call 45; (with_reducible refine (contains_any x p ms c _ hs hlen).mono ?_); rintro e w' ⟨rfl, rfl⟩)
  go_ret
  exact ⟨rfl, rfl⟩
theorem enters_Fill1 : ∀ args w, (callFunc 57 args).run Try.prog w = .ok (.enter 57 args) w := enters_of Try.func57 (by kernel_rfl) rfl

end Go.Proofs.Ytlacidecomflkaa
