/- Connections: Delete, Close. -/
import Derived.Test.YtookffaojlkfaaaC11
import Derived.Deep.RegionLaw
set_option linter.unusedSimpArgs false
set_option linter.unusedVariables false
namespace Go.Proofs.Ytookffaojlkfaaa
open Go.RowKit

/-- The cells from o on are set. -/
def setL : List Value → Nat → List Value → List Value
  | xs, _, [] => xs
  | xs, o, v :: vs => setL (xs.set o v) (o + 1) vs
theorem setL_len : ∀ (vs : List Value) (xs : List Value) (o : Nat), (setL xs o vs).length = xs.length
  | [], _, _ => rfl
  | v :: vs, xs, o => by unfold setL; rw [setL_len vs, List.length_set]
theorem setL_get : ∀ (vs : List Value) (xs : List Value) (o j : Nat), j < xs.length → (setL xs o vs)[j]? = if o ≤ j ∧ j < o + vs.length then vs[j - o]? else xs[j]?
  | [], xs, o, j, _ => by
    unfold setL
    rw [if_neg (by simp <;> omega)]
  | v :: vs, xs, o, j, hj => by
    unfold setL
    rw [setL_get vs _ _ _ (by simpa using hj), List.getElem?_set, List.length_cons]
    by_cases h : o = j
    · subst h
      rw [if_neg (by omega), if_pos rfl, if_pos hj, if_pos (by omega), Nat.sub_self]; rfl
    · by_cases h2 : o + 1 ≤ j ∧ j < o + 1 + vs.length
      · rw [if_pos h2, if_pos (by omega), show j - o = (j - (o + 1)) + 1 by omega]; rfl
      · rw [if_neg h2, if_neg h, if_neg (by omega)]
theorem own_setCells {base : Nat} {e : TypeId} {size n cap g : Nat} : ∀ (vs : List Value) (o : Nat) (w : World) (xs : List Value), w.ownsRow base e size (.slice (some ⟨g, 0, none⟩) n cap) n xs → (w.setCells g o vs).ownsRow base e size (.slice (some ⟨g, 0, none⟩) n cap) n (setL xs o vs)
  | [], _, _, _, h => h
  | v :: vs, o, w, xs, h => own_setCells vs (o + 1) _ _ (own_set h o v)
theorem own_shrink {w : World} {base : Nat} {e : TypeId} {size n m cap g : Nat} {xs : List Value} (h : w.ownsRow base e size (.slice (some ⟨g, 0, none⟩) n cap) n xs) (hm : m ≤ n) : w.ownsRow base e size (.slice (some ⟨g, 0, none⟩) m cap) m (xs.take (m * size)) := by
  have hms : m * size ≤ n * size := Nat.mul_le_mul_right _ hm
  refine ⟨by rw [List.length_take, h.1]; omega, ?_⟩
  rcases h.2 with ⟨h0, _⟩ | ⟨g', cap', cur, e1, hb, hgb, h1, h2, h3, h4⟩
  · cases h0
  · cases e1
    refine .inr ⟨g, cap, cur, rfl, hb, hgb, by omega, h2, h3, ?_⟩
    rw [← h4, List.take_take, Nat.min_eq_left hms]
theorem Mv.sc {C : Nat → Prop} {b : Nat} (hb : C b) : ∀ (vs : List Value) (o : Nat) (A B : World), Mv C A B → Mv C A (B.setCells b o vs)
  | [], _, _, _, h => h
  | v :: vs, o, A, B, h => Mv.sc hb vs (o + 1) A _ (Mv.st v (.inl hb) h)
theorem flC_app (xs ys : List Co) : flC (xs ++ ys) = flC xs ++ flC ys := by unfold flC; simp
/-- What is left behind one is taken out. -/
theorem setL_erase (xs : List Co) (k : Nat) (zs : List Value) (hk : k < xs.length) :
    (setL (setL (flC xs) (k * 6) (flC (xs.drop (k + 1)))) ((xs.length - 1) * 6) zs).take ((xs.length - 1) * 6) = flC (xs.eraseIdx k) := by
  rw [List.eraseIdx_eq_take_drop_succ, flC_app]
  have l0 := flC_len xs
  have l1 : (flC (xs.take k)).length = k * 6 := by rw [flC_len, List.length_take]; rw [Nat.min_eq_left (by omega)]
  have l2 : (flC (xs.drop (k + 1))).length = (xs.length - (k + 1)) * 6 := by rw [flC_len, List.length_drop]
  refine List.ext_getElem? fun j => ?_
  rw [List.getElem?_take]
  by_cases hj : j < (xs.length - 1) * 6
  · rw [if_pos hj, setL_get _ _ _ _ (by rw [setL_len]; omega), if_neg (by omega), setL_get _ _ _ _ (by omega)]
    by_cases h1 : k * 6 ≤ j
    · rw [if_pos (by omega), List.getElem?_append_right (by omega), l1]
    · rw [if_neg (by omega), List.getElem?_append_left (by omega)]
      have h3 : flC xs = flC (xs.take k) ++ flC (xs.drop k) := by rw [← flC_app, List.take_append_drop]
      rw [h3, List.getElem?_append_left (by omega)]
  · rw [if_neg hj, List.getElem?_eq_none (by rw [List.length_append]; omega)]
theorem some_setCells {g n : Nat} : ∀ (vs : List Value) (o : Nat) (w : World), (∀ i, i < n → (w.cell? ⟨g, i, none⟩).isSome = true) → ∀ i, i < n → ((w.setCells g o vs).cell? ⟨g, i, none⟩).isSome = true
  | [], _, _, h => h
  | v :: vs, o, w, h => some_setCells vs (o + 1) _ fun i hi => by
    have h0 := h i hi
    rw [cell_rowD] at h0 ⊢
    rw [rowD_setCell, if_pos rfl]
    simpa using h0
theorem frz_setCells {g b : Nat} : ∀ (vs : List Value) (o : Nat) (w : World), frzD (w.setCells g o vs) b = frzD w b
  | [], _, _ => rfl
  | v :: vs, o, w => (frz_setCells vs (o + 1) _).trans (frzD_setCell _ _ _ _ _)
theorem run_clear_one {P : Program} (w : World) (t e ty : TypeId) (z : Value) (ht : P.underlying t = some (.slice e)) (hv : ∀ w, (zeroValue e).run P w = .ok z w) (b o c : Nat)
    (hc : ∀ j, j < z.cells.toList.length → (w.cell? ⟨b, o + j, none⟩).isSome = true) (hf : ∀ j, j < z.cells.toList.length → w.frozen? ⟨b, o + j, none⟩ = false) (h1 : ∀ u ∈ z.cells.toList, u.oneCell' = true) :
    (Builtin.clear_ #[t] ty #[.slice (some ⟨b, o, none⟩) 1 c]).run P w = .ok (.tuple #[]) (w.setCells b o z.cells.toList) := by
  have hzc : (Builtin.zeroCells z.cells 1).toList = z.cells.toList := by
    simp [Builtin.zeroCells]
    apply List.ext_getElem
    · simp
    · intro i h1 h2
      simp at h2
      simp [Nat.mod_eq_of_lt h2, h2]
  have hst := run_storeCells_cells (P := P) b o z.cells.toList 0 w (by simpa using hc) (by simpa using hf) h1
  simp only [Nat.add_zero] at hst
  simp [Builtin.clear_, run_underlying ht, hv, hzc, hst]
set_option maxRecDepth 100000 in
set_option maxHeartbeats 4000000 in
theorem delete_any (base : Nat) (w : World) (v : Value) (xs : List Co) (k j : Nat) (hj : j = k + 1) (hl : xs.length ≤ 1000) (ho : w.ownsRow base 43 6 v xs.length (flC xs)) (hk : k < xs.length) :
    Calls Try.prog 58 #[v, .int .i64 k, .int .i64 j] w fun e w' => ∃ v', e = .returned v' ∧ w'.ownsRow base 43 6 v' (xs.eraseIdx k).length (flC (xs.eraseIdx k)) ∧ Mv (fun b => base ≤ b) w w' := by
  obtain ⟨i0, hi, hz0, hz1, hz2⟩ := info_parts info_C
  obtain ⟨g, cap, cur, rfl, hg, hgb, hc1, hcm, hcs, hct⟩ : ∃ g cap cur, v = .slice (some ⟨g, 0, none⟩) xs.length cap ∧ base ≤ g ∧ w.heap[g]? = some (.cells cur 43 (0, 0)) ∧ xs.length ≤ cap ∧ cap ≤ maxLen ∧ cur.size = cap * 6 ∧ cur.toList.take (xs.length * 6) = flC xs := by
    rcases ho.2 with ⟨_, h0⟩ | h
    · omega
    · obtain ⟨g, cap, cur, h1, h2, h3, h4, h5, h6, h7⟩ := h; exact ⟨g, cap, cur, h1, h2, h3, h4, h5, h6, h7⟩
  have hrow : rowD w g = cur := by unfold rowD; rw [hgb]
  have hfz : frzD w g = (0, 0) := by unfold frzD; rw [hgb]
  have hsome : ∀ j, j < cap * 6 → (w.cell? ⟨g, j, none⟩).isSome = true := fun j hj => by rw [cell_rowD, hrow, Array.getElem?_eq_getElem (by omega)]; rfl
  have HSM := Lib.hid hsome
  have HO := Lib.hid ho
  have hk1 : ((k : Int) == (j : Int)) = false := by rw [beq_eq_false_iff_ne]; omega
  have hic : k ≤ cap := by omega
  have hjc : j ≤ cap := by omega
  have hjl : j ≤ xs.length := by omega
  have hkj : k ≤ j := by omega
  have hkl : (k : Int) < xs.length := by omega
  obtain ⟨A, hA, hsrc⟩ : ∃ A : Addr, (if cap = j then some (⟨g, 0, none⟩ : Addr) else some ⟨g, j * 6, none⟩) = some A ∧ Hid (∀ t u, (flC (xs.drop j))[t]? = some u → w.drew.cell? (A.add t) = some u) := by
    by_cases h : cap = j
    · refine ⟨⟨g, 0, none⟩, by simp [h], fun t u hu => ?_⟩
      rw [show xs.drop j = [] from List.drop_eq_nil_of_le (by omega)] at hu
      cases hu
    · refine ⟨⟨g, j * 6, none⟩, by simp [h], fun t u hu => ?_⟩
      have ht : t < (xs.length - j) * 6 := by
        have := (List.getElem?_eq_some_iff.1 hu).1
        rwa [flC_len, List.length_drop] at this
      have e1 : (flC xs)[j * 6 + t]? = some u := by
        rw [← List.take_append_drop j xs, flC_app, List.getElem?_append_right (by rw [flC_len, List.length_take]; omega), ← hu]
        congr 1
        rw [flC_len, List.length_take]; omega
      rw [Addr.add_lit]
      show w.cell? _ = _
      rw [cell_rowD, hrow]
      rw [← hct, List.getElem?_take, if_pos (by omega), Array.getElem?_toList] at e1
      exact e1
  have s1 : Hid ((flC (xs.drop j)).length = (xs.length - j) * 6) := by rw [flC_len, List.length_drop]; rfl
  have s2 : Hid (∀ u ∈ flC (xs.drop j), u.oneCell' = true) := flC_one _
  have s3 : Hid (∀ t, t < (flC (xs.drop j)).length → (w.drew.cell? ⟨g, 0 + k * 6 + t, none⟩).isSome = true ∧ w.drew.frozen? ⟨g, 0 + k * 6 + t, none⟩ = false) := by
    intro t ht
    rw [flC_len, List.length_drop] at ht
    exact ⟨hsome _ (by omega), frozen_of_frz hfz _⟩
  obtain ⟨W1, hW1⟩ : ∃ W1, W1 = w.drew.setCells g (0 + k * 6) (flC (xs.drop j)) := ⟨_, rfl⟩
  have hs1 : ∀ i, i < cap * 6 → (W1.cell? ⟨g, i, none⟩).isSome = true := by rw [hW1]; exact some_setCells _ _ w.drew hsome
  have hf1 : frzD W1 g = (0, 0) := by rw [hW1, frz_setCells]; exact hfz
  have hlj : k + (xs.length - j) = xs.length - 1 := by omega
  have hcl : ∀ ty, (Builtin.clear_ #[22] ty #[.slice (some ⟨g, (k + (xs.length - j)) * 6, none⟩) (xs.length - (k + (xs.length - j))) (cap - (k + (xs.length - j)))]).run Try.prog W1 = .ok (.tuple #[]) (W1.setCells g ((k + (xs.length - j)) * 6) [.int .u32 0, .int .u32 0, .int .u16 0, .int .u16 0, .int .i64 0, .int .i64 0]) := fun ty => by
    rw [show xs.length - (k + (xs.length - j)) = 1 by omega]
    exact run_clear_one W1 22 43 ty (.agg #[.int .u32 0, .int .u32 0, .int .u16 0, .int .u16 0, .int .i64 0, .int .i64 0]) Try.underlying22 (fun w => by kernel_rfl) g _ _ (fun i hi => hs1 _ (by have : i < 6 := hi; omega)) (fun i hi => frozen_of_frz hf1 _) (by intro u hu; simp [Value.cells] at hu; rcases hu with rfl | rfl | rfl | rfl | rfl | rfl <;> rfl)
  have hW : Hid (W1 = w.drew.setCells g (0 + k * 6) (flC (xs.drop j))) := hW1
  have HJ := Lib.hid hj
  have hne : ¬ cap = k + (xs.length - j) := by omega
  clear hW1 hs1 hf1 hlj
  clear ho hsome hct hj
  go_enter Try.func58, Try.ntmps58
  go_wp2_with (fail)
  go_region_law (refine step_append_room rfl (.tmp 22) (.tmp 25) 22 rfl 43 i0 6 Try.underlying22 hi hz1 g 0 k cap (by simp [Act.eval, Act.put]) A (xs.length - j) (cap - j) (flC (xs.drop j)) (by simp [Act.eval, Act.put]) s1.out hsrc.out s2.out (by omega) s3.out ?_; rw [← hW.out])
  go_wp2
  have hj := HJ.out
  have h0 : w.drew.ownsRow base 43 6 (.slice (some ⟨g, 0, none⟩) xs.length cap) xs.length (flC xs) := HO.out
  have e1 : k + (xs.length - j) = xs.length - 1 := by omega
  have h1 := own_shrink (own_setCells [.int .u32 0, .int .u32 0, .int .u16 0, .int .u16 0, .int .i64 0, .int .i64 0] ((k + (xs.length - j)) * 6) _ _ (own_setCells (flC (xs.drop j)) (0 + k * 6) w.drew _ h0)) (m := k + (xs.length - j)) (by omega)
  rw [← hW.out] at h1
  refine bodyPost_ret (v := .slice (some ⟨g, 0, none⟩) (k + (xs.length - j)) cap) (by kernel_rfl) rfl ⟨_, rfl, ?_, ?_⟩
  · rw [List.length_eraseIdx_of_lt hk, ← e1]
    rw [e1, Nat.zero_add] at h1
    subst hj
    rw [setL_erase xs k _ hk] at h1
    rw [e1]
    exact h1
  · rw [hW.out]
    exact Mv.sc hg _ _ _ _ (Mv.sc hg _ _ _ _ (Mv.dr (Mv.refl _ _)))

end Go.Proofs.Ytookffaojlkfaaa
