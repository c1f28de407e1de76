/- Lemmas of this claim, put together out of: C14, C15, C13, C16, J1, H1, H2, H3, H4, XW, HW. -/
import Derived.Test.YtookffaojlkfaaaMA2
import Derived.Lib.Overlaps
import Derived.Lib.AppendZerosOnto
import Derived.Laws.IdiomCopy
import Derived.Laws.NewBlocks
import Derived.Laws.Externs
import Derived.Lib.SliceRun
import Derived.Maps.AppendAt
import Derived.OwnWalkIn
import Derived.TacticsInMore
import Derived.LoopNIn
import Derived.LoopIn
import Derived.Stop.RegionWithIn
set_option linter.unusedSimpArgs false
set_option linter.unusedVariables false
/- slices.Insert where there is room, and where there is none. -/
namespace Go.Proofs.Ytookffaojlkfaaa
open Go.RowKit

/-- COPY AT ANY SIZE OF THE ELEMENT. -/
theorem run_copy_wide {P : Program} (w : World) (dT sT ty elem : TypeId) (size b o dLen dCap : Nat) (a : Addr) (sLen sCap : Nat) (cs : List Value)
    (hu : P.underlying dT = some (.slice elem)) (hs : (P.info? elem).map (·.size) = some size) (hn : cs.length = Nat.min sLen dLen * size)
    (hsrc : ∀ j v, cs[j]? = some v → w.cell? (a.add j) = some v) (hc : ∀ j, j < cs.length → (w.cell? ⟨b, o + j, none⟩).isSome = true) (hf : ∀ j, j < cs.length → w.frozen? ⟨b, o + j, none⟩ = false) (h1 : ∀ v ∈ cs, v.oneCell' = true) :
    (Builtin.copy_ #[dT, sT] ty #[.slice (some ⟨b, o, none⟩) dLen dCap, .slice (some a) sLen sCap]).run P w = .ok (goInt (Nat.min sLen dLen : Nat)) (w.setCells b o cs) := by
  have hl := run_loadCells_list (P := P) w a cs hsrc
  have hst := run_storeCells_cells (P := P) b o cs 0 w (by simpa using hc) (by simpa using hf) h1
  cases hq : P.info? elem with
  | none => simp [hq] at hs
  | some i =>
    have hi : i.size = size := by simpa [hq] using hs
    simp only [Nat.add_zero] at hst
    have hm : Nat.min sLen dLen = min sLen dLen := rfl
    rw [hm] at hn
    simp [Builtin.copy_, run_underlying hu, Builtin.lenOf, Builtin.firstCells, sizeOf, typeInfo, hq, hi, ← hn, hl, hst]
theorem wp_copy_runJ {P : Program} (w : World) {o : Oper} {a : Act} {K : Act → World → Prop} {Q : Exit → Act → World → Prop} (d s : Operand) (t t' : TypeId)
    (ho : o.op = .call { callee := .builtin .copy, args := #[d, s], argTypes := #[t, t'] }) (v u : Value) (hd : a.eval d = v) (hs : a.eval s = u) {v' : Value} {w' : World}
    (hr : (Builtin.copy_ #[t, t'] o.type #[v, u]).run P w = .ok v' w') (h : K (a.put o.dst v') w') : o.wp P a w K Q := by
  unfold Oper.wp execOp
  simp only [ho, resolve, invoke, builtin, Sem.run_bind, Sem.run_pure, Result.andThen_ok, List.map_toArray, List.map_cons, List.map_nil, hd, hs, hr]
  exact h
theorem wpList_copy_runJ {P : Program} (w : World) {ops : Array Oper} {rest : List Oper} {o : Oper} {a : Act} {Q : Exit → Act → World → Prop} (hgd : o.guard = none) (d s : Operand) (t t' : TypeId)
    (ho : o.op = .call { callee := .builtin .copy, args := #[d, s], argTypes := #[t, t'] }) (v u : Value) (hd : a.eval d = v) (hs : a.eval s = u) {v' : Value} {w' : World}
    (hr : (Builtin.copy_ #[t, t'] o.type #[v, u]).run P w = .ok v' w') (h : wpList P ops Q rest (a.put o.dst v') w') : wpList P ops Q (o :: rest) a w :=
  wpList_plain hgd fun _ hK => wp_copy_runJ w d s t t' ho v u hd hs hr (hK _ _ h)
theorem step_copy_runJ {P : Program} {ops : Array Oper} {o : Oper} {a : Act} {w : World} {K : Act → World → Prop} {Q : Exit → Act → World → Prop} {E : Prop}
    (hg : o.guard = none) (d x : Operand) (dT sT : TypeId) (hop : o.op = Op.call { callee := Callee.builtin Builtin.copy, args := #[d, x], argTypes := #[dT, sT] })
    (v u : Value) (hd : a.eval d = v) (hx : a.eval x = u) {v' : Value} {w' : World} (hr : (Builtin.copy_ #[dT, sT] o.type #[v, u]).run P w = .ok v' w') (hK : K (a.put o.dst v') w') :
    if Region.wanted o (yielded ops a.tmps) = true then Oper.wp P o a w K Q else E := by
  have hw : Region.wanted o (yielded ops a.tmps) = true := by simp [Region.wanted, hg]
  rw [if_pos hw]
  unfold Oper.wp
  simp [execOp, hop, resolve, invoke, builtin, hd, hx, hr, Result.andThen]
  exact hK
/-- What a block holds behind cells being set. -/
theorem cells_setCells {g : Nat} {T : TypeId} {z : Nat × Nat} : ∀ (vs : List Value) (o : Nat) (w : World) (cur : Array Value), w.heap[g]? = some (.cells cur T z) → ∃ cur' : Array Value, (w.setCells g o vs).heap[g]? = some (.cells cur' T z) ∧ cur'.toList = setL cur.toList o vs
  | [], _, w, cur, h => ⟨cur, h, rfl⟩
  | v :: vs, o, w, cur, h => by
    have h1 : (w.setCell ⟨g, o, none⟩ v).heap[g]? = some (.cells (cur.setIfInBounds o v) T z) := by
      simp only [World.setCell]
      rw [Array.getElem?_modify, if_pos rfl, h]; rfl
    obtain ⟨cur', h2, h3⟩ := cells_setCells vs (o + 1) _ _ h1
    exact ⟨cur', h2, by rw [h3, Array.toList_setIfInBounds]; rfl⟩
theorem own_mk {w : World} {base g : Nat} {e : TypeId} {size n cap : Nat} {cur : Array Value} {xs : List Value} (hb : base ≤ g) (hg : w.heap[g]? = some (.cells cur e (0, 0))) (hn : n ≤ cap) (hm : cap ≤ maxLen) (hs : cur.toList.length = cap * size) (hx : cur.toList.take (n * size) = xs) :
    w.ownsRow base e size (.slice (some ⟨g, 0, none⟩) n cap) n xs := by
  refine ⟨?_, .inr ⟨g, cap, cur, rfl, hb, hg, hn, hm, by simpa using hs, hx⟩⟩
  rw [← hx, List.length_take, hs]
  exact Nat.min_eq_left (Nat.mul_le_mul_right _ hn)
/-- ONE IS LAID IN BETWEEN, in place: what stands behind it is moved first. -/
theorem setL_in (cur cs vs : List Value) (i n s : Nat) (hi : i ≤ n) (hcs : cur.take (n * s) = cs) (hcl : cs.length = n * s) (hvl : vs.length = s) (hcur : (n + 1) * s ≤ cur.length) :
    (setL (setL cur ((i + 1) * s) (cs.drop (i * s))) (i * s) vs).take ((n + 1) * s) = cs.take (i * s) ++ vs ++ cs.drop (i * s) := by
  have e1 : (i + 1) * s = i * s + s := by rw [Nat.add_mul, Nat.one_mul]
  have e2 : (n + 1) * s = n * s + s := by rw [Nat.add_mul, Nat.one_mul]
  have e3 : i * s ≤ n * s := Nat.mul_le_mul_right _ hi
  rw [e1, e2]
  rw [e2] at hcur
  generalize i * s = p at *
  generalize n * s = q at *
  refine List.ext_getElem? fun j => ?_
  rw [List.getElem?_take]
  have ld : (cs.drop p).length = q - p := by rw [List.length_drop, hcl]
  have lt : (cs.take p).length = p := by rw [List.length_take, hcl]; omega
  by_cases hj : j < q + s
  · rw [if_pos hj, setL_get _ _ _ _ (by rw [setL_len]; omega), hvl]
    by_cases h1 : p ≤ j ∧ j < p + s
    · rw [if_pos h1, List.getElem?_append_left (by rw [List.length_append, lt, hvl]; omega), List.getElem?_append_right (by omega), lt]
    · rw [if_neg h1, setL_get _ _ _ _ (by omega), ld]
      by_cases h2 : p + s ≤ j
      · rw [if_pos ⟨h2, by omega⟩, List.getElem?_append_right (by rw [List.length_append, lt, hvl]; omega), List.length_append, lt, hvl]
      · rw [if_neg (fun h => h2 h.1), List.append_assoc, List.getElem?_append_left (by omega), List.getElem?_take_of_lt (by omega), ← hcs, List.getElem?_take_of_lt (by omega)]
  · rw [if_neg hj, List.getElem?_eq_none (by rw [List.length_append, List.length_append, lt, ld, hvl]; omega)]
/-- .. and in a new row. -/
theorem setL_new (cur cs vs r : List Value) (i n s : Nat) (hi : i ≤ n) (hcur : cur = cs.take (i * s) ++ r) (hcl : cs.length = n * s) (hvl : vs.length = s) (hlen : (n + 1) * s ≤ cur.length) :
    (setL (setL cur (i * s) vs) ((i + 1) * s) (cs.drop (i * s))).take ((n + 1) * s) = cs.take (i * s) ++ vs ++ cs.drop (i * s) := by
  have e1 : (i + 1) * s = i * s + s := by rw [Nat.add_mul, Nat.one_mul]
  have e2 : (n + 1) * s = n * s + s := by rw [Nat.add_mul, Nat.one_mul]
  have e3 : i * s ≤ n * s := Nat.mul_le_mul_right _ hi
  rw [e1, e2]
  rw [e2] at hlen
  generalize i * s = p at *
  generalize n * s = q at *
  refine List.ext_getElem? fun j => ?_
  rw [List.getElem?_take]
  have ld : (cs.drop p).length = q - p := by rw [List.length_drop, hcl]
  have lt : (cs.take p).length = p := by rw [List.length_take, hcl]; omega
  by_cases hj : j < q + s
  · rw [if_pos hj, setL_get _ _ _ _ (by rw [setL_len]; omega), ld]
    by_cases h2 : p + s ≤ j
    · rw [if_pos ⟨h2, by omega⟩, List.getElem?_append_right (by rw [List.length_append, lt, hvl]; omega), List.length_append, lt, hvl]
    · rw [if_neg (fun h => h2 h.1), setL_get _ _ _ _ (by omega), hvl]
      by_cases h1 : p ≤ j
      · rw [if_pos ⟨h1, by omega⟩, List.getElem?_append_left (by rw [List.length_append, lt, hvl]; omega), List.getElem?_append_right (by omega), lt]
      · rw [if_neg (fun h => h1 h.1), List.append_assoc, List.getElem?_append_left (by omega), hcur, List.getElem?_append_left (by omega)]
  · rw [if_neg hj, List.getElem?_eq_none (by rw [List.length_append, List.length_append, lt, ld, hvl]; omega)]
/-- One more, at a place. -/
def insAt {α : Type} (xs : List α) (i : Nat) (x : α) : List α := xs.take i ++ x :: xs.drop i
theorem insAt_len {α : Type} (xs : List α) (i : Nat) (x : α) : (insAt xs i x).length = xs.length + 1 := by
  unfold insAt; rw [List.length_append, List.length_take, List.length_cons, List.length_drop]; omega

theorem flC_cut (xs : List Co) (i : Nat) (hi : i ≤ xs.length) : (flC xs).take (i * 6) = flC (xs.take i) ∧ (flC xs).drop (i * 6) = flC (xs.drop i) := by
  have h : flC xs = flC (xs.take i) ++ flC (xs.drop i) := by
    have h0 : flC (xs.take i ++ xs.drop i) = flC (xs.take i) ++ flC (xs.drop i) := by unfold flC; rw [List.flatMap_append]
    rw [← h0, List.take_append_drop]
  have hl : (flC (xs.take i)).length = i * 6 := by rw [flC_len, List.length_take, Nat.min_eq_left hi]
  rw [h]
  exact ⟨by rw [← hl, List.take_left], by rw [← hl, List.drop_left]⟩
theorem flC_ins (xs : List Co) (i : Nat) (x : Co) (hi : i ≤ xs.length) : flC (insAt xs i x) = (flC xs).take (i * 6) ++ x.cl ++ (flC xs).drop (i * 6) := by
  rw [(flC_cut xs i hi).1, (flC_cut xs i hi).2]
  unfold insAt flC
  simp
set_option maxHeartbeats 4000000 in
set_option maxRecDepth 100000 in
theorem ins_shift_C (b n c i vb m vc : Nat) (cs vs : List Value) (w : World) (hi : i < n) (hm : 0 < m) (hroom : n + m ≤ c) (hc63 : c ≤ 9223372036854775807) (hvb : vb ≠ b)
    (hcl : cs.length = n * 6) (hvl : vs.length = m * 6)
    (hcs : ∀ j v, cs[j]? = some v → w.cell? ⟨b, j, none⟩ = some v) (hsp : ∀ j, j < (n + m) * 6 → (w.cell? ⟨b, j, none⟩).isSome = true) (hfz : ∀ j, w.frozen? ⟨b, j, none⟩ = false)
    (hvs : ∀ j v, vs[j]? = some v → w.cell? ⟨vb, j, none⟩ = some v) (h1c : ∀ v ∈ cs, v.oneCell' = true) (h1v : ∀ v ∈ vs, v.oneCell' = true)
    (tA tB : TypeId) (kA kB : Nat) (hsa : w.shape? vb = some (tA, kA)) (hsb : w.shape? b = some (tB, kB)) (hkB : kB ≠ 0) (hfa : w.frozen? ⟨vb, 0, none⟩ = false) (hfe : w.frozen? ⟨vb, kA, none⟩ = false) :
    Calls Try.prog 53 #[.slice (some ⟨b, 0, none⟩) n c, .int .i64 i, .slice (some ⟨vb, 0, none⟩) m vc] w fun e w' =>
      e = .returned (.slice (some ⟨b, 0, none⟩) (n + m) c) ∧ w' = (w.drew.setCells b ((i + m) * 6) (cs.drop (i * 6))).setCells b (i * 6) vs := by
  obtain ⟨i0, hi0, hz0, hzs, hzb⟩ := info_parts info_C
  have hz1 : ¬ ((m : Int) = 0) := by omega
  have hz2 : ¬ ((i : Int) = (n : Int)) := by omega
  have hsz : (Try.prog.info? 43).map (·.size) = some 6 := by rw [hi0]; simp [hzs]
  have hov : ∀ lb cb, (callFunc 85 #[.slice (some ⟨vb, 0, none⟩) m vc, .slice (some ⟨b, (i + m) * 6, none⟩) lb cb]).run Try.prog w = .ok (.value (.bool false)) w := fun lb cb => by
    rw [run_callFunc_extern Try.func85 (by kernel_rfl) (by kernel_rfl) (by kernel_rfl) (e := Extern.SlicesOverlaps.overlaps #[22, 22] #[4]) (by kernel_rfl),
      Lib.run_overlaps_apart w 22 4 43 Try.underlying22 6 (fun w => by kernel_rfl) ⟨vb, 0, none⟩ ⟨b, (i + m) * 6, none⟩ m vc lb cb hvb tA tB kA kB hsa hsb hkB hfa hfe]
    rfl
  have hdl : (cs.drop (i * 6)).length = (n - i) * 6 := by rw [List.length_drop, hcl]; omega
  have hw1 : IntKind.i64.wrap ((i : Int) + (m : Int)) = (i : Int) + (m : Int) := by rw [IntKind.wrap_i64]; omega
  have hb1 : (0 : Int) ≤ (i : Int) + (m : Int) := by omega
  have hin : i ≤ n := by omega
  have htn : ((i : Int) + (m : Int)).toNat = i + m := by omega
  have hb2 : ¬ (c = i + m) := by omega
  have hb3 : (i : Int) ≤ (n : Int) + (m : Int) := by omega
  have hb4 : ¬ (c = i) := by omega
  have hmin1 : Nat.min (n + m - i) (n + m - (i + m)) = n - i := by show min _ _ = _; omega
  have hmin2 : Nat.min m (n + m - i) = m := by show min _ _ = _; omega
  have hcp1 : ∀ ty dc sc, (Builtin.copy_ #[22, 22] ty #[.slice (some ⟨b, (i + m) * 6, none⟩) (n + m - (i + m)) dc, .slice (some ⟨b, i * 6, none⟩) (n + m - i) sc]).run Try.prog w.drew = .ok (goInt (Nat.min (n + m - i) (n + m - (i + m)) : Nat)) (w.drew.setCells b ((i + m) * 6) (cs.drop (i * 6))) := fun ty dc sc =>
    run_copy_wide w.drew _ _ ty 43 6 b ((i + m) * 6) (n + m - (i + m)) dc ⟨b, i * 6, none⟩ (n + m - i) sc (cs.drop (i * 6)) Try.underlying22 hsz (by rw [hdl, hmin1])
      (fun j v hj => by rw [Addr.add_lit]; exact hcs (i * 6 + j) v (by rwa [List.getElem?_drop] at hj))
      (fun j hj => hsp _ (by omega)) (fun j hj => hfz _) (fun v hv => h1c v (List.mem_of_mem_drop hv))
  obtain ⟨W1, hW1⟩ : ∃ W1, W1 = w.drew.setCells b ((i + m) * 6) (cs.drop (i * 6)) := ⟨_, rfl⟩
  have hsp1 : ∀ k, k < (n + m) * 6 → (W1.cell? ⟨b, k, none⟩).isSome = true := by rw [hW1]; exact some_setCells _ _ w.drew hsp
  have hcp2 : ∀ (W : World), (∀ x, W.cell? x = W1.cell? x) → (∀ x, W.frozen? x = W1.frozen? x) → ∀ ty dc, (Builtin.copy_ #[22, 22] ty #[.slice (some ⟨b, i * 6, none⟩) (n + m - i) dc, .slice (some ⟨vb, 0, none⟩) m vc]).run Try.prog W = .ok (goInt (Nat.min m (n + m - i) : Nat)) (W.setCells b (i * 6) vs) := fun W hWc hWf ty dc =>
    run_copy_wide W _ _ ty 43 6 b (i * 6) (n + m - i) dc ⟨vb, 0, none⟩ m vc vs Try.underlying22 hsz (by rw [hvl, hmin2])
      (fun j v hj => by
        rw [Addr.add_lit, hWc, hW1, World.cell?_setCells_out b _ _ _ _ (fun h _ => absurd h hvb), Nat.zero_add]
        exact hvs j v hj)
      (fun j hj => by rw [hWc]; exact hsp1 _ (by omega)) (fun j hj => by rw [hWf, hW1, World.frozen?_setCells]; exact hfz _) h1v
  rw [← hW1] at hcp1
  clear hmin1 hmin2 hdl hcs hsp hsp1 hvs h1c h1v
  go_enter Try.func53, Try.ntmps53
  go_wp2_with (simp only [hov])
  go_region_law (refine step_copy_runJ rfl _ _ 22 22 rfl _ _ (by simp [Act.eval, Act.put]) (by simp [Act.eval, Act.put]) (hcp1 _ _ _) ?_)
  go_wp2_with (at_builtin; refine wpList_copy_runJ _ rfl _ _ 22 22 rfl _ _ rfl rfl (hcp2 _ (fun _ => rfl) (fun _ => rfl) _ _) ?_)
  go_ret
  first | exact ⟨rfl, rfl⟩ | exact ⟨rfl, by rw [hW1]⟩
set_option maxHeartbeats 4000000 in
set_option maxRecDepth 100000 in
theorem ins_grow_C (b n c i vb m vc : Nat) (cs vs : List Value) (w : World) (hi : i < n) (hm : 0 < m) (hnc : n ≤ c) (hroom : c < n + m) (hbig : (n + m) * 32 ≤ 140737488355328)
    (hcl : cs.length = n * 6) (hvl : vs.length = m * 6)
    (hcs : ∀ j v, cs[j]? = some v → w.cell? ⟨b, j, none⟩ = some v)
    (hvs : ∀ j v, vs[j]? = some v → w.cell? ⟨vb, j, none⟩ = some v) (h1c : ∀ v ∈ cs, v.oneCell' = true) (h1v : ∀ v ∈ vs, v.oneCell' = true) :
    Calls Try.prog 53 #[.slice (some ⟨b, 0, none⟩) n c, .int .i64 i, .slice (some ⟨vb, 0, none⟩) m vc] w fun e w' =>
      e = .returned (.slice (some ⟨w.heap.size, 0, none⟩) (n + m) (grownCap w (n + m) c 43)) ∧
      w' = (((w.alloc (.cells ((cs.take (i * 6)).toArray ++ Builtin.zeroCells (Value.cells (.agg #[.int .u32 0, .int .u32 0, .int .u16 0, .int .u16 0, .int .i64 0, .int .i64 0])) (n + m - i) ++ Builtin.zeroCells (Value.cells (.agg #[.int .u32 0, .int .u32 0, .int .u16 0, .int .u16 0, .int .i64 0, .int .i64 0])) (grownCap w (n + m) c 43 - (n + m))) 43)).drew.setCells w.heap.size (i * 6) vs).drew).setCells w.heap.size ((i + m) * 6) (cs.drop (i * 6)) := by
  obtain ⟨i0, hi0, hz0, hzs, hzb⟩ := info_parts info_C
  have hz1 : ¬ ((m : Int) = 0) := by omega
  have hz2 : ¬ ((i : Int) = (n : Int)) := by omega
  have hz3 : (c : Int) < (n : Int) + (m : Int) := by omega
  have hsz : (Try.prog.info? 43).map (·.size) = some 6 := by rw [hi0]; simp [hzs]
  have hbw : b < w.heap.size := block_lt_of_cell (hcs 0 _ (List.getElem?_eq_getElem (by omega)))
  have hvw : vb < w.heap.size := block_lt_of_cell (hvs 0 _ (List.getElem?_eq_getElem (by omega)))
  have hkk : (n : Int) + (m : Int) - (i : Int) = ((n + m - i : Nat) : Int) := by omega
  have hik : i + (n + m - i) = n + m := by omega
  have hold : (Builtin.firstCells i0.size i (.slice (some ⟨b, 0, none⟩) i c)).run Try.prog w.drew = .ok (cs.take (i * 6)).toArray w.drew := by
    rw [hzs]
    exact run_firstCells_some w.drew 6 i ⟨b, 0, none⟩ i c (cs.take (i * 6)) (by rw [List.length_take]; omega) (fun j v hj => by
      rw [Addr.add_lit, Nat.zero_add]
      rw [List.getElem?_take] at hj
      split at hj
      · exact hcs j v hj
      · cases hj)
  have hrz : ∀ ty, (Builtin.append_ #[22, 3] ty #[.slice (some ⟨b, 0, none⟩) i c, .int .i64 ((n : Int) + (m : Int) - (i : Int))]).run Try.prog w =
      .ok (.slice (some ⟨w.heap.size, 0, none⟩) (n + m) (grownCap w (n + m) c 43)) (w.drew.alloc (.cells ((cs.take (i * 6)).toArray ++ Builtin.zeroCells (Value.cells (.agg #[.int .u32 0, .int .u32 0, .int .u16 0, .int .u16 0, .int .i64 0, .int .i64 0])) (n + m - i) ++ Builtin.zeroCells (Value.cells (.agg #[.int .u32 0, .int .u32 0, .int .u16 0, .int .u16 0, .int .i64 0, .int .i64 0])) (grownCap w (n + m) c 43 - (n + m))) 43)) := fun ty => by
    have h := Lib.run_append_grow_zeros w 22 3 ty 43 i0 _ .i64 .i64 Try.underlying22 Try.underlying3 hi0 hz0 (some ⟨b, 0, none⟩) i c (cs.take (i * 6)) hold (n + m - i) (by omega) (by omega) (by omega) (by omega) (by rw [hzb]; omega) (by rw [hzb, hik]; exact growslice_fits hroom hbig)
    rw [hik] at h
    rw [hkk]
    exact h
  obtain ⟨G, hG⟩ : ∃ G, G = grownCap w (n + m) c 43 := ⟨_, rfl⟩
  obtain ⟨ROW, hROW⟩ : ∃ ROW : Array Value, ROW = (cs.take (i * 6)).toArray ++ Builtin.zeroCells (Value.cells (.agg #[.int .u32 0, .int .u32 0, .int .u16 0, .int .u16 0, .int .i64 0, .int .i64 0])) (n + m - i) ++ Builtin.zeroCells (Value.cells (.agg #[.int .u32 0, .int .u32 0, .int .u16 0, .int .u16 0, .int .i64 0, .int .i64 0])) (G - (n + m)) := ⟨_, rfl⟩
  rw [← hG] at hrz ⊢
  rw [← hROW] at hrz ⊢
  have hRl : (n + m) * 6 ≤ ROW.size := by
    rw [hROW]
    simp [Builtin.zeroCells, Value.cells]
    omega
  obtain ⟨W1, hW1⟩ : ∃ W1, W1 = w.drew.alloc (.cells ROW 43) := ⟨_, rfl⟩
  rw [← hW1] at hrz
  have hN : ∀ j, j < (n + m) * 6 → (W1.cell? ⟨w.heap.size, j, none⟩).isSome = true := fun j hj => by
    rw [hW1, World.cell?_alloc_at (w := w.drew) ROW _ w.heap.size j rfl, Array.getElem?_eq_getElem (by omega)]; rfl
  have hNf : ∀ j, W1.frozen? ⟨w.heap.size, j, none⟩ = false := fun j => by rw [hW1]; exact World.frozen?_alloc_at (w := w.drew) ROW _ w.heap.size j rfl
  have hOb : ∀ j v, w.cell? ⟨b, j, none⟩ = some v → W1.cell? ⟨b, j, none⟩ = some v := fun j v h => by rw [hW1, World.cell?_alloc_past (w := w.drew) _ b j hbw]; exact h
  have hOv : ∀ j v, w.cell? ⟨vb, j, none⟩ = some v → W1.cell? ⟨vb, j, none⟩ = some v := fun j v h => by rw [hW1, World.cell?_alloc_past (w := w.drew) _ vb j hvw]; exact h
  have hdl : (cs.drop (i * 6)).length = (n - i) * 6 := by rw [List.length_drop, hcl]; omega
  have hmin1 : Nat.min (n - i) (n + m - (i + m)) = n - i := by show min _ _ = _; omega
  have hmin2 : Nat.min m (n + m - i) = m := by show min _ _ = _; omega
  have hcpA : ∀ (W : World), (∀ x, W.cell? x = W1.cell? x) → (∀ x, W.frozen? x = W1.frozen? x) → ∀ ty dc, (Builtin.copy_ #[22, 22] ty #[.slice (some ⟨w.heap.size, i * 6, none⟩) (n + m - i) dc, .slice (some ⟨vb, 0, none⟩) m vc]).run Try.prog W = .ok (goInt (Nat.min m (n + m - i) : Nat)) (W.setCells w.heap.size (i * 6) vs) := fun W hWc hWf ty dc =>
    run_copy_wide W _ _ ty 43 6 w.heap.size (i * 6) (n + m - i) dc ⟨vb, 0, none⟩ m vc vs Try.underlying22 hsz (by rw [hvl, hmin2])
      (fun j v hj => by rw [Addr.add_lit, hWc, Nat.zero_add]; exact hOv _ v (hvs j v hj))
      (fun j hj => by rw [hWc]; exact hN _ (by omega)) (fun j hj => by rw [hWf]; exact hNf _) h1v
  have hGn : n + m ≤ G := by rw [hG]; exact grownCap_ge w _ _ _
  have hG63 : G ≤ 9223372036854775807 := by
    have := grownCap_le_maxLen w (n + m) c 43 (by unfold maxLen; omega)
    rw [← hG] at this
    unfold maxLen at this
    omega
  have hGi : ¬ (G = i) := by omega
  have hGim : ¬ (G = i + m) := by omega
  have hci : ¬ (c = i) := by omega
  have hbN : b ≠ w.heap.size := by omega
  have hcpB : ∀ (W : World), (∀ x, W.cell? x = (W1.setCells w.heap.size (i * 6) vs).cell? x) → (∀ x, W.frozen? x = (W1.setCells w.heap.size (i * 6) vs).frozen? x) → ∀ ty dc sc, (Builtin.copy_ #[22, 22] ty #[.slice (some ⟨w.heap.size, (i + m) * 6, none⟩) (n + m - (i + m)) dc, .slice (some ⟨b, i * 6, none⟩) (n - i) sc]).run Try.prog W = .ok (goInt (Nat.min (n - i) (n + m - (i + m)) : Nat)) (W.setCells w.heap.size ((i + m) * 6) (cs.drop (i * 6))) := fun W hWc hWf ty dc sc =>
    run_copy_wide W _ _ ty 43 6 w.heap.size ((i + m) * 6) (n + m - (i + m)) dc ⟨b, i * 6, none⟩ (n - i) sc (cs.drop (i * 6)) Try.underlying22 hsz (by rw [hdl, hmin1])
      (fun j v hj => by
        rw [Addr.add_lit, hWc, World.cell?_setCells_out _ _ _ _ _ (fun h _ => absurd h hbN)]
        exact hOb _ v (hcs (i * 6 + j) v (by rwa [List.getElem?_drop] at hj)))
      (fun j hj => by rw [hWc]; exact some_setCells _ _ _ hN _ (by omega))
      (fun j hj => by rw [hWf, World.frozen?_setCells]; exact hNf _) (fun v hv => h1c v (List.mem_of_mem_drop hv))
  subst hW1
  have hE1 : ∀ x, ((w.alloc (.cells ROW 43)).drew).cell? x = (w.drew.alloc (.cells ROW 43)).cell? x := fun x => rfl
  have hE2 : ∀ x, ((w.alloc (.cells ROW 43)).drew).frozen? x = (w.drew.alloc (.cells ROW 43)).frozen? x := fun x => rfl
  have hF1 : ∀ x, (((w.alloc (.cells ROW 43)).drew.setCells w.heap.size (i * 6) vs).drew).cell? x = ((w.drew.alloc (.cells ROW 43)).setCells w.heap.size (i * 6) vs).cell? x := fun x => rfl
  have hF2 : ∀ x, (((w.alloc (.cells ROW 43)).drew.setCells w.heap.size (i * 6) vs).drew).frozen? x = ((w.drew.alloc (.cells ROW 43)).setCells w.heap.size (i * 6) vs).frozen? x := fun x => rfl
  have hw1 : IntKind.i64.wrap ((i : Int) + (m : Int)) = (i : Int) + (m : Int) := by rw [IntKind.wrap_i64]; omega
  have hb1 : (0 : Int) ≤ (i : Int) + (m : Int) := by omega
  have hin : i ≤ n := by omega
  have htn : ((i : Int) + (m : Int)).toNat = i + m := by omega
  have hb3 : (i : Int) ≤ (n : Int) := by omega
  clear hkk hik hold hROW hG hRl hmin1 hmin2 hcs hvs h1c h1v
  go_enter Try.func53, Try.ntmps53
  go_wp2_with (first
    | (at_builtin; refine Lib.wpList_append_run _ rfl _ _ _ _ rfl _ _ rfl rfl _ _ (hrz _) ?_)
    | (at_builtin; refine wpList_copy_runJ _ rfl _ _ 22 22 rfl _ _ rfl rfl (hcpA _ hE1 hE2 _ _) ?_)
    | (at_builtin; refine wpList_copy_runJ _ rfl _ _ 22 22 rfl _ _ rfl rfl (hcpB _ (fun _ => rfl) (fun _ => rfl) _ _ _) ?_))
  go_region_law (refine step_copy_runJ rfl _ _ 22 22 rfl (.slice (some ⟨w.heap.size, (i + m) * 6, none⟩) (n + m - (i + m)) (G - (i + m))) (.slice (some ⟨b, i * 6, none⟩) (n - i) (c - i)) (by simp [Act.eval, Act.put]) (by simp [Act.eval, Act.put]) (hcpB _ hF1 hF2 43 (G - (i + m)) (c - i)) ?_)
  go_wp2
  go_ret
  exact ⟨rfl, rfl⟩

end Go.Proofs.Ytookffaojlkfaaa

/- slices.Insert into a row of one's own. -/
namespace Go.Proofs.Ytookffaojlkfaaa
open Go.RowKit
theorem heap_drew (w : World) : w.drew.heap = w.heap := rfl

set_option maxRecDepth 100000 in
set_option maxHeartbeats 4000000 in
theorem ins_end_C (base : Nat) (w : World) (v : Value) (xs : List Co) (x : Co) (vb : Nat) (hl : xs.length ≤ 1000) (hbs : base ≤ w.heap.size) (ho : w.ownsRow base 43 6 v xs.length (flC xs))
    (hx : w.heap[vb]? = some (.cells #[.int .u32 x.t.a, .int .u32 x.t.b, .int .u16 x.t.c, .int .u16 x.t.d, .int .i64 x.s, .int .i64 x.l] 43 (0, 0))) :
    Calls Try.prog 53 #[v, .int .i64 xs.length, .slice (some ⟨vb, 0, none⟩) 1 1] w fun e w' => ∃ v', e = .returned v' ∧ w'.ownsRow base 43 6 v' (xs.length + 1) (flC (insAt xs xs.length x)) ∧ Mv (fun b => base ≤ b) w w' := by
  obtain ⟨i0, hi, hz0, hz1, hz2⟩ := info_parts info_C
  have hnews : ∀ j u, (x.cl)[j]? = some u → w.cell? (Addr.add ⟨vb, 0, none⟩ j) = some u := by
    intro j u hu
    rw [Addr.add_lit, Nat.zero_add, show w.cell? ⟨vb, j, none⟩ = (x.cl.toArray)[j]? by unfold World.cell?; rw [hx]; rfl]
    simpa using hu
  have HN := Lib.hid hnews
  have HO := Lib.hid ho
  have hone : ∀ u ∈ x.cl, u.oneCell' = true := by
    have := flC_one [x]
    unfold flC at this
    simpa using this
  have hfin : flC xs ++ x.cl = flC (insAt xs xs.length x) := by
    rw [flC_ins xs _ x (Nat.le_refl _), ← flC_len xs, List.take_length, List.drop_length, List.append_nil]
  have H1 := Lib.hid hone
  have HF := Lib.hid hfin
  have hob : ∀ r, v.ownBlock = some r → base ≤ r := fun r h => (ho.lt r h).1
  clear hone hfin hnews hx
  obtain ⟨rfl, h0⟩ | ⟨g, cap, rfl, hc⟩ : (v = .slice none 0 0 ∧ xs.length = 0) ∨ ∃ g cap, v = .slice (some ⟨g, 0, none⟩) xs.length cap ∧ xs.length ≤ cap := by
    rcases ho.2 with ⟨rfl, h0⟩ | ⟨g, cap, cur, rfl, hg, hgb, h1, h2, h3, h4⟩
    · exact .inl ⟨rfl, h0⟩
    · exact .inr ⟨g, cap, rfl, h1⟩
  · clear ho
    rw [h0] at HO ⊢
    have H0 := Lib.hid h0
    clear h0
    go_enter Try.func53, Try.ntmps53
    go_wp2_with (at_builtin; refine wpList_append_own _ rfl _ _ 22 rfl base 43 i0 (.agg #[.int .u32 0, .int .u32 0, .int .u16 0, .int .u16 0, .int .i64 0, .int .i64 0]) 6 32 Try.underlying22 hi hz0 hz1 hz2 rfl (by decide) _ _ _ rfl HO.out ⟨vb, 0, none⟩ 1 1 x.cl rfl rfl HN.out H1.out (by unfold maxLen; omega) (by omega) hbs ?_; intro v' w2 hown' hgrow _; have HOW := Lib.hid hown'; have HG := Lib.hid hgrow; clear hown' hgrow)
    go_ret
    refine ⟨v', rfl, ?_, Mv.of_grown HG.out fun r e => .inl (hob r e)⟩
    rw [H0.out] at HF; rw [← HF.out]; exact HOW.out
  · clear ho
    go_enter Try.func53, Try.ntmps53
    go_wp2_with (at_builtin; refine wpList_append_own _ rfl _ _ 22 rfl base 43 i0 (.agg #[.int .u32 0, .int .u32 0, .int .u16 0, .int .u16 0, .int .i64 0, .int .i64 0]) 6 32 Try.underlying22 hi hz0 hz1 hz2 rfl (by decide) _ _ _ rfl HO.out ⟨vb, 0, none⟩ 1 1 x.cl rfl rfl HN.out H1.out (by unfold maxLen; omega) (by omega) hbs ?_; intro v' w2 hown' hgrow _; have HOW := Lib.hid hown'; have HG := Lib.hid hgrow; clear hown' hgrow)
    all_goals go_ret
    all_goals (refine ⟨v', rfl, ?_, Mv.of_grown HG.out fun r e => .inl (hob r e)⟩; rw [← HF.out]; exact HOW.out)

set_option maxHeartbeats 1000000 in
theorem ins_C (base : Nat) (w : World) (v : Value) (xs : List Co) (i : Nat) (x : Co) (vb : Nat) (hi : i ≤ xs.length) (hl : xs.length ≤ 1000) (hbs : base ≤ w.heap.size) (ho : w.ownsRow base 43 6 v xs.length (flC xs))
    (hx : w.heap[vb]? = some (.cells #[.int .u32 x.t.a, .int .u32 x.t.b, .int .u16 x.t.c, .int .u16 x.t.d, .int .i64 x.s, .int .i64 x.l] 43 (0, 0))) (hvb : v.ownBlock ≠ some vb) :
    Calls Try.prog 53 #[v, .int .i64 i, .slice (some ⟨vb, 0, none⟩) 1 1] w fun e w' => ∃ v', e = .returned v' ∧ w'.ownsRow base 43 6 v' (insAt xs i x).length (flC (insAt xs i x)) ∧ Mv (fun b => base ≤ b) w w' := by
  rw [insAt_len]
  by_cases hn : i = xs.length
  · subst hn
    exact ins_end_C base w v xs x vb hl hbs ho hx
  obtain ⟨g, cap, cur, rfl, hg, hgb, hc1, hcm, hcs, hct⟩ : ∃ g cap cur, v = .slice (some ⟨g, 0, none⟩) xs.length cap ∧ base ≤ g ∧ w.heap[g]? = some (.cells cur 43 (0, 0)) ∧ xs.length ≤ cap ∧ cap ≤ maxLen ∧ cur.size = cap * 6 ∧ cur.toList.take (xs.length * 6) = flC xs := by
    rcases ho.2 with ⟨_, h0⟩ | h
    · omega
    · obtain ⟨g, cap, cur, h1, h2, h3, h4, h5, h6, h7⟩ := h; exact ⟨g, cap, cur, h1, h2, h3, h4, h5, h6, h7⟩
  have hne : vb ≠ g := fun e => hvb (by rw [e]; rfl)
  have hrow : rowD w g = cur := by unfold rowD; rw [hgb]
  have hfz : ∀ j, w.frozen? ⟨g, j, none⟩ = false := fun j => frozen_of_frz (by unfold frzD; rw [hgb]) j
  have hfv : ∀ j, w.frozen? ⟨vb, j, none⟩ = false := fun j => frozen_of_frz (by unfold frzD; rw [hx]) j
  have hcell : ∀ j u, (flC xs)[j]? = some u → w.cell? ⟨g, j, none⟩ = some u := by
    intro j u hu
    rw [cell_rowD, hrow]
    rw [← hct, List.getElem?_take] at hu
    split at hu
    · rw [Array.getElem?_toList] at hu; exact hu
    · cases hu
  have hnews : ∀ j u, (x.cl)[j]? = some u → w.cell? ⟨vb, j, none⟩ = some u := by
    intro j u hu
    rw [show w.cell? ⟨vb, j, none⟩ = (x.cl.toArray)[j]? by unfold World.cell?; rw [hx]; rfl]
    simpa using hu
  have hone : ∀ u ∈ x.cl, u.oneCell' = true := by
    have := flC_one [x]
    unfold flC at this
    simpa using this
  have hlx : xs.length * 6 = (flC xs).length := (flC_len xs).symm
  have hcl : cur.toList.length = cap * 6 := by simpa using hcs
  by_cases hr : xs.length + 1 ≤ cap
  · refine (ins_shift_C g xs.length cap i vb 1 1 (flC xs) x.cl w (by omega) (by omega) hr hcm hne (flC_len xs) rfl hcell (fun j hj => by rw [cell_rowD, hrow, Array.getElem?_eq_getElem (by omega)]; rfl) hfz hnews (flC_one xs) hone
      43 43 6 cur.size (by unfold World.shape?; rw [hx]; rfl) (by unfold World.shape?; rw [hgb]) (by omega) (hfv _) (hfv _)).mono ?_
    rintro e w' ⟨rfl, rfl⟩
    obtain ⟨cur1, h1, e1⟩ := cells_setCells ((flC xs).drop (i * 6)) ((i + 1) * 6) w.drew cur hgb
    obtain ⟨cur2, h2, e2⟩ := cells_setCells x.cl (i * 6) _ cur1 h1
    refine ⟨_, rfl, own_mk hg h2 hr hcm ?_ ?_, Mv.sc hg _ _ _ _ (Mv.sc hg _ _ _ _ (Mv.dr (Mv.refl _ _)))⟩
    · rw [e2, setL_len, e1, setL_len]; exact hcl
    · rw [e2, e1, flC_ins xs i x hi]
      exact setL_in _ _ _ i xs.length 6 hi hct (flC_len xs) rfl (by omega)
  · have hcap : cap = xs.length := by omega
    refine (ins_grow_C g xs.length cap i vb 1 1 (flC xs) x.cl w (by omega) (by omega) hc1 (by omega) (by omega) (flC_len xs) rfl hcell hnews (flC_one xs) hone).mono ?_
    rintro e w' ⟨rfl, rfl⟩
    have hGn : xs.length + 1 ≤ grownCap w (xs.length + 1) cap 43 := grownCap_ge w _ _ _
    have hGm : grownCap w (xs.length + 1) cap 43 ≤ maxLen := grownCap_le_maxLen w (xs.length + 1) cap 43 (by unfold maxLen; omega)
    generalize grownCap w (xs.length + 1) cap 43 = G at *
    obtain ⟨ROW, hROW⟩ : ∃ ROW : Array Value, ROW = ((flC xs).take (i * 6)).toArray ++ Builtin.zeroCells (Value.cells (.agg #[.int .u32 0, .int .u32 0, .int .u16 0, .int .u16 0, .int .i64 0, .int .i64 0])) (xs.length + 1 - i) ++ Builtin.zeroCells (Value.cells (.agg #[.int .u32 0, .int .u32 0, .int .u16 0, .int .u16 0, .int .i64 0, .int .i64 0])) (G - (xs.length + 1)) := ⟨_, rfl⟩
    rw [← hROW]
    have hRs : ROW.toList.length = G * 6 := by
      rw [hROW]
      simp [Builtin.zeroCells, Value.cells, flC_len]
      omega
    obtain ⟨R, hR⟩ : ∃ R : List Value, R = (Builtin.zeroCells (Value.cells (.agg #[.int .u32 0, .int .u32 0, .int .u16 0, .int .u16 0, .int .i64 0, .int .i64 0])) (xs.length + 1 - i)).toList ++ (Builtin.zeroCells (Value.cells (.agg #[.int .u32 0, .int .u32 0, .int .u16 0, .int .u16 0, .int .i64 0, .int .i64 0])) (G - (xs.length + 1))).toList := ⟨_, rfl⟩
    have hcut : ROW.toList = (flC xs).take (i * 6) ++ R := by rw [hROW, hR, Array.toList_append, Array.toList_append, List.append_assoc]
    clear hROW hR
    obtain ⟨cur1, h1, e1⟩ := cells_setCells x.cl (i * 6) ((w.alloc (.cells ROW 43)).drew) ROW (World.alloc_heap_new _ _)
    obtain ⟨cur2, h2, e2⟩ := cells_setCells ((flC xs).drop (i * 6)) ((i + 1) * 6) (((w.alloc (.cells ROW 43)).drew.setCells w.heap.size (i * 6) x.cl).drew) cur1 (by rw [heap_drew]; exact h1)
    refine ⟨_, rfl, own_mk hbs h2 hGn hGm ?_ ?_, Mv.sc hbs _ _ _ _ (Mv.dr (Mv.sc hbs _ _ _ _ (Mv.dr (Mv.al _ (Mv.refl _ _)))))⟩
    · rw [e2, setL_len, e1, setL_len]; exact hRs
    · rw [e2, e1, flC_ins xs i x hi]
      exact setL_new _ _ _ R i xs.length 6 hi hcut (flC_len xs) rfl (by rw [hRs]; omega)

end Go.Proofs.Ytookffaojlkfaaa

/- Connections: Close. -/
namespace Go.Proofs.Ytookffaojlkfaaa
open Go.RowKit

theorem enters_close : ∀ args w, (callFunc 57 args).run Try.prog w = .ok (.enter 57 args) w := enters_of Try.func57 (by kernel_rfl) rfl
set_option maxRecDepth 20000 in
set_option maxHeartbeats 4000000 in
theorem close1_any (W0 : World) : DoesC 57 #[] (fun xs k => xs.eraseIdx k) W0 := by
  intro base W v xs k hE hb hl ho hk
  have HC := Lib.hid (delete_any base W v xs k (k + 1) rfl hl ho hk)
  have e : ((k + 1 : Nat) : Int) = (k : Int) + 1 := rfl
  rw [e] at HC
  have hkl : (k : Int) < xs.length := by omega
  clear ho
  rw [show (#[v, Value.int .i64 (k : Nat)] ++ #[] : Array Value) = #[v, .int .i64 (k : Nat)] from rfl]
  go_enter Try.func57, Try.ntmps57
  go_wp2_with ((with_reducible refine (HC.out).mono ?_); rintro e w' ⟨v', rfl, ho, m⟩; have HO := Lib.hid ho; clear ho)
  go_ret
  exact ⟨v', rfl, HO.out, m⟩
set_option maxRecDepth 20000 in
set_option maxHeartbeats 2000000 in
theorem close_any (t : Tu) (p : Option Addr) (xs : List Co) (c : Nat) (w : World) (hs : SlC w p xs) (hl : xs.length ≤ 1000) :
    Calls Try.prog 19 #[.slice p xs.length c, tu t.a t.b t.c t.d] w fun e w' => ∃ v, e = .returned (.tuple #[v, .bool (withOk xs t)]) ∧ w'.ownsRow w.heap.size 43 6 v (withX (fun xs k => xs.eraseIdx k) xs t).length (flC (withX (fun xs k => xs.eraseIdx k) xs t)) ∧ Ext w w' := by
  go_enter Try.func19, Try.ntmps19
  go_upto_region 1 with (fail)
  obtain ⟨W0, hW⟩ : ∃ W0, w.alloc (.cells #[.int .u32 t.a, .int .u32 t.b, .int .u16 t.c, .int .u16 t.d] 26) = W0 := ⟨_, rfl⟩
  rw [hW]
  have g0 : Ext w W0 := by rw [← hW]; exact Ext.al (Ext.rf _) _
  have ht : TuAt W0 w.heap.size t := by rw [← hW]; unfold TuAt; simp [go_sem, Lt]
  have s0 := hs.ext g0
  have hsz : w.heap.size ≤ W0.heap.size := g0.size
  obtain ⟨d0, d1, d2, d3⟩ := ht.cells
  have lB : Lt w.heap.size W0 := ht.2
  clear hW hs ht
  go_wp2_with (go_at_call 55; go_must (with_reducible refine (with_any 57 #[] enters_close (fun xs k => xs.eraseIdx k) t p xs c _ s0 hl (close1_any _)).mono ?_); rintro e w' ⟨v, rfl, ho, g1⟩; have HO := Lib.hid ho; clear ho)
  exact bodyPost_ret (v := .tuple #[v, .bool (withOk xs t)]) (by simp [results, Try.results19, go_sem]) rfl ⟨v, rfl, ownsRow_le HO.out hsz, g0.tr g1⟩

end Go.Proofs.Ytookffaojlkfaaa

/- Connections: Add. -/
namespace Go.Proofs.Ytookffaojlkfaaa
open Go.RowKit

def addB (xs : List Co) (now : Int) : Bool := !rightC xs || decide (now < 0) || decide (1099511627776 < now)
def addE (xs : List Co) (t : Tu) (now : Int) : Int := if addB xs now = true then 2 else if okC xs t = true then 201 else if (xs.length : Int) < 32 then 0 else 150
def newC (t : Tu) (now : Int) : Co := ⟨t, now, now⟩
def addX (xs : List Co) (t : Tu) (now : Int) : List Co := if addE xs t now = 0 then insAt xs (atC xs t) (newC t now) else xs
theorem at_le (xs : List Co) (t : Tu) : atC xs t ≤ xs.length := List.findIdx_le_length
set_option maxRecDepth 20000 in
set_option maxHeartbeats 4000000 in
theorem add_any (t : Tu) (now : Int) (p : Option Addr) (xs : List Co) (c : Nat) (w : World) (hs : SlC w p xs) (hl : xs.length ≤ 1000) :
    Calls Try.prog 15 #[.slice p xs.length c, tu t.a t.b t.c t.d, .int .i64 now] w fun e w' => ∃ v, e = .returned (.tuple #[v, .int .i64 (addE xs t now)]) ∧ w'.ownsRow w.heap.size 43 6 v (addX xs t now).length (flC (addX xs t now)) ∧ Ext w w' := by
  go_enter Try.func15, Try.ntmps15
  go_upto_region 1 with (fail)
  obtain ⟨W0, hW⟩ : ∃ W0, w.alloc (.cells #[.int .u32 t.a, .int .u32 t.b, .int .u16 t.c, .int .u16 t.d] 26) = W0 := ⟨_, rfl⟩
  rw [hW]
  have g0 : Ext w W0 := by rw [← hW]; exact Ext.al (Ext.rf _) _
  have ht : TuAt W0 w.heap.size t := by rw [← hW]; unfold TuAt; simp [go_sem, Lt]
  have s0 := hs.ext g0
  have hsz : w.heap.size ≤ W0.heap.size := g0.size
  clear hW hs
  go_wp2_with (fail)
  refine wp_scope_fwd 0 rfl ?_
  go_upto_region 2 with (go_at_call 52; (with_reducible refine (clone_C p xs c _ s0 hl).mono ?_); rintro e W1 ⟨v, rfl, ho, g1⟩)
  have ht := ht.ext g1
  have e1 := g0.tr g1
  have ho : W1.ownsRow w.heap.size 43 6 v xs.length (flC xs) := ownsRow_le ho hsz
  have s1 := s0.ext g1
  have HO := Lib.hid ho
  obtain ⟨d0, d1, d2, d3⟩ := ht.cells
  have lB : Lt w.heap.size W1 := ht.2
  clear ho s0 g0 g1 hsz
  go_upto_region 3 with (go_at_call 24; go_must (with_reducible refine (find_any t p xs c _ s1 hl).mono ?_); rintro e W2 ⟨rfl, g2⟩)
  have s2 := s1.ext g2
  have e2 := e1.tr g2
  have HO2 := Lib.hid (own_ext HO.out g2)
  have ht := ht.ext g2
  clear s1 e1 d0 d1 d2 d3 lB g2 HO
  obtain ⟨d0, d1, d2, d3⟩ := ht.cells
  have lB : Lt w.heap.size W2 := ht.2
  have HA := Lib.hid (at_le xs t)
  have hE : addE xs t now = if addB xs now = true then 2 else if okC xs t = true then 201 else if (xs.length : Int) < 32 then 0 else 150 := rfl
  have hB : addB xs now = (!rightC xs || decide (now < 0) || decide (1099511627776 < now)) := rfl
  have hX : addX xs t now = if addE xs t now = 0 then insAt xs (atC xs t) (newC t now) else xs := rfl
  have hg0 : w.heap.size ≤ W2.heap.size := e2.size
  have dn0 : ∀ (k : Int) W, k ≠ 0 → Ext W2 W → addE xs t now = k → ∃ v', (Ending.returned (.tuple #[v, .int .i64 k])) = .returned (.tuple #[v', .int .i64 (addE xs t now)]) ∧ W.ownsRow w.heap.size 43 6 v' (addX xs t now).length (flC (addX xs t now)) ∧ Ext w W := fun k W hk g h => by
    rw [h, if_neg hk] at hX
    exact ⟨v, by rw [h], by rw [hX]; exact own_ext HO2.out g, e2.tr g⟩
  have DN := Lib.hid dn0
  clear dn0
  cases hr : rightC xs
  · have HE := Lib.hid (show addE xs t now = 2 by rw [hE, hB, hr]; rfl)
    clear hE hB hX
    go_wp2_with (go_at_call 26; (with_reducible refine (right_any p xs c _ s2 hl).mono ?_); rw [hr]; rintro e W3 ⟨rfl, g3⟩)
    go_step3
    refine ⟨rfl, ?_⟩
    go_wp2
    rw [Exit.noGoto_ret]
    exact bodyPost_ret (v := .tuple #[v, .int .i64 2]) (by simp [results, Try.results15, go_sem]) rfl (DN.out 2 _ (by omega) g3 HE.out)
  by_cases h1 : now < 0
  · have HE := Lib.hid (show addE xs t now = 2 by rw [hE, hB, hr, decide_eq_true h1]; rfl)
    clear hE hB hX
    go_wp2_with (go_at_call 26; (with_reducible refine (right_any p xs c _ s2 hl).mono ?_); rw [hr]; rintro e W3 ⟨rfl, g3⟩)
    go_step3
    refine ⟨rfl, ?_⟩
    go_wp2
    rw [Exit.noGoto_ret]
    exact bodyPost_ret (v := .tuple #[v, .int .i64 2]) (by simp [results, Try.results15, go_sem]) rfl (DN.out 2 _ (by omega) g3 HE.out)
  by_cases h2 : 1099511627776 < now
  · have HE := Lib.hid (show addE xs t now = 2 by rw [hE, hB, hr, decide_eq_true h2]; simp)
    clear hE hB hX
    go_wp2_with (go_at_call 26; (with_reducible refine (right_any p xs c _ s2 hl).mono ?_); rw [hr]; rintro e W3 ⟨rfl, g3⟩)
    go_step3
    refine ⟨rfl, ?_⟩
    go_wp2
    rw [Exit.noGoto_ret]
    exact bodyPost_ret (v := .tuple #[v, .int .i64 2]) (by simp [results, Try.results15, go_sem]) rfl (DN.out 2 _ (by omega) g3 HE.out)
  rw [hr, decide_eq_false h1, decide_eq_false h2] at hB
  rw [hB] at hE
  simp only [Bool.not_true, Bool.or_false, Bool.false_eq_true, if_false] at hE
  cases hk : okC xs t
  rotate_left
  · have HE := Lib.hid (show addE xs t now = 201 by rw [hE, if_pos hk])
    clear hE hB hX
    go_wp2_with (go_at_call 26; (with_reducible refine (right_any p xs c _ s2 hl).mono ?_); rw [hr]; rintro e W3 ⟨rfl, g3⟩)
    go_step3
    refine ⟨rfl, ?_⟩
    go_wp2
    rw [Exit.noGoto_ret]
    exact bodyPost_ret (v := .tuple #[v, .int .i64 201]) (by simp [results, Try.results15, go_sem]) rfl (DN.out 201 _ (by omega) g3 HE.out)
  rw [if_neg (by rw [hk]; simp)] at hE
  by_cases h3 : (xs.length : Int) < 32
  rotate_left
  · have HE := Lib.hid (show addE xs t now = 150 by rw [hE, if_neg h3])
    have hd : decide ((xs.length : Int) < 32) = false := decide_eq_false h3
    clear hE hB hX
    go_wp2_with (first | (go_at_call 26; (with_reducible refine (right_any p xs c _ s2 hl).mono ?_); rw [hr]; rintro e W3 ⟨rfl, g3⟩) | (go_at_call 28; (with_reducible refine (room_any p xs.length c _).mono ?_); rw [hd]; rintro e W4 ⟨rfl, rfl⟩))
    go_step3
    refine ⟨rfl, ?_⟩
    go_wp2
    rw [Exit.noGoto_ret]
    exact bodyPost_ret (v := .tuple #[v, .int .i64 150]) (by simp [results, Try.results15, go_sem]) rfl (DN.out 150 _ (by omega) g3 HE.out)
  have hd : decide ((xs.length : Int) < 32) = true := decide_eq_true h3
  rw [if_pos h3] at hE
  have HE := Lib.hid hE
  rw [hE, if_pos rfl] at hX
  have HY := Lib.hid hX
  clear hE hB hX DN
  go_upto_region 9 with (first | (go_at_call 26; (with_reducible refine (right_any p xs c _ s2 hl).mono ?_); rw [hr]; rintro e W3 ⟨rfl, g3⟩) | (go_at_call 28; (with_reducible refine (room_any p xs.length c _).mono ?_); rw [hd]; rintro e W4 ⟨rfl, rfl⟩))
  have ht := ht.ext g3
  have e3 := e2.tr g3
  have HO3 := Lib.hid (own_ext HO2.out g3)
  clear d0 d1 d2 d3 lB HO2 s2 e2 g3 hg0
  obtain ⟨d0, d1, d2, d3⟩ := ht.cells
  have lB : Lt w.heap.size W3 := ht.2
  have hg3 : w.heap.size ≤ W3.heap.size := e3.size
  obtain ⟨WN, hWN⟩ : ∃ WN, WN = W3.alloc (.cells #[.int .u32 t.a, .int .u32 t.b, .int .u16 t.c, .int .u16 t.d, .int .i64 now, .int .i64 now] 43) := ⟨_, rfl⟩
  have hnb : v.ownBlock ≠ some W3.heap.size := fun h => by have := (HO3.out.lt _ h).2; omega
  have hOn : WN.ownsRow w.heap.size 43 6 v xs.length (flC xs) := by rw [hWN]; exact own_ext HO3.out (Ext.al (Ext.rf _) _)
  have HI := Lib.hid (ins_C w.heap.size WN v xs (atC xs t) (newC t now) W3.heap.size HA.out hl (by rw [hWN]; simp [go_sem]; omega) hOn (by rw [hWN]; exact World.alloc_heap_new _ _) hnb)
  rw [hWN] at HI
  go_wp2_with ((with_reducible refine (HI.out).mono ?_); rintro e W5 ⟨v', rfl, ho5, m5⟩; have HO5 := Lib.hid ho5; clear ho5)
  simp only [Exit.jump]
  exact bodyPost_ret (v := .tuple #[v', .int .i64 0]) (by simp [results, Try.results15, go_sem]) rfl ⟨v', by rw [HE.out], by rw [HY.out]; exact HO5.out, Mv.ext_of (Ext.al e3 _) m5 (fun _ h => h)⟩

end Go.Proofs.Ytookffaojlkfaaa

/- The document's own memory of connections; the same. -/
namespace Go.Proofs.Ytookffaojlkfaaa
open Go.RowKit

theorem wpQuiet_val {P : Program} {ops : Array Oper} {C : World → Prop} {Q : Act → Prop} {o : Oper} {a : Act} {rest : List Oper} {v : Value} (hw : Region.wanted o (yielded ops a.tmps) = true) (hr : ∀ w, (execOp a.eval o).run P w = .ok (.value v) w) (h : wpQuiet P ops C Q rest (a.put o.dst v)) : wpQuiet P ops C Q (o :: rest) a := by
  unfold wpQuiet
  rw [if_pos hw]
  exact ⟨v, fun w hc => by unfold Oper.quietAt; rw [hr]; exact ⟨rfl, rfl⟩, h⟩

theorem SlC.news {w W : World} {a : Addr} {xs : List Co} (hs : SlC w (some a) xs) (e : Ext w W) : ∀ j u, (flC xs)[j]? = some u → W.cell? (a.add j) = some u := by
  intro j u hu
  have hj : j < xs.length * 6 := by have := (List.getElem?_eq_some_iff.1 hu).1; rwa [flC_len] at this
  have hk : j / 6 < xs.length := by omega
  obtain ⟨b, off, h, hb, c0, c1, c2, c3, c4, c5⟩ := (hs.ext e) (j / 6) hk
  cases h
  have e : (⟨b, off, none⟩ : Addr).add j = ⟨b, off + j, none⟩ := by unfold Addr.add; split <;> simp_all
  have hg := flC_get xs (j / 6) (j % 6) hk (Nat.mod_lt _ (by omega))
  rw [show j / 6 * 6 + j % 6 = j by omega] at hg
  rw [e, ← hu, hg]
  have hm : j % 6 < 6 := Nat.mod_lt _ (by omega)
  generalize hq : j / 6 = q at *
  generalize hr : j % 6 = r at *
  have hjq : j = q * 6 + r := by omega
  subst hjq
  obtain rfl | rfl | rfl | rfl | rfl | rfl : r = 0 ∨ r = 1 ∨ r = 2 ∨ r = 3 ∨ r = 4 ∨ r = 5 := by omega
  · exact c0
  · exact c1
  · exact c2
  · exact c3
  · exact c4
  · exact c5
theorem SlC.nil_of {w : World} {xs : List Co} (hs : SlC w none xs) : xs = [] := by
  cases xs with
  | nil => rfl
  | cons m r => obtain ⟨b, off, h, _⟩ := hs 0 (by simp); cases h
theorem own0_C (w : World) : (w.alloc (.cells #[] 43)).ownsRow w.heap.size 43 6 (.slice (some ⟨w.heap.size, 0, none⟩) 0 0) 0 [] := ⟨rfl, .inr ⟨w.heap.size, 0, #[], rfl, Nat.le_refl _, World.alloc_heap_new _ _, Nat.le_refl _, by unfold maxLen; omega, rfl, rfl⟩⟩
set_option maxRecDepth 20000 in
set_option maxHeartbeats 2000000 in
theorem own_C (p : Option Addr) (xs : List Co) (c : Nat) (w : World) (hs : SlC w p xs) (hl : xs.length ≤ 1000) :
    Calls Try.prog 54 #[.slice p xs.length c] w fun e w' => ∃ v, e = .returned v ∧ w'.ownsRow w.heap.size 43 6 v xs.length (flC xs) ∧ Ext w w' := by
  obtain ⟨i0, hi, hz0, hz1, hz2⟩ := info_parts info_C
  cases p with
  | none =>
    have h0 : xs = [] := hs.nil_of
    subst h0
    go_enter Try.func54, Try.ntmps54
    go_wp2
    go_ret
    exact ⟨_, rfl, own0_C w, Ext.al (Ext.rf _) _⟩
  | some a =>
    have HN := Lib.hid (hs.news (Ext.al (Ext.rf w) (.cells #[] 43)))
    have HO := Lib.hid (own0_C w)
    clear hs
    go_enter Try.func54, Try.ntmps54
    go_wp2_with (at_builtin; refine wpList_append_own _ rfl _ _ 22 rfl w.heap.size 43 i0 (.agg #[.int .u32 0, .int .u32 0, .int .u16 0, .int .u16 0, .int .i64 0, .int .i64 0]) 6 32 Try.underlying22 hi hz0 hz1 hz2 rfl (by decide) _ _ _ rfl HO.out a xs.length c (flC xs) rfl (by simp [flC_len]) HN.out (flC_one xs) (by unfold maxLen; omega) (by omega) (by simp) ?_; intro v' w2 hown' hgrow _; have HOW := Lib.hid hown'; have HG := Lib.hid hgrow; clear hown' hgrow)
    go_ret
    refine ⟨v', rfl, ?_, ?_⟩
    · have := HOW.out; rw [Nat.zero_add, List.nil_append] at this; exact this
    · exact Mv.ext (C := fun k => k = w.heap.size) ((Mv.al _ (Mv.refl _ _)).trans (Mv.of_grown HG.out fun r e => .inl (by have e' : some w.heap.size = some r := e; injection e' with h; exact h.symm))) (fun k hk e => by omega)
theorem neq_C {x y : Co} (h : x ≠ y) (ρ : Operand → Value) (dst : Option Tmp) (p q : Operand) (ty : TypeId) (pos : String) (after : Array Edge) (g : Option (Nat × Bool)) (hx : ρ p = .agg #[.int .u32 x.t.a, .int .u32 x.t.b, .int .u16 x.t.c, .int .u16 x.t.d, .int .i64 x.s, .int .i64 x.l]) (hy : ρ q = .agg #[.int .u32 y.t.a, .int .u32 y.t.b, .int .u16 y.t.c, .int .u16 y.t.d, .int .i64 y.s, .int .i64 y.l]) (w : World) :
    (execOp ρ ⟨dst, .binOp .neq 43 p q 43, ty, pos, after, g⟩).run Try.prog w = .ok (.value (.bool true)) w := by
  simp only [execOp, hx, hy]
  go_simp
  intro h1 h2 h3 h4 h5 h6
  apply h
  rcases x with ⟨⟨_, _, _, _⟩, _, _⟩
  rcases y with ⟨⟨_, _, _, _⟩, _, _⟩
  simp_all
theorem eql_C {x y : Co} (ρ : Operand → Value) (dst : Option Tmp) (p q : Operand) (ty : TypeId) (pos : String) (after : Array Edge) (g : Option (Nat × Bool)) (hx : ρ p = .agg #[.int .u32 x.t.a, .int .u32 x.t.b, .int .u16 x.t.c, .int .u16 x.t.d, .int .i64 x.s, .int .i64 x.l]) (hy : ρ q = .agg #[.int .u32 y.t.a, .int .u32 y.t.b, .int .u16 y.t.c, .int .u16 y.t.d, .int .i64 y.s, .int .i64 y.l]) (w : World) :
    (execOp ρ ⟨dst, .binOp .eql 43 p q 43, ty, pos, after, g⟩).run Try.prog w = .ok (.value (.bool (decide (x = y)))) w := by
  simp only [execOp, hx, hy]
  go_simp
  rcases x with ⟨⟨_, _, _, _⟩, _, _⟩
  rcases y with ⟨⟨_, _, _, _⟩, _, _⟩
  simp only [Co.mk.injEq, Tu.mk.injEq]
  repeat' split
  all_goals simp_all
set_option maxRecDepth 20000 in
set_option maxHeartbeats 2000000 in
theorem same_C (p q : Option Addr) (xs ys : List Co) (c c' : Nat) (w : World) (hs : SlC w p xs) (ht : SlC w q ys) (hl : xs.length ≤ 1000) (hm : ys.length ≤ 1000) :
    Calls Try.prog 23 #[.slice p xs.length c, .slice q ys.length c'] w fun e w' => e = .returned (.bool (decide (xs = ys))) ∧ Ext w w' := by
  by_cases hle : xs.length = ys.length
  · have hlb : ((xs.length : Int) != ys.length) = false := by simp [hle]
    have HLE := Lib.hid hle
    rw [hle] at hlb ⊢
    clear hle
    go_enter Try.func23, Try.ntmps23
    go_wp2
    go_loopw [5] (fun a wr => ∃ k : Nat, k ≤ xs.length ∧ a = .int .i64 k ∧ xs.take k = ys.take k ∧ Ext w wr) (fun a _ => ys.length - (intOf a).toNat)
    case atStart => exact ⟨0, Nat.zero_le _, rfl, rfl, Ext.rf _⟩
    case round =>
      obtain ⟨k, hk, rfl, hT, hE⟩ := hrel
      have hle := HLE.out
      by_cases hlt : k < ys.length
      · have hil : (k : Int) < ys.length := by omega
        obtain ⟨b1, o1, rfl, lb1, c0, c1, c2, c3, c4, c5⟩ := (hs.ext hE) k (by omega)
        obtain ⟨b2, o2, rfl, lb2, d0, d1, d2, d3, d4, d5⟩ := (ht.ext hE) k hlt
        have L1 : Lt b1 wr := lb1
        have L2 : Lt b2 wr := lb2
        have HH := Lib.hid hs
        have HT := Lib.hid ht
        have hx1 : k < xs.length := by omega
        obtain ⟨x, hx⟩ : ∃ x, xs[k] = x := ⟨_, rfl⟩
        obtain ⟨y, hy⟩ : ∃ y, ys[k] = y := ⟨_, rfl⟩
        have hT1 : xs.take (k + 1) = xs.take k ++ [x] := by rw [List.take_succ_eq_append_getElem hx1, hx]
        have hT2 : ys.take (k + 1) = ys.take k ++ [y] := by rw [List.take_succ_eq_append_getElem hlt, hy]
        rw [hx] at c0 c1 c2 c3 c4 c5
        rw [hy] at d0 d1 d2 d3 d4 d5
        clear hs ht hle lb1 lb2
        by_cases hxy : x = y
        · subst hxy
          have HN := Lib.hid (show xs.take (k + 1) = ys.take (k + 1) by rw [hT1, hT2, hT])
          clear hT hT1 hT2 hx hy
          go_upto_region 6 with (fail)
          refine wp_region_later (by kernel_rfl) (by kernel_rfl) ?_; (repeat (go_big_quiet_step (fail))); refine wpQuiet_nil ?_; intro d
          have hd := later_ext d
          go_wp2
          go_roundw
          case rel => exact ⟨k + 1, by omega, by go_num, HN.out, hE.tr hd⟩
          case measure => simp [intOf]; omega
        · have HXY := Lib.hid hxy
          have HR := Lib.hid (show decide (xs = ys) = false by
            refine decide_eq_false fun e => hxy ?_
            subst e
            rw [← hx, ← hy])
          clear hT hT1 hT2 hx hy hxy
          go_upto_region 6 with (fail)
          refine wp_region_later (by kernel_rfl) (by kernel_rfl) ?_; (repeat (go_big_quiet_step (fail)))
          refine wpQuiet_val (v := .bool true) (by kernel_rfl) (neq_C HXY.out _ _ _ _ _ _ _ _ (by kernel_rfl) (by kernel_rfl)) ?_
          refine wpQuiet_nil ?_; intro d
          have hd := later_ext d
          go_simp
          go_wp2
          exact bodyPost_ret (v := .bool false) (by simp [results, Try.results23, go_sem]) rfl ⟨by rw [HR.out], hE.tr hd⟩
      · have hil : ¬ ((k : Int) < ys.length) := by omega
        have HR := Lib.hid (show decide (xs = ys) = true by
          refine decide_eq_true ?_
          rwa [List.take_of_length_le (by omega), List.take_of_length_le (by omega)] at hT)
        clear hT
        go_wp2
        exact bodyPost_ret (v := .bool true) (by simp [results, Try.results23, go_sem]) rfl ⟨by rw [HR.out], hE⟩
  · have hlb : ((xs.length : Int) != ys.length) = true := by simp; omega
    have HR := Lib.hid (show decide (xs = ys) = false from decide_eq_false fun e => hle (by rw [e]))
    clear hle
    go_enter Try.func23, Try.ntmps23
    go_wp2
    exact bodyPost_ret (v := .bool false) (by simp [results, Try.results23, go_sem]) rfl ⟨by rw [HR.out], Ext.rf _⟩

theorem rroom_any (p : Option Addr) (n c : Nat) (w : World) :
    Calls Try.prog 29 #[.slice p n c] w fun e w' => e = .returned (.bool (decide ((n : Int) < 32))) ∧ w = w' := by
  go_enter Try.func29, Try.ntmps29
  go_wp2
  go_ret
  exact ⟨ret_bool (by simp), rfl⟩
theorem great_any (p : Option Addr) (n c : Nat) (w : World) :
    Calls Try.prog 13 #[.slice p n c] w fun e w' => e = .returned (.bool (decide ((60 : Int) < n))) ∧ w = w' := by
  go_enter Try.func13, Try.ntmps13
  go_wp2
  go_ret
  exact ⟨ret_bool (by simp), rfl⟩

end Go.Proofs.Ytookffaojlkfaaa

/- The small functions of hash. -/
namespace Go.Proofs.Ytookffaojlkfaaa
open Go.RowKit

def turn (c : Int) : Int := (167 * c + 13) % 256 % 16 * 16 + (167 * c + 13) % 256 / 16
def xorB (s c : Int) : Int := bits BinOp.xor IntKind.u8 s c
theorem turn_bd (c : Int) : 0 ≤ turn c ∧ turn c < 256 := by unfold turn; omega
theorem xorB_bd (s c : Int) : 0 ≤ xorB s c ∧ xorB s c < 256 := by
  have h1 := bits_lo_u8 .xor s c
  have h2 := bits_hi_u8 .xor s c
  unfold xorB; omega
theorem by256 (p : Int → Prop) [∀ c, Decidable (p c)] (h : ((List.range 256).all fun n => decide (p (n : Int))) = true) {c : Int} (h0 : 0 ≤ c) (h1 : c < 256) : p c := by
  obtain ⟨n, rfl⟩ : ∃ n : Nat, c = n := ⟨c.toNat, by omega⟩
  exact of_decide_eq_true (List.all_eq_true.1 h n (List.mem_range.2 (by omega)))
theorem or_val (n : Int) (h0 : 0 ≤ n) (h1 : n < 256) : bits BinOp.or IntKind.u8 (n * 16 % 256) (n / 16) = n % 16 * 16 + n / 16 := by
  refine by256 (fun n => bits BinOp.or IntKind.u8 (n * 16 % 256) (n / 16) = n % 16 * 16 + n / 16) ?_ h0 h1
  kernel_rfl
/-- A sum's bucket. -/
def fold (s : Int) : Int := s / 16 % 16 + s % 16 - 2 * (bits BinOp.and IntKind.u8 (s / 16) (s % 16))
theorem fold_val (n : Int) (h0 : 0 ≤ n) (h1 : n < 256) : wrap64 (bits BinOp.and IntKind.u8 (bits BinOp.xor IntKind.u8 n (n / 16)) 15) = fold n := by
  refine by256 (fun n => wrap64 (bits BinOp.and IntKind.u8 (bits BinOp.xor IntKind.u8 n (n / 16)) 15) = fold n) ?_ h0 h1
  kernel_rfl
theorem rfold_val (n : Int) (h0 : 0 ≤ n) (h1 : n < 256) : bits BinOp.xor IntKind.i64 ((wrap64 n).tdiv 16) ((wrap64 n).tmod 16) = fold n := by
  refine by256 (fun n => bits BinOp.xor IntKind.i64 ((wrap64 n).tdiv 16) ((wrap64 n).tmod 16) = fold n) ?_ h0 h1
  kernel_rfl
theorem fold_bd (n : Int) (h0 : 0 ≤ n) (h1 : n < 256) : 0 ≤ fold n ∧ fold n < 16 := by
  refine by256 (fun n => 0 ≤ fold n ∧ fold n < 16) ?_ h0 h1
  kernel_rfl
set_option maxHeartbeats 400000 in
theorem rot_any (c : Int) (w : World) (h0 : 0 ≤ c) (h1 : c < 256) : Calls Try.prog 125 #[.int .u8 c, .int .i64 4] w fun e w' => e = .returned (.int .u8 (c % 16 * 16 + c / 16)) ∧ w = w' := by
  have HV := Lib.hid (or_val c h0 h1)
  have b47 : bits BinOp.and IntKind.u64 4 7 = 4 := by kernel_rfl
  clear h0 h1
  go_enter Try.func125, Try.ntmps125
  go_wp2
  go_ret
  exact ⟨by rw [← HV.out]; rfl, rfl⟩
set_option maxHeartbeats 400000 in
theorem folded_any (c : Int) (w : World) (h0 : 0 ≤ c) (h1 : c < 256) : Calls Try.prog 92 #[.int .u8 c] w fun e w' => e = .returned (.int .i64 (fold c)) ∧ w = w' := by
  have HV := Lib.hid (fold_val c h0 h1)
  clear h0 h1
  go_enter Try.func92, Try.ntmps92
  go_wp2
  go_ret
  exact ⟨by rw [← HV.out]; rfl, rfl⟩
set_option maxHeartbeats 400000 in
theorem turn_any (c : Int) (w : World) : Calls Try.prog 121 #[.int .u8 c] w fun e w' => e = .returned (.int .u8 (turn c)) ∧ w = w' := by
  have HR := Lib.hid (fun w => rot_any ((167 * c + 13) % 256) w (by omega) (by omega))
  go_enter Try.func121, Try.ntmps121
  go_wp2_with ((with_reducible refine (HR.out _).mono ?_); (rintro e w' ⟨rfl, rfl⟩))
  exact bodyPost_ret (v := .int .u8 ((167 * c + 13) % 16 * 16 + (167 * c + 13) % 256 / 16)) (by kernel_rfl) rfl ⟨by rw [show (167 * c + 13) % 16 * 16 + (167 * c + 13) % 256 / 16 = turn c by unfold turn; omega], rfl⟩

theorem rturn_val (c : Int) (h0 : 0 ≤ c) (h1 : c < 256) : (wrap64 (wrap64 ((wrap64 (wrap64 (167 * wrap64 c) + 13)).tmod 16 * 16) + wrap64 (((wrap64 (wrap64 (167 * wrap64 c) + 13)).tmod 256).tdiv 16)) % 256) = turn c := by
  refine by256 (fun c => (wrap64 (wrap64 ((wrap64 (wrap64 (167 * wrap64 c) + 13)).tmod 16 * 16) + wrap64 (((wrap64 (wrap64 (167 * wrap64 c) + 13)).tmod 256).tdiv 16)) % 256) = turn c) ?_ h0 h1
  kernel_rfl
set_option maxHeartbeats 400000 in
theorem rturn_any (c : Int) (w : World) (h0 : 0 ≤ c) (h1 : c < 256) : Calls Try.prog 118 #[.int .u8 c] w fun e w' => e = .returned (.int .u8 (turn c)) ∧ w = w' := by
  have HV := Lib.hid (rturn_val c h0 h1)
  clear h0 h1
  go_enter Try.func118, Try.ntmps118
  go_wp2
  go_ret
  exact ⟨by rw [← HV.out]; rfl, rfl⟩

end Go.Proofs.Ytookffaojlkfaaa

/- The states behind bytes. -/
namespace Go.Proofs.Ytookffaojlkfaaa
open Go.RowKit

/-- A slice of bytes reads as a list. -/
def SlB (w : World) (p : Option Addr) (bs : List Int) : Prop := ∀ k, (h : k < bs.length) → ∃ b off, p = some ⟨b, off, none⟩ ∧ b < w.heap.size ∧ w.cell? ⟨b, off + k, none⟩ = some (.int .u8 bs[k])
theorem SlB.ext {w w' : World} {p : Option Addr} {bs : List Int} (h : SlB w p bs) (e : Ext w w') : SlB w' p bs := fun k hk => by
  obtain ⟨b, off, hp, hb, hc⟩ := h k hk
  exact ⟨b, off, hp, Nat.lt_of_lt_of_le hb e.size, (e.cell (p := ⟨b, off + k, none⟩) hb).trans hc⟩
def goL (s : Int) (bs : List Int) : Int := bs.foldl (fun s c => turn (xorB s c)) s
def stL : Int → List Int → List Int
  | _, [] => []
  | s, c :: cs => turn (xorB s c) :: stL (turn (xorB s c)) cs
theorem stL_len : ∀ (bs : List Int) (s : Int), (stL s bs).length = bs.length
  | [], _ => rfl
  | c :: cs, s => by unfold stL; simp [stL_len cs]
theorem stL_get : ∀ (bs : List Int) (s : Int) (i : Nat), i < bs.length → (stL s bs)[i]? = some (goL s (bs.take (i + 1)))
  | c :: cs, s, 0, _ => rfl
  | c :: cs, s, i + 1, h => by
    unfold stL
    rw [List.getElem?_cons_succ, stL_get cs _ i (by simpa using h)]
    rfl
theorem goL_snoc (bs : List Int) (s : Int) (i : Nat) (h : i < bs.length) : goL s (bs.take (i + 1)) = turn (xorB (goL s (bs.take i)) bs[i]) := by
  unfold goL
  rw [List.take_succ_eq_append_getElem h, List.foldl_append]; rfl
theorem goL_bd (bs : List Int) (s : Int) (h0 : 0 ≤ s) (h1 : s < 256) : 0 ≤ goL s bs ∧ goL s bs < 256 := by
  induction bs generalizing s with
  | nil => exact ⟨h0, h1⟩
  | cons c cs ih => have := turn_bd (xorB s c); exact ih _ this.1 this.2
theorem states_any (s : Int) (p : Option Addr) (n c : Nat) (w : World) :
    Calls Try.prog 124 #[.func (.func 121) #[] #[], .int .u8 s, .slice p n c] w fun e w' =>
      e = .returned (.func (.func 128) #[] #[.pointer (some ⟨w.heap.size + 2, 0, none⟩), .pointer (some ⟨w.heap.size, 0, none⟩), .pointer (some ⟨w.heap.size + 1, 0, none⟩)]) ∧
      w' = ((w.alloc (.cells #[.func (.func 121) #[] #[]] 125)).alloc (.cells #[.int .u8 s] 5)).alloc (.cells #[.slice p n c] 104) := by
  go_enter Try.func124, Try.ntmps124
  go_wp2
  go_ret
  exact ⟨rfl, rfl⟩
theorem enters_states : ∀ args w, (callFunc 128 args).run Try.prog w = .ok (.enter 128 args) w := enters_of Try.func128 (by kernel_rfl) rfl
set_option maxRecDepth 20000 in
set_option maxHeartbeats 4000000 in
theorem states_iter (n : Nat) (s0 : Int) (bs : List Int) (p : Option Addr) (c : Nat) (w0 w : World) (Bb Bt Bs : Nat) (U : Nat → Prop) (h0 : Ext w0 w) (hb : SlB w0 p bs) (hl : bs.length ≤ 1000)
    (hcb : w.cell? ⟨Bb, 0, none⟩ = some (.slice p bs.length c)) (hct : w.cell? ⟨Bt, 0, none⟩ = some (.func (.func 121) #[] #[])) (hcs : w.cell? ⟨Bs, 0, none⟩ = some (.int .u8 s0)) (hz : frzD w Bs = (0, 0))
    (lb : Lt Bb w) (lt : Lt Bt w) (ls : Lt Bs w) (n1 : Bb ≠ Bs) (n2 : Bt ≠ Bs) (nb : w0.heap.size ≤ Bs) (hU : ∀ k, U k → w0.heap.size ≤ k ∧ k ≠ Bb ∧ k ≠ Bt ∧ k ≠ Bs) :
    Iter Fence.wide n Try.prog 128 #[.pointer (some ⟨Bb, 0, none⟩), .pointer (some ⟨Bt, 0, none⟩), .pointer (some ⟨Bs, 0, none⟩)] (fun x : Int => #[.int .u8 x]) (fun k => k = Bs) U (stL s0 bs) w := by
  intro y J Jx W hW hJ hJx hY hJ0
  have HJ := Lib.hid hJ
  have HJx := Lib.hid hJx
  have HU := Lib.hid hU
  clear hJ hJx hU
  obtain ⟨yfn, ytm, yas, ybo, hY⟩ := hY
  have HY := Lib.hid hY
  clear hY
  have kb : W.cell? ⟨Bb, 0, none⟩ = some (.slice p bs.length c) := (hW.cell (p := ⟨Bb, 0, none⟩) lb).trans hcb
  have kt : W.cell? ⟨Bt, 0, none⟩ = some (.func (.func 121) #[] #[]) := (hW.cell (p := ⟨Bt, 0, none⟩) lt).trans hct
  have ks : W.cell? ⟨Bs, 0, none⟩ = some (.int .u8 s0) := (hW.cell (p := ⟨Bs, 0, none⟩) ls).trans hcs
  have kz : frzD W Bs = (0, 0) := by unfold frzD; rw [hW.block Bs ls]; exact hz
  have lbW : Lt Bb W := Nat.lt_of_lt_of_le lb hW.size
  have ltW : Lt Bt W := Nat.lt_of_lt_of_le lt hW.size
  have lsW : Lt Bs W := Nat.lt_of_lt_of_le ls hW.size
  have h0W := h0.tr hW
  clear hcb hct hcs hz
  refine callsIn_of_wp Try.func128 rfl trivial ?_ rfl
  simp only [Try.ntmps128, List.size_toArray, List.length_cons, List.length_nil, Nat.reduceAdd, Nat.reduceSub, Array.replicate_succ, Array.replicate_zero, List.push_toArray, List.append_toArray, List.nil_append, List.cons_append]
  refine wpIn_wide.2 ?_
  go_wp2
  go_loopw [6, 9] (fun _ a wr => ∃ i : Nat, i ≤ bs.length ∧ a = .int .i64 i ∧ J i wr ∧ wr.cell? ⟨Bb, 0, none⟩ = some (.slice p bs.length c) ∧ wr.cell? ⟨Bt, 0, none⟩ = some (.func (.func 121) #[] #[]) ∧ wr.cell? ⟨Bs, 0, none⟩ = some (.int .u8 (goL s0 (bs.take i))) ∧ frzD wr Bs = (0, 0) ∧ Lt Bb wr ∧ Lt Bt wr ∧ Lt Bs wr ∧ Ext w0 wr) (fun _ a _ => bs.length - (intOf a).toNat)
  case atStart => exact ⟨0, Nat.zero_le _, rfl, hJ0, kb, kt, ks, kz, lbW, ltW, lsW, h0W⟩
  case round =>
    clear kb kt ks kz lbW ltW lsW h0W hJ0
    obtain ⟨i, hi, rfl, hJi, kb, kt, ks, kz, lbw, ltw, lsw, hE⟩ := hrel
    by_cases hlt : i < bs.length
    · have hlt' : (i : Int) < bs.length := by omega
      obtain ⟨b, off, rfl, hbl, hcell⟩ := (hb.ext hE) i hlt
      have HXS := Lib.hid ((stL_get bs s0 i hlt).trans (congrArg some (goL_snoc bs s0 i hlt)))
      have HGS := Lib.hid (goL_snoc bs s0 i hlt)
      generalize goL s0 (bs.take i) = S at *
      generalize bs[i] = C at *
      have HJI := Lib.hid hJi
      have hf0 := frozen_of_frz kz 0
      obtain ⟨V, hV⟩ : ∃ V, turn (xorB S C) = V := ⟨_, rfl⟩
      rw [hV] at HXS HGS
      have HV := Lib.hid hV
      clear hV
      clear hJi
      go_upto_region 4 with (go_at_call 121; (with_reducible refine (turn_any _ _).mono ?_); rintro e w' ⟨rfl, rfl⟩)
      rw [show turn (bits BinOp.xor IntKind.u8 S C) = V from HV.out]
      obtain ⟨W1, hW1⟩ : ∃ W1, wr.setCell ⟨Bs, 0, none⟩ (.int .u8 V) = W1 := ⟨_, rfl⟩
      have g1 : Mv (fun k => k = Bs) wr W1 := by rw [← hW1]; exact Mv.st _ (.inl rfl) (Mv.refl _ _)
      have ks1 : W1.cell? ⟨Bs, 0, none⟩ = some (.int .u8 V) := by rw [← hW1]; exact World.cell?_setCell_same _ _ _ ks
      have kz1 : frzD W1 Bs = (0, 0) := by rw [← hW1, frzD_setCell]; exact kz
      rw [hW1]
      clear hW1
      have sb : ∀ {k : Nat} {A B : World}, k ≠ Bs → Lt k A → Mv (fun k => k = Bs) A B → B.heap[k]? = A.heap[k]? := fun hk hl hm => hm.same _ hl hk
      have kb1 : W1.cell? ⟨Bb, 0, none⟩ = some (.slice (some ⟨b, off, none⟩) bs.length c) := by rw [cell_rowD, rowD_same (sb n1 lbw g1), ← cell_rowD]; exact kb
      have kt1 : W1.cell? ⟨Bt, 0, none⟩ = some (.func (.func 121) #[] #[]) := by rw [cell_rowD, rowD_same (sb n2 ltw g1), ← cell_rowD]; exact kt
      have lb1 : Lt Bb W1 := Nat.lt_of_lt_of_le lbw g1.size
      have lt1 : Lt Bt W1 := Nat.lt_of_lt_of_le ltw g1.size
      have ls1 : Lt Bs W1 := Nat.lt_of_lt_of_le lsw g1.size
      have hE1 : Ext w0 W1 := Mv.ext_of hE g1 (fun k e => by rw [e]; exact nb)
      have hJ1 : J i W1 := HJ.out _ _ _ HJI.out g1
      have hrun : (Instr.yield y #[.int .u8 V]).run Try.prog W1 = .ok (.round y yfn (ytm #[.int .u8 V]) yas ybo) W1 := (HY.out i V W1 hJ1 HXS.out).1
      have HRD := Lib.hid (HY.out i V W1 hJ1 HXS.out).2
      clear kb kt ks kz hf0 g1 HJI
      refine (wpIn_wide (n := n)).1 ?_
      gi_wp2
      refine ⟨(fun h => by cases h), (HRD.out).mono ?_⟩
      rintro e w6 ⟨bb, rfl, hP⟩
      clear hrun HRD
      obtain ⟨rfl, hJ6, hm6⟩ | ⟨rfl, hx6⟩ := hP
      · have so : ∀ {k : Nat}, k < w.heap.size → k = Bb ∨ k = Bt ∨ k = Bs → Lt k W1 → w6.heap[k]? = W1.heap[k]? := fun hk h hl => hm6.same _ hl (fun hh => by rcases hh with hh | hh; (have := HU.out _ hh; omega); omega)
        have kb6 : w6.cell? ⟨Bb, 0, none⟩ = some (.slice (some ⟨b, off, none⟩) bs.length c) := by rw [cell_rowD, rowD_same (so lb (.inl rfl) lb1), ← cell_rowD]; exact kb1
        have kt6 : w6.cell? ⟨Bt, 0, none⟩ = some (.func (.func 121) #[] #[]) := by rw [cell_rowD, rowD_same (so lt (.inr (.inl rfl)) lt1), ← cell_rowD]; exact kt1
        have ks6 : w6.cell? ⟨Bs, 0, none⟩ = some (.int .u8 V) := by rw [cell_rowD, rowD_same (so ls (.inr (.inr rfl)) ls1), ← cell_rowD]; exact ks1
        have kz6 : frzD w6 Bs = (0, 0) := by unfold frzD at kz1 ⊢; rw [so ls (.inr (.inr rfl)) ls1]; exact kz1
        have lb6 : Lt Bb w6 := Nat.lt_of_lt_of_le lb1 hm6.size
        have lt6 : Lt Bt w6 := Nat.lt_of_lt_of_le lt1 hm6.size
        have ls6 : Lt Bs w6 := Nat.lt_of_lt_of_le ls1 hm6.size
        have hE6 : Ext w0 w6 := Mv.ext_of hE1 hm6 (fun k h => by rcases h with h | h; exact (HU.out _ h).1; exact Nat.le_trans h0.size h)
        clear hm6 kb1 kt1 ks1 kz1 so sb
        gi_wp2
        go_wp2
        go_roundw
        case rel => exact ⟨i + 1, by omega, by go_num, hJ6, kb6, kt6, by rw [HGS.out]; exact ks6, kz6, lb6, lt6, ls6, hE6⟩
        case measure => simp [intOf]; omega
      · gi_wp2
        go_wp2
        refine bodyPost_ret (results_none rfl _ _ _) rfl ⟨⟨_, rfl⟩, .inr hx6⟩
    · obtain rfl : i = bs.length := by omega
      have HLN := Lib.hid (stL_len bs s0)
      go_wp2
      go_end0
      exact ⟨⟨_, rfl⟩, .inl (by rw [HLN.out]; exact hJi)⟩

end Go.Proofs.Ytookffaojlkfaaa

/- The last state; Go. -/
namespace Go.Proofs.Ytookffaojlkfaaa
open Go.RowKit

attribute [local go_sem] Oper.semAt_some
set_option maxRecDepth 100000 in
set_option maxHeartbeats 4000000 in
theorem last_any (s : Int) (bs : List Int) (p : Option Addr) (c : Nat) (w : World) (hb : SlB w p bs) (hl : bs.length ≤ 1000) :
    Calls Try.prog 120 #[.func (.func 121) #[] #[], .int .u8 s, .slice p bs.length c] w fun e w' => e = .returned (.int .u8 (goL s bs)) ∧ Ext w w' := by
  refine (callsIn_wide (n := 5)).1 ?_
  refine callsIn_of_wp_marks Try.func120 rfl trivial ?_ rfl
  simp only [Try.ntmps120, List.size_toArray, List.length_cons, List.length_nil, Nat.reduceAdd, Nat.reduceSub, Array.replicate_succ, Array.replicate_zero, List.push_toArray, List.append_toArray, List.nil_append, List.cons_append]
  refine wpIn_wide.2 ?_
  go_wp2_with (go_at_call 124; (with_reducible refine (states_any s p bs.length c _).mono ?_); rintro e w2 ⟨rfl, rfl⟩)
  obtain ⟨W1, hW1⟩ : ∃ W1, w.alloc (.cells #[.int .u8 s] 5) = W1 := ⟨_, rfl⟩
  have g1 : Ext w W1 := by rw [← hW1]; exact Ext.al (Ext.rf _) _
  have c4 : W1.cell? ⟨w.heap.size, 0, none⟩ = some (.int .u8 s) := by rw [← hW1]; simp [go_sem]
  have z4 : frzD W1 w.heap.size = (0, 0) := by rw [← hW1]; unfold frzD; rw [World.alloc_heap_new]
  have l4 : Lt w.heap.size W1 := by rw [← hW1]; simp [Lt]
  rw [hW1]
  have hsz : W1.heap.size = w.heap.size + 1 := by rw [← hW1]; simp
  clear hW1
  obtain ⟨W2, hW2⟩ : ∃ W2, (((W1.alloc (Obj.cells #[.func (.func 121) #[] #[]] 125)).alloc (Obj.cells #[.int .u8 s] 5)).alloc (Obj.cells #[.slice p bs.length c] 104)) = W2 := ⟨_, rfl⟩
  have g2 : Ext W1 W2 := by rw [← hW2]; exact Ext.al (Ext.al (Ext.al (Ext.rf _) _) _) _
  have hsz2 : W2.heap.size = w.heap.size + 4 := by rw [← hW2]; simp [hsz]
  have cB : W2.cell? ⟨w.heap.size + 1 + 2, 0, none⟩ = some (.slice p bs.length c) := by rw [← hW2]; simp [go_sem, hsz]
  have cT : W2.cell? ⟨w.heap.size + 1, 0, none⟩ = some (.func (.func 121) #[] #[]) := by rw [← hW2]; simp [go_sem, hsz]
  have cS : W2.cell? ⟨w.heap.size + 1 + 1, 0, none⟩ = some (.int .u8 s) := by rw [← hW2]; simp [go_sem, hsz]
  have zS : frzD W2 (w.heap.size + 1 + 1) = (0, 0) := by rw [← hW2]; simp [go_sem, hsz]
  have k4 : W2.cell? ⟨w.heap.size, 0, none⟩ = some (.int .u8 s) := (g2.cell (p := ⟨w.heap.size, 0, none⟩) l4).trans c4
  have y4 : frzD W2 w.heap.size = (0, 0) := by unfold frzD; rw [g2.block _ l4]; exact z4
  rw [hW2]
  clear hW2 c4 z4
  refine (wpIn_wide (n := 5)).1 ?_
  refine wpIn_range rfl (by omega) (gf := 128) (lb := #[.pointer (some ⟨w.heap.size + 1 + 2, 0, none⟩), .pointer (some ⟨w.heap.size + 1, 0, none⟩), .pointer (some ⟨w.heap.size + 1 + 1, 0, none⟩)]) rfl trivial enters_states
    (states_iter _ s bs p c w W2 (w.heap.size + 1 + 2) (w.heap.size + 1) (w.heap.size + 1 + 1) (fun k => k = w.heap.size) (g1.tr g2) hb hl cB cT cS zS (by unfold Lt; omega) (by unfold Lt; omega) (by unfold Lt; omega) (by omega) (by omega) (by omega) (fun k e => by subst e; exact ⟨Nat.le_refl _, by omega, by omega, by omega⟩))
    (fun k e => by omega) (fun k e => by omega) (fun _ => rfl)
    (fun i W => ∃ v, W.cell? ⟨w.heap.size, 0, none⟩ = some (.int .u8 v) ∧ frzD W w.heap.size = (0, 0) ∧ Lt w.heap.size W ∧ (v = goL s (bs.take i) ∨ (stL s bs)[i]? = some v)) (fun _ _ => False)
    (fun i A B h hm => by
      obtain ⟨v, h1, h2, h3, h4⟩ := h
      have hs := hm.same w.heap.size h3 (by omega)
      exact ⟨v, by rw [cell_rowD, rowD_same hs, ← cell_rowD]; exact h1, by unfold frzD at h2 ⊢; rw [hs]; exact h2, Nat.lt_of_lt_of_le h3 hm.size, h4⟩)
    (fun _ _ _ h _ => h) ⟨s, k4, y4, Nat.lt_of_lt_of_le l4 g2.size, .inl rfl⟩
    (fun x a' W => W.cell? ⟨w.heap.size, 0, none⟩ = some (.int .u8 x) ∧ Lt w.heap.size W)
    (fun x a' A B h hm => ⟨by rw [cell_rowD, rowD_same (hm.same w.heap.size h.2 (by omega)), ← cell_rowD]; exact h.1, Nat.lt_of_lt_of_le h.2 hm.size⟩)
    ?assign ?body ?done ?stop
  case assign =>
    rintro y i x W K hsz' hv ⟨v, h1, h2, h3, h4⟩ hx hK
    have hf0 := frozen_of_frz h2 0
    gi_wp2
    repeat (rw [Oper.semAt_some _ _ _ (by intro c h; cases h)]; go_simp; gi_wp2)
    refine hK _ _ (Mv.st _ (.inl (.inl rfl)) (Mv.refl _ _)) ⟨x, World.cell?_setCell_same _ _ _ h1, by rw [frzD_setCell]; exact h2, by rw [Lt_setCell]; exact h3, .inr hx⟩ ⟨World.cell?_setCell_same _ _ _ h1, by rw [Lt_setCell]; exact h3⟩
  case body =>
    rintro y i x a' W hyl ⟨rr, hr⟩ hsz' hv ⟨v, h1, h2, h3, h4⟩ hx ⟨h5, h6⟩
    have hil : i < bs.length := by have := (List.getElem?_eq_some_iff.1 hx).1; rwa [stL_len] at this
    gi_wp2
    refine ⟨Mv.refl _ _, x, h5, h2, h3, .inl ?_⟩
    have := stL_get bs s i hil
    rw [hx] at this
    exact Option.some.inj this
  case done =>
    rintro W ⟨v, h1, h2, h3, h4⟩ hv hK
    have hvv : v = goL s bs := by
      rcases h4 with h | h
      · rw [h, stL_len, List.take_length]
      · rw [List.getElem?_eq_none (Nat.le_refl _)] at h; cases h
    subst hvv
    go_wp2
    refine ⟨by simp, .inl ⟨_, _, rfl, run_takeDeferred hK, ?_⟩⟩
    refine ⟨_, results_tmp rfl _ _ _, rfl, ?_⟩
    have hE2 : Ext w W := Mv.ext_of (g1.tr g2) hv (fun k h => by rcases h with h | h <;> omega)
    exact Mv.ext_of hE2 (Mv.put (C := fun k => k = W2.heap.size) _ _ _ rfl) (fun k h => by omega)
  case stop => intro _ _ h; exact h.elim
set_option maxHeartbeats 400000 in
theorem go_any (s : Int) (bs : List Int) (p : Option Addr) (c : Nat) (w : World) (hb : SlB w p bs) (hl : bs.length ≤ 1000) :
    Calls Try.prog 114 #[.int .u8 s, .slice p bs.length c] w fun e w' => e = .returned (.int .u8 (goL s bs)) ∧ Ext w w' := by
  go_enter Try.func114, Try.ntmps114
  go_wp2_with ((with_reducible refine (last_any s bs p c _ hb hl).mono ?_); rintro e w' ⟨rfl, hb⟩)
  go_ret
  exact ⟨rfl, hb⟩

end Go.Proofs.Ytookffaojlkfaaa

/- A tuple's parts. -/
namespace Go.Proofs.Ytookffaojlkfaaa
open Go.RowKit

def partsL (t : Tu) : List (Int × Int) := [(t.a, 4), (t.b, 4), (t.c, 2), (t.d, 2)]
theorem parts_any (t : Tu) (w : World) :
    Calls Try.prog 122 #[tu t.a t.b t.c t.d] w fun e w' => e = .returned (.func (.func 126) #[] #[.pointer (some ⟨w.heap.size, 0, none⟩)]) ∧ w' = w.alloc (.cells #[.int .u32 t.a, .int .u32 t.b, .int .u16 t.c, .int .u16 t.d] 26) := by
  go_enter Try.func122, Try.ntmps122
  go_wp2
  go_ret
  exact ⟨rfl, rfl⟩
theorem enters_parts : ∀ args w, (callFunc 126 args).run Try.prog w = .ok (.enter 126 args) w := enters_of Try.func126 (by kernel_rfl) rfl
attribute [local go_sem] Oper.semAt_some
set_option maxRecDepth 20000 in
set_option maxHeartbeats 4000000 in
theorem parts_iter (n : Nat) (t : Tu) (hc : t.c % 4294967296 = t.c) (hd : t.d % 4294967296 = t.d) (w : World) (Bt : Nat) (U : Nat → Prop) (ht : TuAt w Bt t) (hU : ∀ k, U k → k ≠ Bt) :
    Iter Fence.wide n Try.prog 126 #[.pointer (some ⟨Bt, 0, none⟩)] (fun x : Int × Int => #[.int .u32 x.1, .int .i64 x.2]) (fun _ => False) U (partsL t) w := by
  intro y J Jx W hW hJ hJx hY hJ0
  have HJ := Lib.hid hJ
  have HJx := Lib.hid hJx
  have HU := Lib.hid hU
  clear hJ hJx hU
  obtain ⟨yfn, ytm, yas, ybo, hY⟩ := hY
  have HY := Lib.hid hY
  clear hY
  have HT := ht.ext hW
  have HC := Lib.hid hc
  have HD := Lib.hid hd
  have HB := Lib.hid ht.2
  clear ht hc hd
  refine callsIn_of_wp Try.func126 rfl trivial ?_ rfl
  simp only [Try.ntmps126, List.size_toArray, List.length_cons, List.length_nil, Nat.reduceAdd, Nat.reduceSub, Array.replicate_succ, Array.replicate_zero, List.push_toArray, List.append_toArray, List.nil_append, List.cons_append]
  have HT0 := HT
  have hJ0 : J 0 W := hJ0
  clear HT hW
  obtain ⟨c0, c1, c2, c3⟩ := HT0.cells
  have HR0 := Lib.hid (HY.out 0 (t.a, 4) W hJ0 rfl)
  have hrun : (Instr.yield y #[.int .u32 t.a, .int .i64 4]).run Try.prog W = .ok (.round y yfn (ytm #[.int .u32 t.a, .int .i64 4]) yas ybo) W := HR0.out.1
  have lB : Lt Bt W := HT0.2
  skip
  gi_wp2
  refine ⟨(fun h => by cases h), (HR0.out.2).mono ?_⟩
  clear c0 c1 c2 c3 hrun lB HR0
  rintro e W1 ⟨bb, rfl, hP⟩
  obtain ⟨rfl, hJ1, hm⟩ | ⟨rfl, hx⟩ := hP
  rotate_left
  · gi_wp2
    repeat (refine ⟨(fun _ h => by cases h), ?_⟩; gi_wp2)
    go_end0
    exact ⟨⟨_, rfl⟩, .inr hx⟩
  have HT1 : TuAt W1 Bt t := ⟨by rw [rowD_same (hm.same Bt HT0.2 (fun h => by rcases h with h | h; exact HU.out _ h rfl; have := HB.out; unfold Lt at this; omega))]; exact HT0.1, Nat.lt_of_lt_of_le HT0.2 hm.size⟩
  clear hm hJ0 HT0
  obtain ⟨c0, c1, c2, c3⟩ := HT1.cells
  have HR1 := Lib.hid (HY.out 1 (t.b, 4) W1 hJ1 rfl)
  have hrun : (Instr.yield y #[.int .u32 t.b, .int .i64 4]).run Try.prog W1 = .ok (.round y yfn (ytm #[.int .u32 t.b, .int .i64 4]) yas ybo) W1 := HR1.out.1
  have lB : Lt Bt W1 := HT1.2
  skip
  gi_wp2
  refine ⟨(fun h => by cases h), (HR1.out.2).mono ?_⟩
  clear c0 c1 c2 c3 hrun lB HR1
  rintro e W2 ⟨bb, rfl, hP⟩
  obtain ⟨rfl, hJ2, hm⟩ | ⟨rfl, hx⟩ := hP
  rotate_left
  · gi_wp2
    repeat (refine ⟨(fun _ h => by cases h), ?_⟩; gi_wp2)
    go_end0
    exact ⟨⟨_, rfl⟩, .inr hx⟩
  have HT2 : TuAt W2 Bt t := ⟨by rw [rowD_same (hm.same Bt HT1.2 (fun h => by rcases h with h | h; exact HU.out _ h rfl; have := HB.out; unfold Lt at this; omega))]; exact HT1.1, Nat.lt_of_lt_of_le HT1.2 hm.size⟩
  clear hm hJ1 HT1
  obtain ⟨c0, c1, c2, c3⟩ := HT2.cells
  have HR2 := Lib.hid (HY.out 2 (t.c, 2) W2 hJ2 rfl)
  have hrun : (Instr.yield y #[.int .u32 t.c, .int .i64 2]).run Try.prog W2 = .ok (.round y yfn (ytm #[.int .u32 t.c, .int .i64 2]) yas ybo) W2 := HR2.out.1
  have lB : Lt Bt W2 := HT2.2
  have hcv := HC.out
  gi_wp2
  refine ⟨(fun h => by cases h), (HR2.out.2).mono ?_⟩
  clear c0 c1 c2 c3 hrun lB HR2 hcv
  rintro e W3 ⟨bb, rfl, hP⟩
  obtain ⟨rfl, hJ3, hm⟩ | ⟨rfl, hx⟩ := hP
  rotate_left
  · gi_wp2
    repeat (refine ⟨(fun _ h => by cases h), ?_⟩; gi_wp2)
    go_end0
    exact ⟨⟨_, rfl⟩, .inr hx⟩
  have HT3 : TuAt W3 Bt t := ⟨by rw [rowD_same (hm.same Bt HT2.2 (fun h => by rcases h with h | h; exact HU.out _ h rfl; have := HB.out; unfold Lt at this; omega))]; exact HT2.1, Nat.lt_of_lt_of_le HT2.2 hm.size⟩
  clear hm hJ2 HT2
  obtain ⟨c0, c1, c2, c3⟩ := HT3.cells
  have HR3 := Lib.hid (HY.out 3 (t.d, 2) W3 hJ3 rfl)
  have hrun : (Instr.yield y #[.int .u32 t.d, .int .i64 2]).run Try.prog W3 = .ok (.round y yfn (ytm #[.int .u32 t.d, .int .i64 2]) yas ybo) W3 := HR3.out.1
  have lB : Lt Bt W3 := HT3.2
  have hcv := HD.out
  gi_wp2
  refine ⟨(fun h => by cases h), (HR3.out.2).mono ?_⟩
  clear c0 c1 c2 c3 hrun lB HR3 hcv
  rintro e W4 ⟨bb, rfl, hP⟩
  obtain ⟨rfl, hJ4, hm⟩ | ⟨rfl, hx⟩ := hP
  rotate_left
  · gi_wp2
    repeat (refine ⟨(fun _ h => by cases h), ?_⟩; gi_wp2)
    go_end0
    exact ⟨⟨_, rfl⟩, .inr hx⟩
  have HT4 : TuAt W4 Bt t := ⟨by rw [rowD_same (hm.same Bt HT3.2 (fun h => by rcases h with h | h; exact HU.out _ h rfl; have := HB.out; unfold Lt at this; omega))]; exact HT3.1, Nat.lt_of_lt_of_le HT3.2 hm.size⟩
  clear hm hJ3 HT3
  gi_wp2
  go_end0
  exact ⟨⟨_, rfl⟩, .inl hJ4⟩

end Go.Proofs.Ytookffaojlkfaaa

/- A region that draws, in a round, that turns blocks of C alone, but for one operation: what reads is taken first. (My own law; any program.) -/
namespace Go.Proofs.Ytookffaojlkfaaa
open Go.RowKit
section
variable {P : Program} {ops : Array Oper} {md : Region.Mode} {n : Nat} {r : Nat} {F : Fence} {C : Nat → Prop}
def xUponW (P : Program) (N : Value → World → Prop) : Result Next → Prop
  | .ok (.value u) w' => N u w'
  | .ok .skip w' => N undef w'
  | _ => False
theorem xUponW_mono {N N' : Value → World → Prop} (h : ∀ v w, N v w → N' v w) : ∀ r : Result Next, xUponW P N r → xUponW P N' r
  | .ok (.value u) w', hh => h _ _ hh
  | .ok .skip w', hh => h _ _ hh
def xOpW (P : Program) (ops : Array Oper) (i : Nat) (K : Act → World → Prop) (a : Act) (w : World) : Prop :=
  match ops[i]? with
  | none => K a w
  | some o => if Region.wanted o (yielded ops a.tmps) = true then xUponW P (fun v w' => K (a.put o.dst v) w') ((execOp a.eval o).run P w) else K (a.put o.dst undef) w
theorem xOpW_mono {i : Nat} {a : Act} {w : World} {K K' : Act → World → Prop} (h : ∀ a w, K a w → K' a w) (hh : xOpW P ops i K a w) : xOpW P ops i K' a w := by
  unfold xOpW at *
  split
  · exact h _ _ (by simpa [*] using hh)
  · rename_i o ho
    simp only [ho] at hh
    split
    · rename_i hw; simp only [hw, if_true] at hh; exact xUponW_mono (fun v w' h1 => h _ _ h1) _ hh
    · rename_i hw; simp only [hw] at hh; exact h _ _ hh
theorem wpOpIn_of_W {i : Nat} {a : Act} {w : World} {K : Act → World → Prop} {Q : Exit → Act → World → Prop} (hF : ∀ f, F.fn f) (hd : ∀ o, ops[i]? = some o → ∀ c, o.op ≠ .defer c) (hh : xOpW P ops i K a w) : wpOpIn F n P ops Q i K a w := by
  unfold xOpW at hh
  unfold wpOpIn
  split
  · rename_i ho; simp only [ho] at hh; exact hh
  · rename_i o ho
    simp only [ho] at hh
    split
    · rename_i hw
      simp only [hw, if_true] at hh
      refine ⟨fun f _ => hF f, ?_⟩
      have hs : Oper.semAt F.round a.eval o = execOp a.eval o := by
        cases F.round with
        | none => rfl
        | some l => exact Oper.semAt_some l _ _ (hd o ho)
      rw [hs]
      generalize (execOp a.eval o).run P w = q at *
      cases q with
      | ok x w' =>
        cases x <;> simp only [xUponW] at hh <;> simp only [Oper.uponIn]
        case value u => exact hh
        case skip => exact hh
      | halt x w' => simp only [xUponW] at hh
    · rename_i hw; simp only [hw] at hh; exact ⟨fun f _ => hF f, hh⟩
/-- Whatever order is picked from here on; each operation but r makes new blocks alone. -/
def wpAnyW (C : Nat → Prop) (P : Program) (md : Region.Mode) (ops : Array Oper) (r : Nat) (Q : Act → World → Prop) : Nat → Array Bool → Act → World → Prop
  | 0, listed, a, w => Region.ready md ops listed = [] ∧ Q a w
  | fuel + 1, listed, a, w => (Region.ready md ops listed = [] → Q a w) ∧
    ∀ i ∈ Region.ready md ops listed, xOpW P ops i (fun a' w' => (i = r ∨ Mv C w w') ∧ wpAnyW C P md ops r Q fuel (listed.setIfInBounds i true) a' w') a w
theorem wpAnyIn_of_W {Q : Act → World → Prop} {Q' : Exit → Act → World → Prop} (hF : ∀ f, F.fn f) (hd : ∀ (i : Nat) o, ops[i]? = some o → ∀ c, o.op ≠ .defer c) (hQ : ∀ a w, Q a w → Q' .normal a w) : ∀ (fuel : Nat) (listed : Array Bool) (a : Act) (w : World),
    wpAnyW C P md ops r Q fuel listed a w → wpAnyIn F n P md ops Q' fuel listed a w
  | 0, _, _, _, h => ⟨h.1, hQ _ _ h.2⟩
  | fuel + 1, _, _, _, h => ⟨fun h0 => hQ _ _ (h.1 h0), fun i hi => wpOpIn_of_W hF (hd i) (xOpW_mono (fun a' w' h1 => wpAnyIn_of_W hF hd hQ fuel _ a' w' h1.2) (h.2 i hi))⟩
/-- In state 'a', in every world that w grows to, 'o' yields v and does nothing else. -/
def YieldsW (C : Nat → Prop) (P : Program) (ops : Array Oper) (w : World) (o : Oper) (v : Value) (a : Act) : Prop :=
  (Region.wanted o (yielded ops a.tmps) = true ∧ ∀ w', Mv C w w' → (execOp a.eval o).run P w' = .ok (.value v) w') ∨ (Region.wanted o (yielded ops a.tmps) = false ∧ v = undef)
theorem YieldsW.later {w w' : World} {o : Oper} {v : Value} {a : Act} (h : YieldsW C P ops w o v a) (e : Mv C w w') : YieldsW C P ops w' o v a := by
  rcases h with ⟨h1, h2⟩ | h
  · exact .inl ⟨h1, fun w2 e2 => h2 w2 (e.trans e2)⟩
  · exact .inr h
theorem YieldsW.xOp {w : World} {i : Nat} {o : Oper} {v : Value} {a : Act} (hi : ops[i]? = some o) (hy : YieldsW C P ops w o v a) {K : Act → World → Prop} (h : K (a.put o.dst v) w) : xOpW P ops i K a w := by
  unfold xOpW
  simp only [hi]
  rcases hy with ⟨hw, hv⟩ | ⟨hw, rfl⟩
  · simp only [hw, if_true, hv w (Mv.refl _ _), xUponW]; exact h
  · simp only [hw, Bool.false_eq_true, if_false]; exact h
theorem xOpW_put {j : Nat} {oi oj : Oper} {v : Value} {w : World} (hj : ops[j]? = some oj) (hap : oi.apart ops oj = true)
    (hsi : ∀ cs b, oi.op ≠ .select cs b) (hsj : ∀ cs b, oj.op ≠ .select cs b) {K : Act → World → Prop} {a : Act}
    (hy : YieldsW C P ops w oi v a) (h : xOpW P ops j K (a.put oi.dst v) w) :
    xOpW P ops j (fun a' w' => YieldsW C P ops w oi v a' ∧ K (a'.put oi.dst v) w') a w := by
  obtain ⟨h1, h2, h3⟩ := Oper.apart_spec hap
  have keep : ∀ u, YieldsW C P ops w oi v (a.put oj.dst u) := fun u => by
    unfold YieldsW at *
    rw [execOp_put oi hsi a oj.dst u h3, wanted_put oi a oj.dst u h3]
    exact hy
  unfold xOpW at *
  simp only [hj] at *
  rw [wanted_put oj a oi.dst v h1] at h
  split
  · rename_i hw
    simp only [hw, if_true] at h
    rw [execOp_put oj hsj a oi.dst v h1] at h
    exact xUponW_mono (fun u w' h4 => ⟨keep u, by rw [← Act.put_comm a v u h2]; exact h4⟩) _ h
  · rename_i hw
    simp only [hw] at h
    exact ⟨keep _, by rw [← Act.put_comm a v undef h2]; exact h⟩
/-- What reads may be taken first, where the round waits for it. -/
theorem wpAnyW_first {Q : Act → World → Prop} {i : Nat} {oi : Oper} {v : Value} {l : List Nat} (hi : ops[i]? = some oi) (hsel : ∀ (j : Nat) (o : Oper) cs b, ops[j]? = some o → o.op ≠ .select cs b)
    (hwt : waitsB md ops (i :: l) = true) (hla : (i :: l).getLast? = some r) (hir : i ≠ r) :
    ∀ (fuel : Nat) (listed : Array Bool) (a : Act) (w : World), closedX md ops listed →
      (∀ j oj, ops[j]? = some oj → j ≠ i → listed.getD j true = false → (∀ e ∈ oj.after, Region.binds md e = true → e.on ≠ i) → oi.apart ops oj = true) →
      i ∈ Region.ready md ops listed → YieldsW C P ops w oi v a →
      wpAnyW C P md ops r Q fuel (listed.setIfInBounds i true) (a.put oi.dst v) w → wpAnyW C P md ops r Q (fuel + 1) listed a w := by
  intro fuel
  induction fuel with
  | zero =>
    intro listed a w _ _ hr hy H
    refine ⟨fun h => (by rw [h] at hr; cases hr), fun j hj => ?_⟩
    by_cases hji : j = i
    · subst hji; exact hy.xOp hi ⟨.inr (Mv.refl _ _), H⟩
    · have := ready_mono hj hji
      rw [H.1] at this
      cases this
  | succ fuel ih =>
    intro listed a w hcl hfree hr hy H
    refine ⟨fun h => (by rw [h] at hr; cases hr), fun j hj => ?_⟩
    by_cases hji : j = i
    · subst hji; exact hy.xOp hi ⟨.inr (Mv.refl _ _), H⟩
    · have hjr : j ≠ r := fun e => by
        subst e
        have h1 := waits_listed hcl hj l i hwt hla hir
        have h0 := (mem_ready.1 hr).1
        rcases Nat.lt_or_ge i listed.size with h' | h'
        · simp [h'] at h0 h1; rw [h0] at h1; cases h1
        · simp [Array.getElem?_eq_none h'] at h1
      have h1 := H.2 j (ready_mono hj hji)
      obtain ⟨hjun, oj, hoj, hall⟩ := mem_ready.1 hj
      have hnot : ∀ e ∈ oj.after, Region.binds md e = true → e.on ≠ i := fun e he hb heq => by
        have h1 := hall e he hb
        have h0 := (mem_ready.1 hr).1
        rw [heq] at h1
        rcases Nat.lt_or_ge i listed.size with h' | h'
        · simp [h'] at h0 h1; rw [h0] at h1; cases h1
        · simp [Array.getElem?_eq_none h'] at h1
      have h2 := xOpW_put hoj (hfree j oj hoj hji hjun hnot) (fun cs b => hsel i oi cs b hi) (fun cs b => hsel j oj cs b hoj) hy h1
      have hfree' : ∀ k ok, ops[k]? = some ok → k ≠ i → (listed.setIfInBounds j true).getD k true = false →
          (∀ e ∈ ok.after, Region.binds md e = true → e.on ≠ i) → oi.apart ops ok = true := fun k ok hk hki hun hno => by
        refine hfree k ok hk hki ?_ hno
        by_cases hjk : j = k
        · subst hjk; exact hjun
        · rw [getD_set_ne true hjk] at hun; exact hun
      refine xOpW_mono (fun a' w' h3 => ⟨h3.2.1, ih (listed.setIfInBounds j true) a' w' (hcl.set hj) hfree' (ready_mono hr (Ne.symm hji)) (h3.1.later (h3.2.1.resolve_left hjr)) ?_⟩) h2
      have h4 := h3.2.2
      rw [Array.setIfInBounds_comm _ _ hji]
      exact h4
theorem takeW {Q : Act → World → Prop} {N k : Nat} {l : List Nat} {oi : Oper} {v : Value} {fuel : Nat} {a : Act} {w : World} (hs : Region.noSelect ops = true) (hok : okX ops N k = true)
    (hcl : closedB .any ops (lst N k) = true) (hwt : waitsB .any ops (k :: l) = true) (hla : (k :: l).getLast? = some r) (hir : k ≠ r) (hi : ops[k]? = some oi) (hw : Region.wanted oi (yielded ops a.tmps) = true)
    (hy : ∀ w', Mv C w w' → (execOp a.eval oi).run P w' = .ok (.value v) w')
    (H : wpAnyW C P .any ops r Q fuel (lst N (k + 1)) (a.put oi.dst v) w) : wpAnyW C P .any ops r Q (fuel + 1) (lst N k) a w := by
  unfold okX at hok
  rw [Bool.and_eq_true] at hok
  refine wpAnyW_first hi (Region.noSelect_spec hs) hwt hla hir fuel _ a w (closed_of hcl) (Region.free_spec hi hok.1) (by simpa using upX_ready hok.2) (.inl ⟨hw, hy⟩) ?_
  rw [lst_set]
  exact H
theorem soleW {Q : Act → World → Prop} {N k : Nat} {oi : Oper} {fuel : Nat} {a : Act} {w : World} (hr : Region.ready .any ops (lst N k) = [k]) (hi : ops[k]? = some oi) (hw : Region.wanted oi (yielded ops a.tmps) = true)
    (H : xUponW P (fun v w' => (k = r ∨ Mv C w w') ∧ wpAnyW C P .any ops r Q fuel (lst N (k + 1)) (a.put oi.dst v) w') ((execOp a.eval oi).run P w)) : wpAnyW C P .any ops r Q (fuel + 1) (lst N k) a w := by
  refine ⟨fun h0 => ?_, fun j hj => ?_⟩
  · rw [hr] at h0; cases h0
  · rw [hr] at hj
    obtain rfl : j = k := by simpa using hj
    unfold xOpW
    simp only [hi, hw, if_true]
    rw [lst_set]
    exact H
theorem valueW {Q : Act → World → Prop} {N k : Nat} {oi : Oper} {v : Value} {fuel : Nat} {a : Act} {w : World} (hr : Region.ready .any ops (lst N k) = [k]) (hi : ops[k]? = some oi) (hw : Region.wanted oi (yielded ops a.tmps) = true)
    (he : (execOp a.eval oi).run P w = .ok (.value v) w) (H : wpAnyW C P .any ops r Q fuel (lst N (k + 1)) (a.put oi.dst v) w) : wpAnyW C P .any ops r Q (fuel + 1) (lst N k) a w := by
  refine soleW hr hi hw ?_
  rw [he]
  exact ⟨.inr (Mv.refl _ _), H⟩
theorem makeW {Q : Act → World → Prop} {N k : Nat} {oi : Oper} {v : Value} {fuel : Nat} {a : Act} {w w1 : World} (hr : Region.ready .any ops (lst N k) = [k]) (hi : ops[k]? = some oi) (hw : Region.wanted oi (yielded ops a.tmps) = true)
    (he : (execOp a.eval oi).run P w = .ok (.value v) w1) (hE : k = r ∨ Mv C w w1) (H : wpAnyW C P .any ops r Q fuel (lst N (k + 1)) (a.put oi.dst v) w1) : wpAnyW C P .any ops r Q (fuel + 1) (lst N k) a w := by
  refine soleW hr hi hw ?_
  rw [he]
  exact ⟨hE, H⟩
theorem skipW {Q : Act → World → Prop} {N k : Nat} {oi : Oper} {fuel : Nat} {a : Act} {w w1 : World} (hr : Region.ready .any ops (lst N k) = [k]) (hi : ops[k]? = some oi) (hw : Region.wanted oi (yielded ops a.tmps) = true)
    (he : (execOp a.eval oi).run P w = .ok .skip w1) (hE : k = r ∨ Mv C w w1) (H : wpAnyW C P .any ops r Q fuel (lst N (k + 1)) (a.put oi.dst undef) w1) : wpAnyW C P .any ops r Q (fuel + 1) (lst N k) a w := by
  refine soleW hr hi hw ?_
  rw [he]
  exact ⟨hE, H⟩
theorem doneW {Q : Act → World → Prop} {fuel : Nat} {listed : Array Bool} {a : Act} {w : World} (hr : Region.ready md ops listed = []) (H : Q a w) : wpAnyW C P md ops r Q fuel listed a w := by
  cases fuel with
  | zero => exact ⟨hr, H⟩
  | succ m => exact ⟨fun _ => H, fun i hi => by rw [hr] at hi; cases hi⟩
theorem wp_region_W (r : Nat) {id : Nat} {Q : Exit → Act → World → Prop} {a : Act} {w : World} (C : Nat → Prop) (hF : ∀ f, F.fn f) (hd : (ops.all fun o => match o.op with | .defer _ => false | _ => true) = true) (hm : P.follows .mixedOrders = true)
    (h : wpAnyW C P .any ops r (fun a w => Q .normal a w) ops.size (Array.replicate ops.size false) a w.drew) : (Code.region id ops true).wpIn F n P Q a w :=
  wpIn_region_any hm (wpAnyIn_of_W hF (fun i o ho c e => by
    rw [Array.all_eq_true'] at hd
    have := hd o (Array.mem_of_getElem? ho)
    rw [e] at this
    cases this) (fun _ _ h => h) _ _ _ _ h)
theorem withW {P : Program} {ops E : Array Oper} {Q : Act → World → Prop} {N : Nat} {a : Act} {w : World} {R : Array Oper → Prop} (h : ops = E) (hR : R E) (hf : ops.size = N)
    (H : R ops → wpAnyW C P .any ops r Q N (lst N 0) a w) : wpAnyW C P .any ops r Q ops.size (Array.replicate ops.size false) a w := by
  rw [hf, lst_zero]; exact H (h ▸ hR)
end

end Go.Proofs.Ytookffaojlkfaaa

/- The drawn region of tuple.Bytes: its operations, one by one. -/
namespace Go.Proofs.Ytookffaojlkfaaa
open Go.RowKit

def byN (n : Int) : Nat → List Int
  | 0 => []
  | k + 1 => (n / 256 ^ k % 256) :: byN n k
theorem byN_len (n : Int) : ∀ k, (byN n k).length = k
  | 0 => rfl
  | k + 1 => by simp [byN, byN_len n k]
theorem byN_get (n : Int) : ∀ (m i : Nat) (h : i < m), (byN n m)[i]? = some (n / 256 ^ (m - 1 - i) % 256)
  | m + 1, 0, _ => by simp [byN]
  | m + 1, i + 1, h => by
    simp only [byN, List.getElem?_cons_succ]
    rw [byN_get n m i (by omega)]
    rw [show m - 1 - i = m + 1 - 1 - (i + 1) by omega]
theorem byN_take (n : Int) (m j : Nat) (h : j < m) : (byN n m).take (m - (j + 1)) ++ [n / 256 ^ j % 256] = (byN n m).take (m - j) := by
  have h1 := byN_get n m (m - (j + 1)) (by omega)
  have h2 : m - j = m - (j + 1) + 1 := by omega
  rw [h2, List.take_add_one, h1, show m - 1 - (m - (j + 1)) = j by omega]
  rfl
theorem load_bs_W {C : Nat → Prop} {w : World} {B O : Nat} {a : Option Addr} {m c : Nat} (h0 : w.cell? ⟨B, O, none⟩ = some (.slice a m c)) (hl : Lt B w) (hC : ¬ C B) (ρ : Operand → Value) (dst : Option Tmp) (x : Operand) (ty : TypeId) (pos : String) (after : Array Edge) (g : Option (Nat × Bool))
    (hx : ρ x = .pointer (some ⟨B, O, none⟩)) : ∀ w', Mv C w w' → (execOp ρ ⟨dst, .load 104 x, ty, pos, after, g⟩).run Try.prog w' = .ok (.value (.slice a m c)) w' := by
  intro w' hE
  have h0 : w'.cell? ⟨B, O, none⟩ = some (.slice a m c) := by rw [cell_rowD, rowD_same (hE.same B hl hC), ← cell_rowD]; exact h0
  simp only [execOp, hx]
  go_simp
theorem mul8_run {j : Nat} (hj : j < 4) (ρ : Operand → Value) (dst : Option Tmp) (x : Operand) (r ty : TypeId) (pos : String) (after : Array Edge) (g : Option (Nat × Bool)) (hx : ρ x = .int .i64 (j : Nat)) (hk : ρ (.const (.int .i64 8)) = .int .i64 8) (w : World) :
    (execOp ρ ⟨dst, .binOp .mul 3 (.const (.int .i64 8)) x r, ty, pos, after, g⟩).run Try.prog w = .ok (.value (.int .i64 ((8 * j : Nat) : Int))) w := by
  obtain rfl | rfl | rfl | rfl : j = 0 ∨ j = 1 ∨ j = 2 ∨ j = 3 := by omega
  all_goals (simp only [execOp, hx, hk]; go_simp; rfl)
theorem shr8_run {n : Int} {j : Nat} (hj : j < 4) (ρ : Operand → Value) (dst : Option Tmp) (x y : Operand) (s r ty : TypeId) (pos : String) (after : Array Edge) (g : Option (Nat × Bool)) (hx : ρ x = .int .u32 n) (hy : ρ y = .int .i64 ((8 * j : Nat) : Int)) (w : World) :
    (execOp ρ ⟨dst, .binOp .shr 23 x y 3, ty, pos, after, g⟩).run Try.prog w = .ok (.value (.int .u32 (n / 256 ^ j))) w := by
  obtain rfl | rfl | rfl | rfl : j = 0 ∨ j = 1 ∨ j = 2 ∨ j = 3 := by omega
  all_goals
    simp only [execOp, hx, hy]
    go_simp
theorem conv8_run {n : Int} (ρ : Operand → Value) (dst : Option Tmp) (x : Operand) (ty : TypeId) (pos : String) (after : Array Edge) (g : Option (Nat × Bool)) (hx : ρ x = .int .u32 n) (w : World) :
    (execOp ρ ⟨dst, .convert 23 5 x, ty, pos, after, g⟩).run Try.prog w = .ok (.value (.int .u8 (n % 256))) w := by
  simp only [execOp, hx]
  go_simp
  simp [IntKind.wrap, IntKind.bits, IntKind.signed]
theorem build_run {v : Int} (ρ : Operand → Value) (dst : Option Tmp) (x : Operand) (ty : TypeId) (pos : String) (after : Array Edge) (g : Option (Nat × Bool)) (hx : ρ x = .int .u8 v) (w : World) :
    (execOp ρ ⟨dst, .buildSlice 104 1 #[(0, x)], ty, pos, after, g⟩).run Try.prog w = .ok (.value (.slice (some ⟨w.heap.size, 0, none⟩) 1 1)) (w.alloc (.cells #[.int .u8 v] 5)) := by
  simp only [execOp]
  go_simp
theorem info_U8 : (Try.prog.info? 5).map (fun i => (i.zero, i.size, i.bytes)) = some (some (.int .u8 0), 1, 1) := by kernel_rfl
theorem app_run {w : World} {B A L K : Nat} {v : Int} {u : Value} (hA : w.cell? ⟨A, 0, none⟩ = some (.int .u8 v)) (hL : L + 1 ≤ K) (hc : w.cell? ⟨B, L, none⟩ = some u) (hf : w.frozen? ⟨B, L, none⟩ = false) (ρ : Operand → Value) (dst : Option Tmp) (x y : Operand) (ty : TypeId) (pos : String) (after : Array Edge) (g : Option (Nat × Bool))
    (hx : ρ x = .slice (some ⟨B, 0, none⟩) L K) (hy : ρ y = .slice (some ⟨A, 0, none⟩) 1 1) :
    (execOp ρ ⟨dst, .call { callee := .builtin .append, args := #[x, y], argTypes := #[104, 104] }, ty, pos, after, g⟩).run Try.prog w = .ok (.value (.slice (some ⟨B, 0, none⟩) (L + 1) K)) (w.setCells B (0 + L * 1) [.int .u8 v]) := by
  obtain ⟨i0, hi, hz0, hz, hz2⟩ := info_parts info_U8
  have h := run_append_room_cells (P := Try.prog) w 104 ty 5 i0 Try.underlying104 hi B 0 L K ⟨A, 0, none⟩ 1 1 [.int .u8 v] (by rw [hz]; rfl) (fun j u h => by
    match j, h with
    | 0, h => cases h; exact hA) (by simp [Value.oneCell']) hL (fun j hj => by
      obtain rfl : j = 0 := by simpa using hj
      rw [hz, show 0 + L * 1 + 0 = L by omega, hc]; rfl) (fun j hj => by
      obtain rfl : j = 0 := by simpa using hj
      rw [hz, show 0 + L * 1 + 0 = L by omega]; exact hf)
  rw [hz] at h
  simp [execOp, resolve, invoke, builtin, hx, hy, h, Result.andThen]
theorem store_run {w : World} {B : Nat} {v u : Value} (hc : w.cell? ⟨B, 0, none⟩ = some u) (hf : w.frozen? ⟨B, 0, none⟩ = false) (hv : ∃ a m c, v = .slice a m c) (ρ : Operand → Value) (dst : Option Tmp) (x y : Operand) (ty : TypeId) (pos : String) (after : Array Edge) (g : Option (Nat × Bool))
    (hx : ρ x = .pointer (some ⟨B, 0, none⟩)) (hy : ρ y = v) :
    (execOp ρ ⟨dst, .store 104 x y, ty, pos, after, g⟩).run Try.prog w = .ok .skip (w.setCell ⟨B, 0, none⟩ v) := by
  obtain ⟨a, m, c, rfl⟩ := hv
  simp only [execOp, hx, hy]
  go_simp
def pathsB : List (Nat × List Nat) := [(0, [7, 8]), (1, [4, 5, 6, 7, 8]), (2, [3, 4, 5, 6, 7, 8]), (3, [4, 5, 6, 7, 8]), (4, [5, 6, 7, 8]), (5, [6, 7, 8])]
def SchB (ops : Array Oper) : Prop := Region.noSelect ops = true ∧ (∀ k, k < 6 → okX ops 9 k = true) ∧ (∀ k, k < 6 → closedB .any ops (lst 9 k) = true) ∧ (∀ k l, (k, l) ∈ pathsB → waitsB .any ops (k :: l) = true) ∧ Region.ready .any ops (lst 9 6) = [6] ∧ Region.ready .any ops (lst 9 7) = [7] ∧ Region.ready .any ops (lst 9 8) = [8] ∧ Region.ready .any ops (lst 9 9) = []
theorem schB : SchB ((Try.f115.body.bind (findR 8)).getD #[]) := by
  have h1 : ((List.range 6).all fun k => okX ((Try.f115.body.bind (findR 8)).getD #[]) 9 k) = true := by kernel_rfl
  have h2 : ((List.range 6).all fun k => closedB .any ((Try.f115.body.bind (findR 8)).getD #[]) (lst 9 k)) = true := by kernel_rfl
  have h3 : (pathsB.all fun kl => waitsB .any ((Try.f115.body.bind (findR 8)).getD #[]) (kl.1 :: kl.2)) = true := by kernel_rfl
  exact ⟨by kernel_rfl, fun k hk => List.all_eq_true.1 h1 k (List.mem_range.2 hk), fun k hk => List.all_eq_true.1 h2 k (List.mem_range.2 hk), fun k l h => List.all_eq_true.1 h3 (k, l) h, by kernel_rfl, by kernel_rfl, by kernel_rfl, by kernel_rfl⟩

end Go.Proofs.Ytookffaojlkfaaa
