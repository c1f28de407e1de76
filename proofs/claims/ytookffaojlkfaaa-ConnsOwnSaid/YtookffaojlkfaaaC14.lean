/- slices.Insert where there is room, and where there is none. -/
import Derived.Test.YtookffaojlkfaaaC12
import Derived.Lib.Overlaps
import Derived.Lib.AppendZerosOnto
import Derived.Laws.IdiomCopy
import Derived.Laws.NewBlocks
import Derived.Laws.Externs
import Derived.Lib.SliceRun
set_option linter.unusedSimpArgs false
set_option linter.unusedVariables false
namespace Go.Proofs.Ytookffaojlkfaaa
open Go.RowKit

/-- COPY AT ANY SIZE OF THE ELEMENT. -/
theorem run_copy_wide {P : Program} (w : World) (dT sT ty elem : TypeId) (size b o dLen dCap : Nat) (a : Addr) (sLen sCap : Nat) (cs : List Value)
    (hu : P.underlying dT = some (.slice elem)) (hs : (P.info? elem).map (·.size) = some size) (hn : cs.length = Nat.min sLen dLen * size)
    (hsrc : ∀ j v, cs[j]? = some v → w.cell? (a.add j) = some v) (hc : ∀ j, j < cs.length → (w.cell? ⟨b, o + j, none⟩).isSome = true) (hf : ∀ j, j < cs.length → w.frozen? ⟨b, o + j, none⟩ = false) (h1 : ∀ v ∈ cs, v.oneCell' = true) :
    (Builtin.copy_ #[dT, sT] ty #[.slice (some ⟨b, o, none⟩) dLen dCap, .slice (some a) sLen sCap]).run P w = .ok (goInt (Nat.min sLen dLen : Nat)) (w.setCells b o cs) := by
  have hl := run_loadCells_list (P := P) w a cs hsrc
  have hst := run_storeCells_cells (P := P) b o cs 0 w (by simpa using hc) (by simpa using hf) h1
  cases hq : P.info? elem with
  | none => simp [hq] at hs
  | some i =>
    have hi : i.size = size := by simpa [hq] using hs
    simp only [Nat.add_zero] at hst
    have hm : Nat.min sLen dLen = min sLen dLen := rfl
    rw [hm] at hn
    simp [Builtin.copy_, run_underlying hu, Builtin.lenOf, Builtin.firstCells, sizeOf, typeInfo, hq, hi, ← hn, hl, hst]
theorem wp_copy_runJ {P : Program} (w : World) {o : Oper} {a : Act} {K : Act → World → Prop} {Q : Exit → Act → World → Prop} (d s : Operand) (t t' : TypeId)
    (ho : o.op = .call { callee := .builtin .copy, args := #[d, s], argTypes := #[t, t'] }) (v u : Value) (hd : a.eval d = v) (hs : a.eval s = u) {v' : Value} {w' : World}
    (hr : (Builtin.copy_ #[t, t'] o.type #[v, u]).run P w = .ok v' w') (h : K (a.put o.dst v') w') : o.wp P a w K Q := by
  unfold Oper.wp execOp
  simp only [ho, resolve, invoke, builtin, Sem.run_bind, Sem.run_pure, Result.andThen_ok, List.map_toArray, List.map_cons, List.map_nil, hd, hs, hr]
  exact h
theorem wpList_copy_runJ {P : Program} (w : World) {ops : Array Oper} {rest : List Oper} {o : Oper} {a : Act} {Q : Exit → Act → World → Prop} (hgd : o.guard = none) (d s : Operand) (t t' : TypeId)
    (ho : o.op = .call { callee := .builtin .copy, args := #[d, s], argTypes := #[t, t'] }) (v u : Value) (hd : a.eval d = v) (hs : a.eval s = u) {v' : Value} {w' : World}
    (hr : (Builtin.copy_ #[t, t'] o.type #[v, u]).run P w = .ok v' w') (h : wpList P ops Q rest (a.put o.dst v') w') : wpList P ops Q (o :: rest) a w :=
  wpList_plain hgd fun _ hK => wp_copy_runJ w d s t t' ho v u hd hs hr (hK _ _ h)
theorem step_copy_runJ {P : Program} {ops : Array Oper} {o : Oper} {a : Act} {w : World} {K : Act → World → Prop} {Q : Exit → Act → World → Prop} {E : Prop}
    (hg : o.guard = none) (d x : Operand) (dT sT : TypeId) (hop : o.op = Op.call { callee := Callee.builtin Builtin.copy, args := #[d, x], argTypes := #[dT, sT] })
    (v u : Value) (hd : a.eval d = v) (hx : a.eval x = u) {v' : Value} {w' : World} (hr : (Builtin.copy_ #[dT, sT] o.type #[v, u]).run P w = .ok v' w') (hK : K (a.put o.dst v') w') :
    if Region.wanted o (yielded ops a.tmps) = true then Oper.wp P o a w K Q else E := by
  have hw : Region.wanted o (yielded ops a.tmps) = true := by simp [Region.wanted, hg]
  rw [if_pos hw]
  unfold Oper.wp
  simp [execOp, hop, resolve, invoke, builtin, hd, hx, hr, Result.andThen]
  exact hK
/-- What a block holds behind cells being set. -/
theorem cells_setCells {g : Nat} {T : TypeId} {z : Nat × Nat} : ∀ (vs : List Value) (o : Nat) (w : World) (cur : Array Value), w.heap[g]? = some (.cells cur T z) → ∃ cur' : Array Value, (w.setCells g o vs).heap[g]? = some (.cells cur' T z) ∧ cur'.toList = setL cur.toList o vs
  | [], _, w, cur, h => ⟨cur, h, rfl⟩
  | v :: vs, o, w, cur, h => by
    have h1 : (w.setCell ⟨g, o, none⟩ v).heap[g]? = some (.cells (cur.setIfInBounds o v) T z) := by
      simp only [World.setCell]
      rw [Array.getElem?_modify, if_pos rfl, h]; rfl
    obtain ⟨cur', h2, h3⟩ := cells_setCells vs (o + 1) _ _ h1
    exact ⟨cur', h2, by rw [h3, Array.toList_setIfInBounds]; rfl⟩
theorem own_mk {w : World} {base g : Nat} {e : TypeId} {size n cap : Nat} {cur : Array Value} {xs : List Value} (hb : base ≤ g) (hg : w.heap[g]? = some (.cells cur e (0, 0))) (hn : n ≤ cap) (hm : cap ≤ maxLen) (hs : cur.toList.length = cap * size) (hx : cur.toList.take (n * size) = xs) :
    w.ownsRow base e size (.slice (some ⟨g, 0, none⟩) n cap) n xs := by
  refine ⟨?_, .inr ⟨g, cap, cur, rfl, hb, hg, hn, hm, by simpa using hs, hx⟩⟩
  rw [← hx, List.length_take, hs]
  exact Nat.min_eq_left (Nat.mul_le_mul_right _ hn)
/-- ONE IS LAID IN BETWEEN, in place: what stands behind it is moved first. -/
theorem setL_in (cur cs vs : List Value) (i n s : Nat) (hi : i ≤ n) (hcs : cur.take (n * s) = cs) (hcl : cs.length = n * s) (hvl : vs.length = s) (hcur : (n + 1) * s ≤ cur.length) :
    (setL (setL cur ((i + 1) * s) (cs.drop (i * s))) (i * s) vs).take ((n + 1) * s) = cs.take (i * s) ++ vs ++ cs.drop (i * s) := by
  have e1 : (i + 1) * s = i * s + s := by rw [Nat.add_mul, Nat.one_mul]
  have e2 : (n + 1) * s = n * s + s := by rw [Nat.add_mul, Nat.one_mul]
  have e3 : i * s ≤ n * s := Nat.mul_le_mul_right _ hi
  rw [e1, e2]
  rw [e2] at hcur
  generalize i * s = p at *
  generalize n * s = q at *
  refine List.ext_getElem? fun j => ?_
  rw [List.getElem?_take]
  have ld : (cs.drop p).length = q - p := by rw [List.length_drop, hcl]
  have lt : (cs.take p).length = p := by rw [List.length_take, hcl]; omega
  by_cases hj : j < q + s
  · rw [if_pos hj, setL_get _ _ _ _ (by rw [setL_len]; omega), hvl]
    by_cases h1 : p ≤ j ∧ j < p + s
    · rw [if_pos h1, List.getElem?_append_left (by rw [List.length_append, lt, hvl]; omega), List.getElem?_append_right (by omega), lt]
    · rw [if_neg h1, setL_get _ _ _ _ (by omega), ld]
      by_cases h2 : p + s ≤ j
      · rw [if_pos ⟨h2, by omega⟩, List.getElem?_append_right (by rw [List.length_append, lt, hvl]; omega), List.length_append, lt, hvl]
      · rw [if_neg (fun h => h2 h.1), List.append_assoc, List.getElem?_append_left (by omega), List.getElem?_take_of_lt (by omega), ← hcs, List.getElem?_take_of_lt (by omega)]
  · rw [if_neg hj, List.getElem?_eq_none (by rw [List.length_append, List.length_append, lt, ld, hvl]; omega)]
/-- .. and in a new row. -/
theorem setL_new (cur cs vs r : List Value) (i n s : Nat) (hi : i ≤ n) (hcur : cur = cs.take (i * s) ++ r) (hcl : cs.length = n * s) (hvl : vs.length = s) (hlen : (n + 1) * s ≤ cur.length) :
    (setL (setL cur (i * s) vs) ((i + 1) * s) (cs.drop (i * s))).take ((n + 1) * s) = cs.take (i * s) ++ vs ++ cs.drop (i * s) := by
  have e1 : (i + 1) * s = i * s + s := by rw [Nat.add_mul, Nat.one_mul]
  have e2 : (n + 1) * s = n * s + s := by rw [Nat.add_mul, Nat.one_mul]
  have e3 : i * s ≤ n * s := Nat.mul_le_mul_right _ hi
  rw [e1, e2]
  rw [e2] at hlen
  generalize i * s = p at *
  generalize n * s = q at *
  refine List.ext_getElem? fun j => ?_
  rw [List.getElem?_take]
  have ld : (cs.drop p).length = q - p := by rw [List.length_drop, hcl]
  have lt : (cs.take p).length = p := by rw [List.length_take, hcl]; omega
  by_cases hj : j < q + s
  · rw [if_pos hj, setL_get _ _ _ _ (by rw [setL_len]; omega), ld]
    by_cases h2 : p + s ≤ j
    · rw [if_pos ⟨h2, by omega⟩, List.getElem?_append_right (by rw [List.length_append, lt, hvl]; omega), List.length_append, lt, hvl]
    · rw [if_neg (fun h => h2 h.1), setL_get _ _ _ _ (by omega), hvl]
      by_cases h1 : p ≤ j
      · rw [if_pos ⟨h1, by omega⟩, List.getElem?_append_left (by rw [List.length_append, lt, hvl]; omega), List.getElem?_append_right (by omega), lt]
      · rw [if_neg (fun h => h1 h.1), List.append_assoc, List.getElem?_append_left (by omega), hcur, List.getElem?_append_left (by omega)]
  · rw [if_neg hj, List.getElem?_eq_none (by rw [List.length_append, List.length_append, lt, ld, hvl]; omega)]
/-- One more, at a place. -/
def insAt {α : Type} (xs : List α) (i : Nat) (x : α) : List α := xs.take i ++ x :: xs.drop i
theorem insAt_len {α : Type} (xs : List α) (i : Nat) (x : α) : (insAt xs i x).length = xs.length + 1 := by
  unfold insAt; rw [List.length_append, List.length_take, List.length_cons, List.length_drop]; omega

theorem flC_cut (xs : List Co) (i : Nat) (hi : i ≤ xs.length) : (flC xs).take (i * 6) = flC (xs.take i) ∧ (flC xs).drop (i * 6) = flC (xs.drop i) := by
  have h : flC xs = flC (xs.take i) ++ flC (xs.drop i) := by
    have h0 : flC (xs.take i ++ xs.drop i) = flC (xs.take i) ++ flC (xs.drop i) := by unfold flC; rw [List.flatMap_append]
    rw [← h0, List.take_append_drop]
  have hl : (flC (xs.take i)).length = i * 6 := by rw [flC_len, List.length_take, Nat.min_eq_left hi]
  rw [h]
  exact ⟨by rw [← hl, List.take_left], by rw [← hl, List.drop_left]⟩
theorem flC_ins (xs : List Co) (i : Nat) (x : Co) (hi : i ≤ xs.length) : flC (insAt xs i x) = (flC xs).take (i * 6) ++ x.cl ++ (flC xs).drop (i * 6) := by
  rw [(flC_cut xs i hi).1, (flC_cut xs i hi).2]
  unfold insAt flC
  simp
set_option maxHeartbeats 4000000 in
set_option maxRecDepth 100000 in
theorem ins_shift_C (b n c i vb m vc : Nat) (cs vs : List Value) (w : World) (hi : i < n) (hm : 0 < m) (hroom : n + m ≤ c) (hc63 : c ≤ 9223372036854775807) (hvb : vb ≠ b)
    (hcl : cs.length = n * 6) (hvl : vs.length = m * 6)
    (hcs : ∀ j v, cs[j]? = some v → w.cell? ⟨b, j, none⟩ = some v) (hsp : ∀ j, j < (n + m) * 6 → (w.cell? ⟨b, j, none⟩).isSome = true) (hfz : ∀ j, w.frozen? ⟨b, j, none⟩ = false)
    (hvs : ∀ j v, vs[j]? = some v → w.cell? ⟨vb, j, none⟩ = some v) (h1c : ∀ v ∈ cs, v.oneCell' = true) (h1v : ∀ v ∈ vs, v.oneCell' = true)
    (tA tB : TypeId) (kA kB : Nat) (hsa : w.shape? vb = some (tA, kA)) (hsb : w.shape? b = some (tB, kB)) (hkB : kB ≠ 0) (hfa : w.frozen? ⟨vb, 0, none⟩ = false) (hfe : w.frozen? ⟨vb, kA, none⟩ = false) :
    Calls Try.prog 53 #[.slice (some ⟨b, 0, none⟩) n c, .int .i64 i, .slice (some ⟨vb, 0, none⟩) m vc] w fun e w' =>
      e = .returned (.slice (some ⟨b, 0, none⟩) (n + m) c) ∧ w' = (w.drew.setCells b ((i + m) * 6) (cs.drop (i * 6))).setCells b (i * 6) vs := by
  obtain ⟨i0, hi0, hz0, hzs, hzb⟩ := info_parts info_C
  have hz1 : ¬ ((m : Int) = 0) := by omega
  have hz2 : ¬ ((i : Int) = (n : Int)) := by omega
  have hsz : (Try.prog.info? 43).map (·.size) = some 6 := by rw [hi0]; simp [hzs]
  have hov : ∀ lb cb, (callFunc 85 #[.slice (some ⟨vb, 0, none⟩) m vc, .slice (some ⟨b, (i + m) * 6, none⟩) lb cb]).run Try.prog w = .ok (.value (.bool false)) w := fun lb cb => by
    rw [run_callFunc_extern Try.func85 (by kernel_rfl) (by kernel_rfl) (by kernel_rfl) (e := Extern.SlicesOverlaps.overlaps #[22, 22] #[4]) (by kernel_rfl),
      Lib.run_overlaps_apart w 22 4 43 Try.underlying22 6 (fun w => by kernel_rfl) ⟨vb, 0, none⟩ ⟨b, (i + m) * 6, none⟩ m vc lb cb hvb tA tB kA kB hsa hsb hkB hfa hfe]
    rfl
  have hdl : (cs.drop (i * 6)).length = (n - i) * 6 := by rw [List.length_drop, hcl]; omega
  have hw1 : IntKind.i64.wrap ((i : Int) + (m : Int)) = (i : Int) + (m : Int) := by rw [IntKind.wrap_i64]; omega
  have hb1 : (0 : Int) ≤ (i : Int) + (m : Int) := by omega
  have hin : i ≤ n := by omega
  have htn : ((i : Int) + (m : Int)).toNat = i + m := by omega
  have hb2 : ¬ (c = i + m) := by omega
  have hb3 : (i : Int) ≤ (n : Int) + (m : Int) := by omega
  have hb4 : ¬ (c = i) := by omega
  have hmin1 : Nat.min (n + m - i) (n + m - (i + m)) = n - i := by show min _ _ = _; omega
  have hmin2 : Nat.min m (n + m - i) = m := by show min _ _ = _; omega
  have hcp1 : ∀ ty dc sc, (Builtin.copy_ #[22, 22] ty #[.slice (some ⟨b, (i + m) * 6, none⟩) (n + m - (i + m)) dc, .slice (some ⟨b, i * 6, none⟩) (n + m - i) sc]).run Try.prog w.drew = .ok (goInt (Nat.min (n + m - i) (n + m - (i + m)) : Nat)) (w.drew.setCells b ((i + m) * 6) (cs.drop (i * 6))) := fun ty dc sc =>
    run_copy_wide w.drew _ _ ty 43 6 b ((i + m) * 6) (n + m - (i + m)) dc ⟨b, i * 6, none⟩ (n + m - i) sc (cs.drop (i * 6)) Try.underlying22 hsz (by rw [hdl, hmin1])
      (fun j v hj => by rw [Addr.add_lit]; exact hcs (i * 6 + j) v (by rwa [List.getElem?_drop] at hj))
      (fun j hj => hsp _ (by omega)) (fun j hj => hfz _) (fun v hv => h1c v (List.mem_of_mem_drop hv))
  obtain ⟨W1, hW1⟩ : ∃ W1, W1 = w.drew.setCells b ((i + m) * 6) (cs.drop (i * 6)) := ⟨_, rfl⟩
  have hsp1 : ∀ k, k < (n + m) * 6 → (W1.cell? ⟨b, k, none⟩).isSome = true := by rw [hW1]; exact some_setCells _ _ w.drew hsp
  have hcp2 : ∀ (W : World), (∀ x, W.cell? x = W1.cell? x) → (∀ x, W.frozen? x = W1.frozen? x) → ∀ ty dc, (Builtin.copy_ #[22, 22] ty #[.slice (some ⟨b, i * 6, none⟩) (n + m - i) dc, .slice (some ⟨vb, 0, none⟩) m vc]).run Try.prog W = .ok (goInt (Nat.min m (n + m - i) : Nat)) (W.setCells b (i * 6) vs) := fun W hWc hWf ty dc =>
    run_copy_wide W _ _ ty 43 6 b (i * 6) (n + m - i) dc ⟨vb, 0, none⟩ m vc vs Try.underlying22 hsz (by rw [hvl, hmin2])
      (fun j v hj => by
        rw [Addr.add_lit, hWc, hW1, World.cell?_setCells_out b _ _ _ _ (fun h _ => absurd h hvb), Nat.zero_add]
        exact hvs j v hj)
      (fun j hj => by rw [hWc]; exact hsp1 _ (by omega)) (fun j hj => by rw [hWf, hW1, World.frozen?_setCells]; exact hfz _) h1v
  rw [← hW1] at hcp1
  clear hmin1 hmin2 hdl hcs hsp hsp1 hvs h1c h1v
  go_enter Try.func53, Try.ntmps53
  go_wp2_with (simp only [hov])
  go_region_law (refine step_copy_runJ rfl _ _ 22 22 rfl _ _ (by simp [Act.eval, Act.put]) (by simp [Act.eval, Act.put]) (hcp1 _ _ _) ?_)
  go_wp2_with (at_builtin; refine wpList_copy_runJ _ rfl _ _ 22 22 rfl _ _ rfl rfl (hcp2 _ (fun _ => rfl) (fun _ => rfl) _ _) ?_)
  go_ret
  first | exact ⟨rfl, rfl⟩ | exact ⟨rfl, by rw [hW1]⟩
set_option maxHeartbeats 4000000 in
set_option maxRecDepth 100000 in
theorem ins_grow_C (b n c i vb m vc : Nat) (cs vs : List Value) (w : World) (hi : i < n) (hm : 0 < m) (hnc : n ≤ c) (hroom : c < n + m) (hbig : (n + m) * 32 ≤ 140737488355328)
    (hcl : cs.length = n * 6) (hvl : vs.length = m * 6)
    (hcs : ∀ j v, cs[j]? = some v → w.cell? ⟨b, j, none⟩ = some v)
    (hvs : ∀ j v, vs[j]? = some v → w.cell? ⟨vb, j, none⟩ = some v) (h1c : ∀ v ∈ cs, v.oneCell' = true) (h1v : ∀ v ∈ vs, v.oneCell' = true) :
    Calls Try.prog 53 #[.slice (some ⟨b, 0, none⟩) n c, .int .i64 i, .slice (some ⟨vb, 0, none⟩) m vc] w fun e w' =>
      e = .returned (.slice (some ⟨w.heap.size, 0, none⟩) (n + m) (grownCap w (n + m) c 43)) ∧
      w' = (((w.alloc (.cells ((cs.take (i * 6)).toArray ++ Builtin.zeroCells (Value.cells (.agg #[.int .u32 0, .int .u32 0, .int .u16 0, .int .u16 0, .int .i64 0, .int .i64 0])) (n + m - i) ++ Builtin.zeroCells (Value.cells (.agg #[.int .u32 0, .int .u32 0, .int .u16 0, .int .u16 0, .int .i64 0, .int .i64 0])) (grownCap w (n + m) c 43 - (n + m))) 43)).drew.setCells w.heap.size (i * 6) vs).drew).setCells w.heap.size ((i + m) * 6) (cs.drop (i * 6)) := by
  obtain ⟨i0, hi0, hz0, hzs, hzb⟩ := info_parts info_C
  have hz1 : ¬ ((m : Int) = 0) := by omega
  have hz2 : ¬ ((i : Int) = (n : Int)) := by omega
  have hz3 : (c : Int) < (n : Int) + (m : Int) := by omega
  have hsz : (Try.prog.info? 43).map (·.size) = some 6 := by rw [hi0]; simp [hzs]
  have hbw : b < w.heap.size := block_lt_of_cell (hcs 0 _ (List.getElem?_eq_getElem (by omega)))
  have hvw : vb < w.heap.size := block_lt_of_cell (hvs 0 _ (List.getElem?_eq_getElem (by omega)))
  have hkk : (n : Int) + (m : Int) - (i : Int) = ((n + m - i : Nat) : Int) := by omega
  have hik : i + (n + m - i) = n + m := by omega
  have hold : (Builtin.firstCells i0.size i (.slice (some ⟨b, 0, none⟩) i c)).run Try.prog w.drew = .ok (cs.take (i * 6)).toArray w.drew := by
    rw [hzs]
    exact run_firstCells_some w.drew 6 i ⟨b, 0, none⟩ i c (cs.take (i * 6)) (by rw [List.length_take]; omega) (fun j v hj => by
      rw [Addr.add_lit, Nat.zero_add]
      rw [List.getElem?_take] at hj
      split at hj
      · exact hcs j v hj
      · cases hj)
  have hrz : ∀ ty, (Builtin.append_ #[22, 3] ty #[.slice (some ⟨b, 0, none⟩) i c, .int .i64 ((n : Int) + (m : Int) - (i : Int))]).run Try.prog w =
      .ok (.slice (some ⟨w.heap.size, 0, none⟩) (n + m) (grownCap w (n + m) c 43)) (w.drew.alloc (.cells ((cs.take (i * 6)).toArray ++ Builtin.zeroCells (Value.cells (.agg #[.int .u32 0, .int .u32 0, .int .u16 0, .int .u16 0, .int .i64 0, .int .i64 0])) (n + m - i) ++ Builtin.zeroCells (Value.cells (.agg #[.int .u32 0, .int .u32 0, .int .u16 0, .int .u16 0, .int .i64 0, .int .i64 0])) (grownCap w (n + m) c 43 - (n + m))) 43)) := fun ty => by
    have h := Lib.run_append_grow_zeros w 22 3 ty 43 i0 _ .i64 .i64 Try.underlying22 Try.underlying3 hi0 hz0 (some ⟨b, 0, none⟩) i c (cs.take (i * 6)) hold (n + m - i) (by omega) (by omega) (by omega) (by omega) (by rw [hzb]; omega) (by rw [hzb, hik]; exact growslice_fits hroom hbig)
    rw [hik] at h
    rw [hkk]
    exact h
  obtain ⟨G, hG⟩ : ∃ G, G = grownCap w (n + m) c 43 := ⟨_, rfl⟩
  obtain ⟨ROW, hROW⟩ : ∃ ROW : Array Value, ROW = (cs.take (i * 6)).toArray ++ Builtin.zeroCells (Value.cells (.agg #[.int .u32 0, .int .u32 0, .int .u16 0, .int .u16 0, .int .i64 0, .int .i64 0])) (n + m - i) ++ Builtin.zeroCells (Value.cells (.agg #[.int .u32 0, .int .u32 0, .int .u16 0, .int .u16 0, .int .i64 0, .int .i64 0])) (G - (n + m)) := ⟨_, rfl⟩
  rw [← hG] at hrz ⊢
  rw [← hROW] at hrz ⊢
  have hRl : (n + m) * 6 ≤ ROW.size := by
    rw [hROW]
    simp [Builtin.zeroCells, Value.cells]
    omega
  obtain ⟨W1, hW1⟩ : ∃ W1, W1 = w.drew.alloc (.cells ROW 43) := ⟨_, rfl⟩
  rw [← hW1] at hrz
  have hN : ∀ j, j < (n + m) * 6 → (W1.cell? ⟨w.heap.size, j, none⟩).isSome = true := fun j hj => by
    rw [hW1, World.cell?_alloc_at (w := w.drew) ROW _ w.heap.size j rfl, Array.getElem?_eq_getElem (by omega)]; rfl
  have hNf : ∀ j, W1.frozen? ⟨w.heap.size, j, none⟩ = false := fun j => by rw [hW1]; exact World.frozen?_alloc_at (w := w.drew) ROW _ w.heap.size j rfl
  have hOb : ∀ j v, w.cell? ⟨b, j, none⟩ = some v → W1.cell? ⟨b, j, none⟩ = some v := fun j v h => by rw [hW1, World.cell?_alloc_past (w := w.drew) _ b j hbw]; exact h
  have hOv : ∀ j v, w.cell? ⟨vb, j, none⟩ = some v → W1.cell? ⟨vb, j, none⟩ = some v := fun j v h => by rw [hW1, World.cell?_alloc_past (w := w.drew) _ vb j hvw]; exact h
  have hdl : (cs.drop (i * 6)).length = (n - i) * 6 := by rw [List.length_drop, hcl]; omega
  have hmin1 : Nat.min (n - i) (n + m - (i + m)) = n - i := by show min _ _ = _; omega
  have hmin2 : Nat.min m (n + m - i) = m := by show min _ _ = _; omega
  have hcpA : ∀ (W : World), (∀ x, W.cell? x = W1.cell? x) → (∀ x, W.frozen? x = W1.frozen? x) → ∀ ty dc, (Builtin.copy_ #[22, 22] ty #[.slice (some ⟨w.heap.size, i * 6, none⟩) (n + m - i) dc, .slice (some ⟨vb, 0, none⟩) m vc]).run Try.prog W = .ok (goInt (Nat.min m (n + m - i) : Nat)) (W.setCells w.heap.size (i * 6) vs) := fun W hWc hWf ty dc =>
    run_copy_wide W _ _ ty 43 6 w.heap.size (i * 6) (n + m - i) dc ⟨vb, 0, none⟩ m vc vs Try.underlying22 hsz (by rw [hvl, hmin2])
      (fun j v hj => by rw [Addr.add_lit, hWc, Nat.zero_add]; exact hOv _ v (hvs j v hj))
      (fun j hj => by rw [hWc]; exact hN _ (by omega)) (fun j hj => by rw [hWf]; exact hNf _) h1v
  have hGn : n + m ≤ G := by rw [hG]; exact grownCap_ge w _ _ _
  have hG63 : G ≤ 9223372036854775807 := by
    have := grownCap_le_maxLen w (n + m) c 43 (by unfold maxLen; omega)
    rw [← hG] at this
    unfold maxLen at this
    omega
  have hGi : ¬ (G = i) := by omega
  have hGim : ¬ (G = i + m) := by omega
  have hci : ¬ (c = i) := by omega
  have hbN : b ≠ w.heap.size := by omega
  have hcpB : ∀ (W : World), (∀ x, W.cell? x = (W1.setCells w.heap.size (i * 6) vs).cell? x) → (∀ x, W.frozen? x = (W1.setCells w.heap.size (i * 6) vs).frozen? x) → ∀ ty dc sc, (Builtin.copy_ #[22, 22] ty #[.slice (some ⟨w.heap.size, (i + m) * 6, none⟩) (n + m - (i + m)) dc, .slice (some ⟨b, i * 6, none⟩) (n - i) sc]).run Try.prog W = .ok (goInt (Nat.min (n - i) (n + m - (i + m)) : Nat)) (W.setCells w.heap.size ((i + m) * 6) (cs.drop (i * 6))) := fun W hWc hWf ty dc sc =>
    run_copy_wide W _ _ ty 43 6 w.heap.size ((i + m) * 6) (n + m - (i + m)) dc ⟨b, i * 6, none⟩ (n - i) sc (cs.drop (i * 6)) Try.underlying22 hsz (by rw [hdl, hmin1])
      (fun j v hj => by
        rw [Addr.add_lit, hWc, World.cell?_setCells_out _ _ _ _ _ (fun h _ => absurd h hbN)]
        exact hOb _ v (hcs (i * 6 + j) v (by rwa [List.getElem?_drop] at hj)))
      (fun j hj => by rw [hWc]; exact some_setCells _ _ _ hN _ (by omega))
      (fun j hj => by rw [hWf, World.frozen?_setCells]; exact hNf _) (fun v hv => h1c v (List.mem_of_mem_drop hv))
  subst hW1
  have hE1 : ∀ x, ((w.alloc (.cells ROW 43)).drew).cell? x = (w.drew.alloc (.cells ROW 43)).cell? x := fun x => rfl
  have hE2 : ∀ x, ((w.alloc (.cells ROW 43)).drew).frozen? x = (w.drew.alloc (.cells ROW 43)).frozen? x := fun x => rfl
  have hF1 : ∀ x, (((w.alloc (.cells ROW 43)).drew.setCells w.heap.size (i * 6) vs).drew).cell? x = ((w.drew.alloc (.cells ROW 43)).setCells w.heap.size (i * 6) vs).cell? x := fun x => rfl
  have hF2 : ∀ x, (((w.alloc (.cells ROW 43)).drew.setCells w.heap.size (i * 6) vs).drew).frozen? x = ((w.drew.alloc (.cells ROW 43)).setCells w.heap.size (i * 6) vs).frozen? x := fun x => rfl
  have hw1 : IntKind.i64.wrap ((i : Int) + (m : Int)) = (i : Int) + (m : Int) := by rw [IntKind.wrap_i64]; omega
  have hb1 : (0 : Int) ≤ (i : Int) + (m : Int) := by omega
  have hin : i ≤ n := by omega
  have htn : ((i : Int) + (m : Int)).toNat = i + m := by omega
  have hb3 : (i : Int) ≤ (n : Int) := by omega
  clear hkk hik hold hROW hG hRl hmin1 hmin2 hcs hvs h1c h1v
  go_enter Try.func53, Try.ntmps53
  go_wp2_with (first
    | (at_builtin; refine Lib.wpList_append_run _ rfl _ _ _ _ rfl _ _ rfl rfl _ _ (hrz _) ?_)
    | (at_builtin; refine wpList_copy_runJ _ rfl _ _ 22 22 rfl _ _ rfl rfl (hcpA _ hE1 hE2 _ _) ?_)
    | (at_builtin; refine wpList_copy_runJ _ rfl _ _ 22 22 rfl _ _ rfl rfl (hcpB _ (fun _ => rfl) (fun _ => rfl) _ _ _) ?_))
  go_region_law (refine step_copy_runJ rfl _ _ 22 22 rfl (.slice (some ⟨w.heap.size, (i + m) * 6, none⟩) (n + m - (i + m)) (G - (i + m))) (.slice (some ⟨b, i * 6, none⟩) (n - i) (c - i)) (by simp [Act.eval, Act.put]) (by simp [Act.eval, Act.put]) (hcpB _ hF1 hF2 43 (G - (i + m)) (c - i)) ?_)
  go_wp2
  go_ret
  exact ⟨rfl, rfl⟩

end Go.Proofs.Ytookffaojlkfaaa
