/- Connections: parted. -/
import Derived.Test.YtookffaojlkfaaaC7
set_option linter.unusedSimpArgs false
set_option linter.unusedVariables false
namespace Go.Proofs.Ytookffaojlkfaaa
open Go.RowKit

/-- A row of one's own stays where another grows. -/
theorem own_keep {A B : World} {row : Option Nat} {base : Nat} {e : TypeId} {size : Nat} {v : Value} {n : Nat} {xs : List Value} (h : A.ownsRow base e size v n xs) (hg : A.grownBy B row) (hne : ∀ g, v.ownBlock = some g → row ≠ some g) : B.ownsRow base e size v n xs := by
  refine ⟨h.1, ?_⟩
  rcases h.2 with h | ⟨g, cap, cur, rfl, hb, hgb, h1, h2, h3, h4⟩
  · exact .inl h
  · have hm : Mv (fun k => row = some k) A B := Mv.of_grown hg fun r e => .inl e
    exact .inr ⟨g, cap, cur, rfl, hb, (hm.same g (Array.getElem?_eq_some_iff.1 hgb).1 (hne g rfl)).trans hgb, h1, h2, h3, h4⟩
theorem own_ext {A B : World} {base : Nat} {e : TypeId} {size : Nat} {v : Value} {n : Nat} {xs : List Value} (h : A.ownsRow base e size v n xs) (he : Ext A B) : B.ownsRow base e size v n xs :=
  ownsRow_mv (C := fun _ => False) h (Mv.of_ext he) (fun _ _ h => h)
theorem own_lt {A : World} {base : Nat} {e : TypeId} {size : Nat} {v : Value} {n : Nat} {xs : List Value} (h : A.ownsRow base e size v n xs) : ∀ g, v.ownBlock = some g → g < A.heap.size := by
  intro g hg
  rcases h.2 with ⟨rfl, _⟩ | ⟨b, cap, cur, rfl, hb, hgb, _⟩
  · cases hg
  · have e : b = g := by simpa [Value.ownBlock] using hg
    subst e
    exact (Array.getElem?_eq_some_iff.1 hgb).1
theorem co_one (x : Co) : ∀ u ∈ x.cl, u.oneCell' = true := by
  intro u hu
  unfold Co.cl at hu
  simp only [List.mem_cons, List.not_mem_nil, or_false] at hu
  rcases hu with rfl | rfl | rfl | rfl | rfl | rfl <;> rfl
theorem cell_co_new (W : World) (x : Co) (t : TypeId) : ∀ j u, x.cl[j]? = some u → (W.alloc (.cells #[.int .u32 x.t.a, .int .u32 x.t.b, .int .u16 x.t.c, .int .u16 x.t.d, .int .i64 x.s, .int .i64 x.l] t)).cell? ((⟨W.heap.size, 0, none⟩ : Addr).add j) = some u := by
  intro j u hu
  have hj : j < 6 := (List.getElem?_eq_some_iff.1 hu).1
  have e : (⟨W.heap.size, 0, none⟩ : Addr).add j = ⟨W.heap.size, j, none⟩ := by unfold Addr.add; split <;> simp_all
  rw [e, cell_rowD, rowD_new, ← hu]
  obtain rfl | rfl | rfl | rfl | rfl | rfl : j = 0 ∨ j = 1 ∨ j = 2 ∨ j = 3 ∨ j = 4 ∨ j = 5 := by omega
  all_goals rfl
def yesN (so : Co → Bool) (xs : List Co) (k : Nat) : List Co := (xs.take k).filter so
def noN (so : Co → Bool) (xs : List Co) (k : Nat) : List Co := (xs.take k).filter fun x => !so x
theorem yesN_yes (so : Co → Bool) (xs : List Co) (k : Nat) (x : Co) (h : k < xs.length) (hx : xs[k] = x) (hs : so x = true) : yesN so xs (k + 1) = yesN so xs k ++ [x] ∧ noN so xs (k + 1) = noN so xs k := by
  unfold yesN noN
  rw [List.take_succ_eq_append_getElem h, List.filter_append, List.filter_append, hx]
  simp [hs]
theorem yesN_no (so : Co → Bool) (xs : List Co) (k : Nat) (x : Co) (h : k < xs.length) (hx : xs[k] = x) (hs : so x = false) : yesN so xs (k + 1) = yesN so xs k ∧ noN so xs (k + 1) = noN so xs k ++ [x] := by
  unfold yesN noN
  rw [List.take_succ_eq_append_getElem h, List.filter_append, List.filter_append, hx]
  simp [hs]
theorem yesN_len (so : Co → Bool) (xs : List Co) (k : Nat) : (yesN so xs k).length ≤ xs.length ∧ (noN so xs k).length ≤ xs.length := by
  unfold yesN noN
  exact ⟨Nat.le_trans (List.length_filter_le _ _) (List.length_take_le' _ _), Nat.le_trans (List.length_filter_le _ _) (List.length_take_le' _ _)⟩
/-- Two rows of one's own, apart. -/
def TwoC (base : Nat) (w : World) (v1 v2 : Value) (l1 l2 : List Co) : Prop :=
  w.ownsRow base 43 6 v1 l1.length (flC l1) ∧ w.ownsRow base 43 6 v2 l2.length (flC l2) ∧ ∀ g, v1.ownBlock = some g → v2.ownBlock ≠ some g
set_option maxRecDepth 20000 in
set_option maxHeartbeats 4000000 in
theorem parted_any (g : Nat) (lb : Array Value) (eg : ∀ args w, (callFunc g args).run Try.prog w = .ok (.enter g args) w) (so : Co → Bool) (p : Option Addr) (xs : List Co) (c : Nat) (w : World)
    (hs : SlC w p xs) (hl : xs.length ≤ 1000) (hf : ∀ x W, x ∈ xs → Ext w W → Calls Try.prog g (#[.agg #[.int .u32 x.t.a, .int .u32 x.t.b, .int .u16 x.t.c, .int .u16 x.t.d, .int .i64 x.s, .int .i64 x.l]] ++ lb) W fun e w' => e = .returned (.bool (so x)) ∧ Ext W w') :
    Calls Try.prog 59 #[.slice p xs.length c, .func (.func g) #[] lb] w fun e w' => ∃ v1 v2, e = .returned (.tuple #[v1, v2]) ∧ TwoC w.heap.size w' v1 v2 (xs.filter so) (xs.filter fun x => !so x) ∧ Ext w w' := by
  obtain ⟨i0, hi, hz0, hz1, hz2⟩ := info_parts info_C
  have HF := Lib.hid hf
  clear hf
  go_enter Try.func59, Try.ntmps59
  go_wp2
  go_loopw [4, 5, 7, 10] (fun vy vn _ a wr => ∃ k : Nat, k ≤ xs.length ∧ a = .int .i64 k ∧ TwoC w.heap.size wr vy vn (yesN so xs k) (noN so xs k) ∧ Ext w wr) (fun _ _ _ a _ => xs.length - (intOf a).toNat)
  case atStart => exact ⟨0, Nat.zero_le _, rfl, ⟨World.ownsRow_nil _ _ _ _, World.ownsRow_nil _ _ _ _, fun g h => by cases h⟩, Ext.rf _⟩
  case round =>
    obtain ⟨k, hk, rfl, ⟨hy, hn, hd⟩, hE⟩ := hrel
    by_cases hlt : k < xs.length
    · have hil : (k : Int) < xs.length := by omega
      obtain ⟨b, off, rfl, hb, c0, c1, c2, c3, c4, c5⟩ := (hs.ext hE) k hlt
      have lbb : Lt b wr := hb
      obtain ⟨x, hx⟩ : ∃ x, xs[k] = x := ⟨_, rfl⟩
      have hmem : x ∈ xs := by rw [← hx]; exact List.getElem_mem hlt
      rw [hx] at c0 c1 c2 c3 c4 c5
      have HY := Lib.hid hy
      have HN := Lib.hid hn
      have HD := Lib.hid hd
      have hlen := yesN_len so xs k
      clear hy hn hd
      go_upto_region 4 with (fail)
      obtain ⟨W1, hW⟩ : ∃ W1, wr.alloc (.cells #[.int .u32 x.t.a, .int .u32 x.t.b, .int .u16 x.t.c, .int .u16 x.t.d, .int .i64 x.s, .int .i64 x.l] 43) = W1 := ⟨_, rfl⟩
      have g1 : Ext wr W1 := by rw [← hW]; exact Ext.al (Ext.rf _) _
      have rx : rowD W1 wr.heap.size = #[.int .u32 x.t.a, .int .u32 x.t.b, .int .u16 x.t.c, .int .u16 x.t.d, .int .i64 x.s, .int .i64 x.l] := by rw [← hW]; simp [go_sem]
      have lx : Lt wr.heap.size W1 := by rw [← hW]; simp [Lt]
      rw [hW]
      have hbw := hE.size
      clear hW c0 c1 c2 c3 c4 c5 lbb hb
      generalize wr.heap.size = BX at *
      have x0 : W1.cell? ⟨BX, 0, none⟩ = some (.int .u32 x.t.a) := by rw [cell_rowD, rx]; rfl
      have x1 : W1.cell? ⟨BX, 1, none⟩ = some (.int .u32 x.t.b) := by rw [cell_rowD, rx]; rfl
      have x2 : W1.cell? ⟨BX, 2, none⟩ = some (.int .u16 x.t.c) := by rw [cell_rowD, rx]; rfl
      have x3 : W1.cell? ⟨BX, 3, none⟩ = some (.int .u16 x.t.d) := by rw [cell_rowD, rx]; rfl
      have x4 : W1.cell? ⟨BX, 4, none⟩ = some (.int .i64 x.s) := by rw [cell_rowD, rx]; rfl
      have x5 : W1.cell? ⟨BX, 5, none⟩ = some (.int .i64 x.l) := by rw [cell_rowD, rx]; rfl
      have hE1 := hE.tr g1
      have HC := HF.out x W1 hmem hE1
      clear rx
      cases hso : so x
      · rw [hso] at HC
        have HCC := Lib.hid HC
        obtain ⟨n1, n2⟩ := yesN_no so xs k x hlt hx hso
        have HN1 := Lib.hid n1
        have HN2 := Lib.hid n2
        clear HC n1 n2 hx hso hmem
        go_wp2_with (first | (at_builtin; go_must (refine wpList_append_own_at _ rfl _ _ 22 rfl w.heap.size 43 i0 (.agg #[.int .u32 0, .int .u32 0, .int .u16 0, .int .u16 0, .int .i64 0, .int .i64 0]) 6 32 Try.underlying22 hi hz0 hz1 hz2 rfl (by decide) u5 _ _ rfl (HON.out.alloc _) ⟨W2.heap.size, 0, none⟩ 1 1 x.cl rfl rfl (cell_co_new _ _ _) (co_one x) (by unfold maxLen; omega) (by omega) (by simp; omega) ?_); intro v' w3 hown' hgrow _ hat; have HOW := Lib.hid hown'; have HG := Lib.hid hgrow; have HAT := Lib.hid hat; clear hown' hgrow hat) | ((with_reducible refine (HCC.out).mono ?_); rintro e W2 ⟨rfl, g2⟩; obtain ⟨hc2, hf2, hl2, hz2', -⟩ := kept g2; (try simp at hz2'); have HOY := Lib.hid (own_ext HY.out (g1.tr g2)); have HON := Lib.hid (own_ext HN.out (g1.tr g2)); have hsz2 := (hE1.tr g2).size))
        go_roundw
        case rel =>
          have gX : Ext w (W2.alloc (.cells #[.int .u32 x.t.a, .int .u32 x.t.b, .int .u16 x.t.c, .int .u16 x.t.d, .int .i64 x.s, .int .i64 x.l] 43)) := Ext.al (hE1.tr g2) _
          refine ⟨k + 1, by omega, by go_num, ⟨?_, ?_, ?_⟩, ?_⟩
          · rw [HN1.out]; exact own_keep (HOY.out.alloc _) HG.out (fun g h e => HD.out g h e)
          · rw [HN2.out, List.length_append, flC_snoc]; exact HOW.out
          · intro gg hg1 hg2
            have b1 := own_lt HOY.out
            have b2 := own_lt HON.out
            rcases HAT.out with e | e
            · exact HD.out gg hg1 (e ▸ hg2)
            · have := b1 gg hg1; rw [hg2] at e; simp at e; omega
          · exact Mv.ext_of gX (Mv.of_grown (C := fun k => w.heap.size ≤ k) HG.out fun r e => .inl (ownBlock_ge HON.out r e)) (fun k h => h)
        case measure => simp [intOf]; omega
      · rw [hso] at HC
        have HCC := Lib.hid HC
        obtain ⟨n1, n2⟩ := yesN_yes so xs k x hlt hx hso
        have HN1 := Lib.hid n1
        have HN2 := Lib.hid n2
        clear HC n1 n2 hx hso hmem
        go_wp2_with (first | (at_builtin; go_must (refine wpList_append_own_at _ rfl _ _ 22 rfl w.heap.size 43 i0 (.agg #[.int .u32 0, .int .u32 0, .int .u16 0, .int .u16 0, .int .i64 0, .int .i64 0]) 6 32 Try.underlying22 hi hz0 hz1 hz2 rfl (by decide) u4 _ _ rfl (HOY.out.alloc _) ⟨W2.heap.size, 0, none⟩ 1 1 x.cl rfl rfl (cell_co_new _ _ _) (co_one x) (by unfold maxLen; omega) (by omega) (by simp; omega) ?_); intro v' w3 hown' hgrow _ hat; have HOW := Lib.hid hown'; have HG := Lib.hid hgrow; have HAT := Lib.hid hat; clear hown' hgrow hat) | ((with_reducible refine (HCC.out).mono ?_); rintro e W2 ⟨rfl, g2⟩; obtain ⟨hc2, hf2, hl2, hz2', -⟩ := kept g2; (try simp at hz2'); have HOY := Lib.hid (own_ext HY.out (g1.tr g2)); have HON := Lib.hid (own_ext HN.out (g1.tr g2)); have hsz2 := (hE1.tr g2).size))
        go_roundw
        case rel =>
          have gX : Ext w (W2.alloc (.cells #[.int .u32 x.t.a, .int .u32 x.t.b, .int .u16 x.t.c, .int .u16 x.t.d, .int .i64 x.s, .int .i64 x.l] 43)) := Ext.al (hE1.tr g2) _
          refine ⟨k + 1, by omega, by go_num, ⟨?_, ?_, ?_⟩, ?_⟩
          · rw [HN1.out, List.length_append, flC_snoc]; exact HOW.out
          · rw [HN2.out]; exact own_keep (HON.out.alloc _) HG.out (fun g h e => HD.out g e h)
          · intro gg hg1 hg2
            have b1 := own_lt HOY.out
            have b2 := own_lt HON.out
            rcases HAT.out with e | e
            · exact HD.out gg (e ▸ hg1) hg2
            · have := b2 gg hg2; rw [hg1] at e; simp at e; omega
          · exact Mv.ext_of gX (Mv.of_grown (C := fun k => w.heap.size ≤ k) HG.out fun r e => .inl (ownBlock_ge HOY.out r e)) (fun k h => h)
        case measure => simp [intOf]; omega
    · obtain rfl : k = xs.length := by omega
      have e1 : yesN so xs xs.length = xs.filter so := by unfold yesN; rw [List.take_length]
      have e2 : noN so xs xs.length = xs.filter fun x => !so x := by unfold noN; rw [List.take_length]
      rw [e1] at hy
      rw [e2] at hn
      have HY := Lib.hid hy
      have HN := Lib.hid hn
      have HD := Lib.hid hd
      clear hy hn hd
      go_wp2
      exact bodyPost_ret (v := .tuple #[u4, u5]) (by simp [results, Try.results59, go_sem]) rfl ⟨u4, u5, rfl, ⟨HY.out, HN.out, HD.out⟩, hE⟩

end Go.Proofs.Ytookffaojlkfaaa
