/- The document's Idle. -/
import Derived.Test.YtookffaojlkfaaaJ4
import Derived.Test.YtookffaojlkfaaaC9
set_option linter.unusedSimpArgs false
set_option linter.unusedVariables false
namespace Go.Proofs.Ytookffaojlkfaaa
open Go.RowKit

set_option maxRecDepth 20000 in
set_option maxHeartbeats 8000000 in
theorem ridle_any (p : Option Addr) (xs : List Co) (c : Nat) (idle now : Int) (w : World) (hs : SlC w p xs) (hl : xs.length ≤ 1000) (hid : idle ≤ 9223372036854775807) :
    Calls Try.prog 22 #[.slice p xs.length c, .int .i64 idle, .int .i64 now] w fun e w' => ∃ v1 v2, e = .returned (.tuple #[v1, v2]) ∧ TwoC w.heap.size w' v1 v2 (xs.filter (idleB idle now)) (xs.filter fun x => !idleB idle now x) ∧ Ext w w' := by
  obtain ⟨i0, hi, hz0, hz1, hz2⟩ := info_parts info_C
  go_enter Try.func22, Try.ntmps22
  go_wp2
  go_loopw [8, 9, 10] (fun vy vn a wr => ∃ q : Nat, q ≤ xs.length ∧ a = .int .i64 q ∧ TwoC w.heap.size wr vy vn (yesN (idleB idle now) xs q) (noN (idleB idle now) xs q) ∧ Ext w wr) (fun _ _ a _ => xs.length - (intOf a).toNat)
  case atStart => exact ⟨0, Nat.zero_le _, rfl, ⟨World.ownsRow_nil _ _ _ _, World.ownsRow_nil _ _ _ _, fun g h => by cases h⟩, Ext.rf _⟩
  case round =>
    obtain ⟨q, hq, rfl, ⟨hy, hn, hd⟩, hE⟩ := hrel
    by_cases hlt : q < xs.length
    · have hil : (q : Int) < xs.length := by omega
      obtain ⟨b, off, rfl, hb, c0, c1, c2, c3, c4, c5⟩ := (hs.ext hE) q hlt
      have lbb : Lt b wr := hb
      obtain ⟨x, hx⟩ : ∃ x, xs[q] = x := ⟨_, rfl⟩
      rw [hx] at c0 c1 c2 c3 c4 c5
      have HY := Lib.hid hy
      have HN := Lib.hid hn
      have HD := Lib.hid hd
      have HSS := Lib.hid hs
      have hlen := yesN_len (idleB idle now) xs q
      have hbw := hE.size
      clear hy hn hd hb hs
      by_cases h1 : 0 ≤ idle
      rotate_left
      · have hso : idleB idle now x = false := by unfold idleB asksB; simp [h1]
        obtain ⟨n1, n2⟩ := yesN_no (idleB idle now) xs q x hlt hx hso
        have HN1 := Lib.hid n1
        have HN2 := Lib.hid n2
        clear n1 n2 hx hso
        go_wp2_with ((at_builtin; go_must (refine wpList_append_own_at _ rfl _ _ 22 rfl w.heap.size 43 i0 (.agg #[.int .u32 0, .int .u32 0, .int .u16 0, .int .u16 0, .int .i64 0, .int .i64 0]) 6 32 Try.underlying22 hi hz0 hz1 hz2 rfl (by decide) u9 _ _ rfl (HN.out.alloc _) ⟨wr.heap.size, 0, none⟩ 1 1 x.cl rfl rfl (cell_co_new _ _ _) (co_one x) (by unfold maxLen; omega) (by omega) (by simp; omega) ?_); intro v' w3 hown' hgrow _ hat; have HOW := Lib.hid hown'; have HG := Lib.hid hgrow; have HAT := Lib.hid hat; clear hown' hgrow hat))
        go_roundw
        case rel =>
          have gX : Ext w (wr.alloc (.cells #[.int .u32 x.t.a, .int .u32 x.t.b, .int .u16 x.t.c, .int .u16 x.t.d, .int .i64 x.s, .int .i64 x.l] 43)) := Ext.al hE _
          refine ⟨q + 1, by omega, by go_num, ⟨?_, ?_, ?_⟩, Mv.ext_of gX (Mv.of_grown (C := fun k => w.heap.size ≤ k) HG.out fun r e => .inl (ownBlock_ge HN.out r e)) (fun k h => h)⟩
          · rw [HN1.out]; exact own_keep (HY.out.alloc _) HG.out (fun g h e => HD.out g h e)
          · rw [HN2.out, List.length_append, flC_snoc]; exact HOW.out
          · intro gg hg1 hg2
            have b1 := own_lt HY.out
            have b2 := own_lt HN.out
            rcases HAT.out with e | e
            · exact HD.out gg hg1 (e ▸ hg2)
            · have := b1 gg hg1; rw [hg2] at e; simp at e; omega
        case measure => simp [intOf]; omega
      by_cases h2 : 0 ≤ now
      rotate_left
      · have hso : idleB idle now x = false := by unfold idleB asksB; simp [h2]
        obtain ⟨n1, n2⟩ := yesN_no (idleB idle now) xs q x hlt hx hso
        have HN1 := Lib.hid n1
        have HN2 := Lib.hid n2
        clear n1 n2 hx hso
        go_wp2_with ((at_builtin; go_must (refine wpList_append_own_at _ rfl _ _ 22 rfl w.heap.size 43 i0 (.agg #[.int .u32 0, .int .u32 0, .int .u16 0, .int .u16 0, .int .i64 0, .int .i64 0]) 6 32 Try.underlying22 hi hz0 hz1 hz2 rfl (by decide) u9 _ _ rfl (HN.out.alloc _) ⟨wr.heap.size, 0, none⟩ 1 1 x.cl rfl rfl (cell_co_new _ _ _) (co_one x) (by unfold maxLen; omega) (by omega) (by simp; omega) ?_); intro v' w3 hown' hgrow _ hat; have HOW := Lib.hid hown'; have HG := Lib.hid hgrow; have HAT := Lib.hid hat; clear hown' hgrow hat))
        go_roundw
        case rel =>
          have gX : Ext w (wr.alloc (.cells #[.int .u32 x.t.a, .int .u32 x.t.b, .int .u16 x.t.c, .int .u16 x.t.d, .int .i64 x.s, .int .i64 x.l] 43)) := Ext.al hE _
          refine ⟨q + 1, by omega, by go_num, ⟨?_, ?_, ?_⟩, Mv.ext_of gX (Mv.of_grown (C := fun k => w.heap.size ≤ k) HG.out fun r e => .inl (ownBlock_ge HN.out r e)) (fun k h => h)⟩
          · rw [HN1.out]; exact own_keep (HY.out.alloc _) HG.out (fun g h e => HD.out g h e)
          · rw [HN2.out, List.length_append, flC_snoc]; exact HOW.out
          · intro gg hg1 hg2
            have b1 := own_lt HY.out
            have b2 := own_lt HN.out
            rcases HAT.out with e | e
            · exact HD.out gg hg1 (e ▸ hg2)
            · have := b1 gg hg1; rw [hg2] at e; simp at e; omega
        case measure => simp [intOf]; omega
      by_cases h3 : now ≤ 1099511627776
      rotate_left
      · have hso : idleB idle now x = false := by unfold idleB asksB; simp [h3]
        obtain ⟨n1, n2⟩ := yesN_no (idleB idle now) xs q x hlt hx hso
        have HN1 := Lib.hid n1
        have HN2 := Lib.hid n2
        clear n1 n2 hx hso
        go_wp2_with ((at_builtin; go_must (refine wpList_append_own_at _ rfl _ _ 22 rfl w.heap.size 43 i0 (.agg #[.int .u32 0, .int .u32 0, .int .u16 0, .int .u16 0, .int .i64 0, .int .i64 0]) 6 32 Try.underlying22 hi hz0 hz1 hz2 rfl (by decide) u9 _ _ rfl (HN.out.alloc _) ⟨wr.heap.size, 0, none⟩ 1 1 x.cl rfl rfl (cell_co_new _ _ _) (co_one x) (by unfold maxLen; omega) (by omega) (by simp; omega) ?_); intro v' w3 hown' hgrow _ hat; have HOW := Lib.hid hown'; have HG := Lib.hid hgrow; have HAT := Lib.hid hat; clear hown' hgrow hat))
        go_roundw
        case rel =>
          have gX : Ext w (wr.alloc (.cells #[.int .u32 x.t.a, .int .u32 x.t.b, .int .u16 x.t.c, .int .u16 x.t.d, .int .i64 x.s, .int .i64 x.l] 43)) := Ext.al hE _
          refine ⟨q + 1, by omega, by go_num, ⟨?_, ?_, ?_⟩, Mv.ext_of gX (Mv.of_grown (C := fun k => w.heap.size ≤ k) HG.out fun r e => .inl (ownBlock_ge HN.out r e)) (fun k h => h)⟩
          · rw [HN1.out]; exact own_keep (HY.out.alloc _) HG.out (fun g h e => HD.out g h e)
          · rw [HN2.out, List.length_append, flC_snoc]; exact HOW.out
          · intro gg hg1 hg2
            have b1 := own_lt HY.out
            have b2 := own_lt HN.out
            rcases HAT.out with e | e
            · exact HD.out gg hg1 (e ▸ hg2)
            · have := b1 gg hg1; rw [hg2] at e; simp at e; omega
        case measure => simp [intOf]; omega
      have hw8 : IntKind.i64.wrap (now - idle) = now - idle := by rw [IntKind.wrap_i64]; omega
      by_cases h4 : x.l ≤ now - idle
      · have hso : idleB idle now x = true := by unfold idleB asksB; simp [h1, h2, h3, h4]
        obtain ⟨n1, n2⟩ := yesN_yes (idleB idle now) xs q x hlt hx hso
        have HN1 := Lib.hid n1
        have HN2 := Lib.hid n2
        clear n1 n2 hx hso
        go_wp2_with ((at_builtin; go_must (refine wpList_append_own_at _ rfl _ _ 22 rfl w.heap.size 43 i0 (.agg #[.int .u32 0, .int .u32 0, .int .u16 0, .int .u16 0, .int .i64 0, .int .i64 0]) 6 32 Try.underlying22 hi hz0 hz1 hz2 rfl (by decide) u8 _ _ rfl (HY.out.alloc _) ⟨wr.heap.size, 0, none⟩ 1 1 x.cl rfl rfl (cell_co_new _ _ _) (co_one x) (by unfold maxLen; omega) (by omega) (by simp; omega) ?_); intro v' w3 hown' hgrow _ hat; have HOW := Lib.hid hown'; have HG := Lib.hid hgrow; have HAT := Lib.hid hat; clear hown' hgrow hat))
        go_roundw
        case rel =>
          have gX : Ext w (wr.alloc (.cells #[.int .u32 x.t.a, .int .u32 x.t.b, .int .u16 x.t.c, .int .u16 x.t.d, .int .i64 x.s, .int .i64 x.l] 43)) := Ext.al hE _
          refine ⟨q + 1, by omega, by go_num, ⟨?_, ?_, ?_⟩, Mv.ext_of gX (Mv.of_grown (C := fun k => w.heap.size ≤ k) HG.out fun r e => .inl (ownBlock_ge HY.out r e)) (fun k h => h)⟩
          · rw [HN1.out, List.length_append, flC_snoc]; exact HOW.out
          · rw [HN2.out]; exact own_keep (HN.out.alloc _) HG.out (fun g h e => HD.out g e h)
          · intro gg hg1 hg2
            have b1 := own_lt HY.out
            have b2 := own_lt HN.out
            rcases HAT.out with e | e
            · exact HD.out gg (e ▸ hg1) hg2
            · have := b2 gg hg2; rw [hg1] at e; simp at e; omega
        case measure => simp [intOf]; omega
      · have hso : idleB idle now x = false := by unfold idleB; simp [h4]
        obtain ⟨n1, n2⟩ := yesN_no (idleB idle now) xs q x hlt hx hso
        have HN1 := Lib.hid n1
        have HN2 := Lib.hid n2
        clear n1 n2 hx hso
        go_wp2_with ((at_builtin; go_must (refine wpList_append_own_at _ rfl _ _ 22 rfl w.heap.size 43 i0 (.agg #[.int .u32 0, .int .u32 0, .int .u16 0, .int .u16 0, .int .i64 0, .int .i64 0]) 6 32 Try.underlying22 hi hz0 hz1 hz2 rfl (by decide) u9 _ _ rfl (HN.out.alloc _) ⟨wr.heap.size, 0, none⟩ 1 1 x.cl rfl rfl (cell_co_new _ _ _) (co_one x) (by unfold maxLen; omega) (by omega) (by simp; omega) ?_); intro v' w3 hown' hgrow _ hat; have HOW := Lib.hid hown'; have HG := Lib.hid hgrow; have HAT := Lib.hid hat; clear hown' hgrow hat))
        go_roundw
        case rel =>
          have gX : Ext w (wr.alloc (.cells #[.int .u32 x.t.a, .int .u32 x.t.b, .int .u16 x.t.c, .int .u16 x.t.d, .int .i64 x.s, .int .i64 x.l] 43)) := Ext.al hE _
          refine ⟨q + 1, by omega, by go_num, ⟨?_, ?_, ?_⟩, Mv.ext_of gX (Mv.of_grown (C := fun k => w.heap.size ≤ k) HG.out fun r e => .inl (ownBlock_ge HN.out r e)) (fun k h => h)⟩
          · rw [HN1.out]; exact own_keep (HY.out.alloc _) HG.out (fun g h e => HD.out g h e)
          · rw [HN2.out, List.length_append, flC_snoc]; exact HOW.out
          · intro gg hg1 hg2
            have b1 := own_lt HY.out
            have b2 := own_lt HN.out
            rcases HAT.out with e | e
            · exact HD.out gg hg1 (e ▸ hg2)
            · have := b1 gg hg1; rw [hg2] at e; simp at e; omega
        case measure => simp [intOf]; omega
    · have hil : ¬ ((q : Int) < xs.length) := by omega
      have hE1 : yesN (idleB idle now) xs q = xs.filter (idleB idle now) := by unfold yesN; rw [List.take_of_length_le (by omega)]
      have hE2 : noN (idleB idle now) xs q = xs.filter fun x => !idleB idle now x := by unfold noN; rw [List.take_of_length_le (by omega)]
      rw [hE1] at hy
      rw [hE2] at hn
      have HT := Lib.hid (show TwoC w.heap.size wr u8 u9 (xs.filter (idleB idle now)) (xs.filter fun x => !idleB idle now x) from ⟨hy, hn, hd⟩)
      clear hy hn hd hE1 hE2
      go_wp2
      exact bodyPost_ret (v := .tuple #[u8, u9]) (by simp [results, Try.results22, go_sem]) rfl ⟨u8, u9, rfl, HT.out, hE⟩

end Go.Proofs.Ytookffaojlkfaaa
