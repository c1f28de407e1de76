/- The document's Of and Without. -/
import Derived.Test.YtookffaojlkfaaaJ3
set_option linter.unusedSimpArgs false
set_option linter.unusedVariables false
namespace Go.Proofs.Ytookffaojlkfaaa
open Go.RowKit

set_option maxRecDepth 20000 in
set_option maxHeartbeats 4000000 in
theorem rcof_any (p : Option Addr) (xs : List Co) (c : Nat) (k : Int) (w : World) (hs : SlC w p xs) (hl : xs.length ≤ 1000) (hr : ∀ x ∈ xs, TuR x.t) :
    Calls Try.prog 31 #[.slice p xs.length c, .int .i64 k] w fun e w' => ∃ v, e = .returned v ∧ w'.ownsRow w.heap.size 43 6 v (xs.filter (inB k)).length (flC (xs.filter (inB k))) ∧ Ext w w' := by
  obtain ⟨i0, hi, hz0, hz1, hz2⟩ := info_parts info_C
  have HRR := Lib.hid hr
  clear hr
  go_enter Try.func31, Try.ntmps31
  go_wp2
  go_loopw [5, 6] (fun v a wr => ∃ q : Nat, q ≤ xs.length ∧ a = .int .i64 q ∧ wr.ownsRow w.heap.size 43 6 v (yesN (inB k) xs q).length (flC (yesN (inB k) xs q)) ∧ Ext w wr) (fun _ a _ => xs.length - (intOf a).toNat)
  case atStart => exact ⟨0, Nat.zero_le _, rfl, World.ownsRow_nil _ _ _ _, Ext.rf _⟩
  case round =>
    obtain ⟨q, hq, rfl, hy, hE⟩ := hrel
    by_cases hlt : q < xs.length
    · have hil : (q : Int) < xs.length := by omega
      obtain ⟨b, off, rfl, hb, c0, c1, c2, c3, c4, c5⟩ := (hs.ext hE) q hlt
      have lbb : Lt b wr := hb
      obtain ⟨x, hx⟩ : ∃ x, xs[q] = x := ⟨_, rfl⟩
      have hmem : x ∈ xs := by rw [← hx]; exact List.getElem_mem hlt
      have HX := Lib.hid (HRR.out x hmem)
      rw [hx] at c0 c1 c2 c3 c4 c5
      have HY := Lib.hid hy
      have HSS := Lib.hid hs
      have hlen := yesN_len (inB k) xs q
      have hbw := hE.size
      clear hy hb hs
      by_cases hk : ofT x.t = k
      · have hkd : (ofT x.t == k) = true := by simp [hk]
        have hkn : (ofT x.t != k) = false := by simp [hk]
        have hso : (inB k) x = true := by show (ofT x.t == k) = _; rw [hkd]
        clear hk
        obtain ⟨n1, n2⟩ := yesN_yes (inB k) xs q x hlt hx hso
        have HN1 := Lib.hid n1
        clear n1 n2 hx hso hmem
        go_wp2_with (first | (at_builtin; go_must (refine wpList_append_own_at _ rfl _ _ 22 rfl w.heap.size 43 i0 (.agg #[.int .u32 0, .int .u32 0, .int .u16 0, .int .u16 0, .int .i64 0, .int .i64 0]) 6 32 Try.underlying22 hi hz0 hz1 hz2 rfl (by decide) _ _ _ rfl (HOY.out.alloc _) ⟨W2.heap.size, 0, none⟩ 1 1 x.cl rfl rfl (cell_co_new _ _ _) (co_one x) (by unfold maxLen; omega) (by omega) (by simp; omega) ?_); intro v' w3 hown' hgrow _ hat; have HOW := Lib.hid hown'; have HG := Lib.hid hgrow; have HAT := Lib.hid hat; clear hown' hgrow hat) | (go_at_call 51; (with_reducible refine (rof_any x.t HX.out _).mono ?_); rintro e W2 ⟨rfl, g2⟩; obtain ⟨hc2, hf2, hl2, hz2', -⟩ := kept g2; (try simp at hz2'); have HOY := Lib.hid (own_ext HY.out g2); have hsz2 := (hE.tr g2).size))
        go_roundw
        case rel =>
          have gX : Ext w (W2.alloc (.cells #[.int .u32 x.t.a, .int .u32 x.t.b, .int .u16 x.t.c, .int .u16 x.t.d, .int .i64 x.s, .int .i64 x.l] 43)) := Ext.al (hE.tr g2) _
          refine ⟨q + 1, by omega, by go_num, ?_, Mv.ext_of gX (Mv.of_grown (C := fun k => w.heap.size ≤ k) HG.out fun r e => .inl (ownBlock_ge HOY.out r e)) (fun k h => h)⟩
          rw [HN1.out, List.length_append, flC_snoc]; exact HOW.out
        case measure => simp [intOf]; omega
      · have hkd : (ofT x.t == k) = false := by simp [hk]
        have hkn : (ofT x.t != k) = true := by simp [hk]
        have hso : (inB k) x = false := by show (ofT x.t == k) = _; rw [hkd]
        clear hk
        obtain ⟨n1, n2⟩ := yesN_no (inB k) xs q x hlt hx hso
        have HN1 := Lib.hid n1
        clear n1 n2 hx hso hmem
        go_wp2_with (go_at_call 51; (with_reducible refine (rof_any x.t HX.out _).mono ?_); rintro e W2 ⟨rfl, g2⟩; obtain ⟨hc2, hf2, hl2, hz2', -⟩ := kept g2; (try simp at hz2'))
        go_roundw
        case rel => exact ⟨q + 1, by omega, by go_num, by rw [HN1.out]; exact own_ext HY.out g2, hE.tr g2⟩
        case measure => simp [intOf]; omega
    · have hil : ¬ ((q : Int) < xs.length) := by omega
      have HY := Lib.hid hy
      have HE := Lib.hid (show yesN (inB k) xs q = xs.filter (inB k) by unfold yesN; rw [List.take_of_length_le (by omega)])
      clear hy
      go_wp2
      refine bodyPost_ret (v := u5) (by simp [results, Try.results31, go_sem]) rfl ⟨u5, rfl, ?_, hE⟩
      rw [← HE.out]; exact HY.out

set_option maxRecDepth 20000 in
set_option maxHeartbeats 4000000 in
theorem rcwo_any (p : Option Addr) (xs : List Co) (c : Nat) (k : Int) (w : World) (hs : SlC w p xs) (hl : xs.length ≤ 1000) (hr : ∀ x ∈ xs, TuR x.t) :
    Calls Try.prog 33 #[.slice p xs.length c, .int .i64 k] w fun e w' => ∃ v, e = .returned v ∧ w'.ownsRow w.heap.size 43 6 v (xs.filter (fun x => !inB k x)).length (flC (xs.filter (fun x => !inB k x))) ∧ Ext w w' := by
  obtain ⟨i0, hi, hz0, hz1, hz2⟩ := info_parts info_C
  have HRR := Lib.hid hr
  clear hr
  go_enter Try.func33, Try.ntmps33
  go_wp2
  go_loopw [5, 6] (fun v a wr => ∃ q : Nat, q ≤ xs.length ∧ a = .int .i64 q ∧ wr.ownsRow w.heap.size 43 6 v (yesN (fun x => !inB k x) xs q).length (flC (yesN (fun x => !inB k x) xs q)) ∧ Ext w wr) (fun _ a _ => xs.length - (intOf a).toNat)
  case atStart => exact ⟨0, Nat.zero_le _, rfl, World.ownsRow_nil _ _ _ _, Ext.rf _⟩
  case round =>
    obtain ⟨q, hq, rfl, hy, hE⟩ := hrel
    by_cases hlt : q < xs.length
    · have hil : (q : Int) < xs.length := by omega
      obtain ⟨b, off, rfl, hb, c0, c1, c2, c3, c4, c5⟩ := (hs.ext hE) q hlt
      have lbb : Lt b wr := hb
      obtain ⟨x, hx⟩ : ∃ x, xs[q] = x := ⟨_, rfl⟩
      have hmem : x ∈ xs := by rw [← hx]; exact List.getElem_mem hlt
      have HX := Lib.hid (HRR.out x hmem)
      rw [hx] at c0 c1 c2 c3 c4 c5
      have HY := Lib.hid hy
      have HSS := Lib.hid hs
      have hlen := yesN_len (fun x => !inB k x) xs q
      have hbw := hE.size
      clear hy hb hs
      by_cases hk : ofT x.t = k
      · have hkd : (ofT x.t == k) = true := by simp [hk]
        have hkn : (ofT x.t != k) = false := by simp [hk]
        have hso : (fun x => !inB k x) x = false := by show (!(ofT x.t == k)) = _; rw [hkd]; rfl
        clear hk
        obtain ⟨n1, n2⟩ := yesN_no (fun x => !inB k x) xs q x hlt hx hso
        have HN1 := Lib.hid n1
        clear n1 n2 hx hso hmem
        go_wp2_with (go_at_call 51; (with_reducible refine (rof_any x.t HX.out _).mono ?_); rintro e W2 ⟨rfl, g2⟩; obtain ⟨hc2, hf2, hl2, hz2', -⟩ := kept g2; (try simp at hz2'))
        go_roundw
        case rel => exact ⟨q + 1, by omega, by go_num, by rw [HN1.out]; exact own_ext HY.out g2, hE.tr g2⟩
        case measure => simp [intOf]; omega
      · have hkd : (ofT x.t == k) = false := by simp [hk]
        have hkn : (ofT x.t != k) = true := by simp [hk]
        have hso : (fun x => !inB k x) x = true := by show (!(ofT x.t == k)) = _; rw [hkd]; rfl
        clear hk
        obtain ⟨n1, n2⟩ := yesN_yes (fun x => !inB k x) xs q x hlt hx hso
        have HN1 := Lib.hid n1
        clear n1 n2 hx hso hmem
        go_wp2_with (first | (at_builtin; go_must (refine wpList_append_own_at _ rfl _ _ 22 rfl w.heap.size 43 i0 (.agg #[.int .u32 0, .int .u32 0, .int .u16 0, .int .u16 0, .int .i64 0, .int .i64 0]) 6 32 Try.underlying22 hi hz0 hz1 hz2 rfl (by decide) _ _ _ rfl (HOY.out.alloc _) ⟨W2.heap.size, 0, none⟩ 1 1 x.cl rfl rfl (cell_co_new _ _ _) (co_one x) (by unfold maxLen; omega) (by omega) (by simp; omega) ?_); intro v' w3 hown' hgrow _ hat; have HOW := Lib.hid hown'; have HG := Lib.hid hgrow; have HAT := Lib.hid hat; clear hown' hgrow hat) | (go_at_call 51; (with_reducible refine (rof_any x.t HX.out _).mono ?_); rintro e W2 ⟨rfl, g2⟩; obtain ⟨hc2, hf2, hl2, hz2', -⟩ := kept g2; (try simp at hz2'); have HOY := Lib.hid (own_ext HY.out g2); have hsz2 := (hE.tr g2).size))
        go_roundw
        case rel =>
          have gX : Ext w (W2.alloc (.cells #[.int .u32 x.t.a, .int .u32 x.t.b, .int .u16 x.t.c, .int .u16 x.t.d, .int .i64 x.s, .int .i64 x.l] 43)) := Ext.al (hE.tr g2) _
          refine ⟨q + 1, by omega, by go_num, ?_, Mv.ext_of gX (Mv.of_grown (C := fun k => w.heap.size ≤ k) HG.out fun r e => .inl (ownBlock_ge HOY.out r e)) (fun k h => h)⟩
          rw [HN1.out, List.length_append, flC_snoc]; exact HOW.out
        case measure => simp [intOf]; omega
    · have hil : ¬ ((q : Int) < xs.length) := by omega
      have HY := Lib.hid hy
      have HE := Lib.hid (show yesN (fun x => !inB k x) xs q = xs.filter (fun x => !inB k x) by unfold yesN; rw [List.take_of_length_le (by omega)])
      clear hy
      go_wp2
      refine bodyPost_ret (v := u5) (by simp [results, Try.results33, go_sem]) rfl ⟨u5, rfl, ?_, hE⟩
      rw [← HE.out]; exact HY.out

end Go.Proofs.Ytookffaojlkfaaa
