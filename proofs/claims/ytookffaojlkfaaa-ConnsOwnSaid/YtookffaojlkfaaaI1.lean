/- The document's bytes of a number; Go; Turn. -/
import Derived.Test.YtookffaojlkfaaaH6
import Derived.Test.YtookffaojlkfaaaC10
import Derived.Laws.BitsLemmas
set_option linter.unusedSimpArgs false
set_option linter.unusedVariables false
namespace Go.Proofs.Ytookffaojlkfaaa
open Go.RowKit

theorem and255 (x : Int) (h0 : 0 ≤ x) (h1 : x < 4294967296) : bits .and .i64 x 255 = x % 256 := by
  have h := bits_mask .i64 32 (by decide) (fun n h0 h1 => by rw [IntKind.wrap_i64]; omega) 8 (by decide) x h0 (by omega)
  have e : ((2 : Int) ^ 8 - 1) = 255 := by decide
  have e2 : ((2 : Int) ^ 8) = 256 := by decide
  rw [e, e2] at h
  exact h
theorem div_lt (x : Int) (h0 : 0 ≤ x) (h1 : x < 4294967296) (k : Int) (hk : 1 ≤ k) : 0 ≤ x / k ∧ x / k < 4294967296 := by
  refine ⟨Int.ediv_nonneg h0 (by omega), ?_⟩
  exact Int.lt_of_le_of_lt (Int.ediv_le_self _ h0) h1
theorem cell_one_new (w : World) (a : Value) (t : TypeId) : ∀ j u, [a][j]? = some u → (w.alloc (.cells #[a] t)).cell? ((⟨w.heap.size, 0, none⟩ : Addr).add j) = some u := by
  intro j u h
  match j, h with
  | 0, h => cases h; simp [go_sem, Addr.add]
set_option maxRecDepth 20000 in
set_option maxHeartbeats 4000000 in
theorem rbytes_any (n : Int) (m : Nat) (hm : m ≤ 4) (h0 : 0 ≤ n) (h1 : n < 4294967296) (w : World) :
    Calls Try.prog 113 #[.int .i64 n, .int .i64 m] w fun e w' => ∃ v, e = .returned v ∧ w'.ownsRow w.heap.size 5 1 v m ((byN n m).map (Value.int .u8)) ∧ Ext w w' := by
  obtain ⟨i0, hi, hz0, hz1, hz2⟩ := info_parts info_U8
  have hwm : IntKind.i64.wrap ((m : Int) - 1) = (m : Int) - 1 := by rw [IntKind.wrap_i64]; omega
  go_enter Try.func113, Try.ntmps113
  go_wp2
  go_loopw [5, 6] (fun v a wr => ∃ q : Nat, q ≤ m ∧ a = .int .i64 ((q : Int) - 1) ∧ wr.ownsRow w.heap.size 5 1 v (m - q) (((byN n m).take (m - q)).map (Value.int .u8)) ∧ Ext w wr) (fun _ a _ => (intOf a + 1).toNat)
  case atStart => exact ⟨m, Nat.le_refl _, rfl, by rw [Nat.sub_self]; exact World.ownsRow_nil _ _ _ _, Ext.rf _⟩
  case round =>
    obtain ⟨q, hq, rfl, ho, hE⟩ := hrel
    by_cases hz : q = 0
    · subst hz
      have HO := Lib.hid ho
      clear ho
      go_wp2
      refine bodyPost_ret (v := u5) (by simp [results, Try.results113, go_sem]) rfl ⟨_, rfl, ?_, hE⟩
      have := HO.out
      rwa [Nat.sub_zero, List.take_of_length_le (by rw [byN_len]; omega)] at this
    · obtain ⟨j, rfl⟩ : ∃ j, q = j + 1 := ⟨q - 1, by omega⟩
      have hb0 : decide ((0 : Int) ≤ ((j + 1 : Nat) : Int) - 1) = true := decide_eq_true (by omega)
      have HT := Lib.hid (byN_take n m j (by omega))
      have HO := Lib.hid ho
      clear ho
      rw [show (((j + 1 : Nat) : Int) - 1) = j by omega] at hb0 ⊢
      have hj : j < 4 := by omega
      obtain rfl | rfl | rfl | rfl : j = 0 ∨ j = 1 ∨ j = 2 ∨ j = 3 := by omega
      · have HV := Lib.hid (show bits .and .i64 n 255 % 256 = n / 256 ^ 0 % 256 by
          rw [and255 _ h0 h1, show (256 : Int) ^ 0 = 1 by decide]; omega)
        go_wp2_with (at_builtin; go_must (refine wpList_append_own _ rfl _ _ 104 rfl w.heap.size 5 i0 (.int .u8 0) 1 1 Try.underlying104 hi hz0 hz1 hz2 rfl (by decide) _ _ _ rfl (HO.out.alloc _) ⟨wr.heap.size, 0, none⟩ 1 1 [.int .u8 (bits .and .i64 n 255 % 256)] rfl rfl (cell_one_new _ _ _) (by intro u hu; simp at hu; subst hu; rfl) (by unfold maxLen; omega) (by omega) (by have := hE.size; simp; omega) ?_); intro v' w3 hown hgrow _; have HN := Lib.hid hown; have HG := Lib.hid hgrow; clear hown hgrow)
        go_roundw
        case rel =>
          refine ⟨0, by omega, by go_num, ?_, Mv.ext_of (Ext.al hE _) (Mv.of_grown (C := fun k => w.heap.size ≤ k) HG.out fun r e => .inl (ownBlock_ge HO.out r e)) (fun k h => h)⟩
          have h := HN.out
          rw [HV.out, show m - (0 + 1) + 1 = m - 0 by omega] at h
          rw [← HT.out, List.map_append]
          exact h
        case measure => first | (simp [intOf]; done) | (simp [intOf]; omega)
      · have HV := Lib.hid (show bits .and .i64 (n / 256) 255 % 256 = n / 256 ^ 1 % 256 by
          rw [and255 _ (div_lt n h0 h1 256 (by omega)).1 (div_lt n h0 h1 256 (by omega)).2, show (256 : Int) ^ 1 = 256 by decide]; omega)
        go_wp2_with (at_builtin; go_must (refine wpList_append_own _ rfl _ _ 104 rfl w.heap.size 5 i0 (.int .u8 0) 1 1 Try.underlying104 hi hz0 hz1 hz2 rfl (by decide) _ _ _ rfl (HO.out.alloc _) ⟨wr.heap.size, 0, none⟩ 1 1 [.int .u8 (bits .and .i64 (n / 256) 255 % 256)] rfl rfl (cell_one_new _ _ _) (by intro u hu; simp at hu; subst hu; rfl) (by unfold maxLen; omega) (by omega) (by have := hE.size; simp; omega) ?_); intro v' w3 hown hgrow _; have HN := Lib.hid hown; have HG := Lib.hid hgrow; clear hown hgrow)
        go_roundw
        case rel =>
          refine ⟨1, by omega, by go_num, ?_, Mv.ext_of (Ext.al hE _) (Mv.of_grown (C := fun k => w.heap.size ≤ k) HG.out fun r e => .inl (ownBlock_ge HO.out r e)) (fun k h => h)⟩
          have h := HN.out
          rw [HV.out, show m - (1 + 1) + 1 = m - 1 by omega] at h
          rw [← HT.out, List.map_append]
          exact h
        case measure => first | (simp [intOf]; done) | (simp [intOf]; omega)
      · have HV := Lib.hid (show bits .and .i64 (n / 65536) 255 % 256 = n / 256 ^ 2 % 256 by
          rw [and255 _ (div_lt n h0 h1 65536 (by omega)).1 (div_lt n h0 h1 65536 (by omega)).2, show (256 : Int) ^ 2 = 65536 by decide]; omega)
        go_wp2_with (at_builtin; go_must (refine wpList_append_own _ rfl _ _ 104 rfl w.heap.size 5 i0 (.int .u8 0) 1 1 Try.underlying104 hi hz0 hz1 hz2 rfl (by decide) _ _ _ rfl (HO.out.alloc _) ⟨wr.heap.size, 0, none⟩ 1 1 [.int .u8 (bits .and .i64 (n / 65536) 255 % 256)] rfl rfl (cell_one_new _ _ _) (by intro u hu; simp at hu; subst hu; rfl) (by unfold maxLen; omega) (by omega) (by have := hE.size; simp; omega) ?_); intro v' w3 hown hgrow _; have HN := Lib.hid hown; have HG := Lib.hid hgrow; clear hown hgrow)
        go_roundw
        case rel =>
          refine ⟨2, by omega, by go_num, ?_, Mv.ext_of (Ext.al hE _) (Mv.of_grown (C := fun k => w.heap.size ≤ k) HG.out fun r e => .inl (ownBlock_ge HO.out r e)) (fun k h => h)⟩
          have h := HN.out
          rw [HV.out, show m - (2 + 1) + 1 = m - 2 by omega] at h
          rw [← HT.out, List.map_append]
          exact h
        case measure => first | (simp [intOf]; done) | (simp [intOf]; omega)
      · have HV := Lib.hid (show bits .and .i64 (n / 16777216) 255 % 256 = n / 256 ^ 3 % 256 by
          rw [and255 _ (div_lt n h0 h1 16777216 (by omega)).1 (div_lt n h0 h1 16777216 (by omega)).2, show (256 : Int) ^ 3 = 16777216 by decide]; omega)
        go_wp2_with (at_builtin; go_must (refine wpList_append_own _ rfl _ _ 104 rfl w.heap.size 5 i0 (.int .u8 0) 1 1 Try.underlying104 hi hz0 hz1 hz2 rfl (by decide) _ _ _ rfl (HO.out.alloc _) ⟨wr.heap.size, 0, none⟩ 1 1 [.int .u8 (bits .and .i64 (n / 16777216) 255 % 256)] rfl rfl (cell_one_new _ _ _) (by intro u hu; simp at hu; subst hu; rfl) (by unfold maxLen; omega) (by omega) (by have := hE.size; simp; omega) ?_); intro v' w3 hown hgrow _; have HN := Lib.hid hown; have HG := Lib.hid hgrow; clear hown hgrow)
        go_roundw
        case rel =>
          refine ⟨3, by omega, by go_num, ?_, Mv.ext_of (Ext.al hE _) (Mv.of_grown (C := fun k => w.heap.size ≤ k) HG.out fun r e => .inl (ownBlock_ge HO.out r e)) (fun k h => h)⟩
          have h := HN.out
          rw [HV.out, show m - (3 + 1) + 1 = m - 3 by omega] at h
          rw [← HT.out, List.map_append]
          exact h
        case measure => first | (simp [intOf]; done) | (simp [intOf]; omega)
set_option maxHeartbeats 1000000 in
theorem rgo_any (s : Int) (bs : List Int) (p : Option Addr) (c : Nat) (w : World) (hb : SlB w p bs) (hl : bs.length ≤ 1000) :
    Calls Try.prog 109 #[.int .u8 s, .slice p bs.length c] w fun e w' => e = .returned (.int .u8 (goL s bs)) ∧ w = w' := by
  go_enter Try.func109, Try.ntmps109
  go_wp2
  go_loopw [0, 5] (fun v a wr => ∃ k : Nat, k ≤ bs.length ∧ a = .int .i64 k ∧ v = .int .u8 (goL s (bs.take k)) ∧ wr = w) (fun _ a _ => bs.length - (intOf a).toNat)
  case atStart => exact ⟨0, Nat.zero_le _, rfl, rfl, rfl⟩
  case round =>
    obtain ⟨k, hk, rfl, rfl, rfl⟩ := hrel
    by_cases hlt : k < bs.length
    · have hil : (k : Int) < bs.length := by omega
      obtain ⟨b, off, rfl, lb, cb⟩ := hb k hlt
      obtain ⟨x, hx⟩ : ∃ x, bs[k] = x := ⟨_, rfl⟩
      have HS := Lib.hid (goL_snoc bs s k hlt)
      rw [hx] at cb HS
      obtain ⟨z, hz⟩ : ∃ z, goL s (bs.take k) = z := ⟨_, rfl⟩
      rw [hz] at HS ⊢
      have hB : 0 ≤ bits BinOp.xor IntKind.u8 z x ∧ bits BinOp.xor IntKind.u8 z x < 256 := xorB_bd z x
      clear hx hz
      go_wp2_with (go_at_call 118; (with_reducible refine (rturn_any (bits BinOp.xor IntKind.u8 z x) _ hB.1 hB.2).mono ?_); rintro e w1 ⟨rfl, rfl⟩)
      go_roundw
      case rel => exact ⟨k + 1, by omega, by go_num, by rw [HS.out]; rfl, trivial⟩
      case measure => simp [intOf]; omega
    · have hil : ¬ ((k : Int) < bs.length) := by omega
      have HK := Lib.hid (show bs.take k = bs by rw [List.take_of_length_le (by omega)])
      go_wp2
      exact bodyPost_ret (v := .int .u8 (goL s (bs.take k))) (by simp [results, Try.results109, go_sem]) rfl ⟨by rw [HK.out], rfl⟩

end Go.Proofs.Ytookffaojlkfaaa
