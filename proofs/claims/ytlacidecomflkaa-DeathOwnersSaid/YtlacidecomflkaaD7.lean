/- Owners of moves. -/
import Derived.Test.YtlacidecomflkaaD6
import Derived.Test.YtlacidecomflkaaP8
import Derived.Test.YtlacidecomflkaaP9
set_option linter.unusedSimpArgs false
set_option linter.unusedVariables false
namespace Go.Proofs.Ytlacidecomflkaa
open Go.RowKit

def ownerM (m : Mo) : Int := if m.nxt = -1 then m.cur else m.nxt
def ownersM (l : Nat → Mo) : Nat → Int := fun i => ownerM (l i)
def pairs (l : Nat → Mo) : List (Nat × Int) := (List.range 16).map fun i => (i, ownerM (l i))
theorem pairs_len (l : Nat → Mo) : (pairs l).length = 16 := by simp [pairs]
theorem pairs_get (l : Nat → Mo) (i : Nat) (hi : i < 16) : (pairs l)[i]? = some (i, ownerM (l i)) := by simp [pairs, hi]
theorem buckets_any (l : Nat → Mo) (w : World) :
    Calls Try.prog 72 #[.agg (lm l)] w fun e w' => e = .returned (.func (.func 97) #[] #[.pointer (some ⟨w.heap.size, 0, none⟩)]) ∧ w' = w.alloc (.cells (lm l) 63) := by
  go_enter Try.func72, Try.ntmps72
  go_wp2
  go_ret
  exact ⟨rfl, rfl⟩
set_option maxRecDepth 20000 in
set_option maxHeartbeats 4000000 in
theorem buckets_iter (n : Nat) (l : Nat → Mo) (w : World) (Bl : Nat) (U : Nat → Prop) (hl : rowD w Bl = lm l) (ll : Lt Bl w) :
    Iter Fence.wide n Try.prog 97 #[.pointer (some ⟨Bl, 0, none⟩)] (fun x : Nat × Int => #[.int .i64 x.1, .int .i64 x.2]) (fun _ => False) U (pairs l) w := by
  intro y J Jx W hW hJ hJx hY hJ0
  have HJ := Lib.hid hJ
  have HJx := Lib.hid hJx
  clear hJ hJx
  obtain ⟨yfn, ytm, yas, ybo, hY⟩ := hY
  have HY := Lib.hid hY
  clear hY
  have hlW : rowD W Bl = lm l := row_ext hW ll hl
  have llW : Lt Bl W := Nat.lt_of_lt_of_le ll hW.size
  clear hl
  refine callsIn_of_wp Try.func97 rfl trivial ?_ rfl
  simp only [Try.ntmps97, List.size_toArray, List.length_cons, List.length_nil, Nat.reduceAdd, Nat.reduceSub, Array.replicate_succ, Array.replicate_zero, List.push_toArray, List.append_toArray, List.nil_append, List.cons_append]
  refine wpIn_wide.2 ?_
  go_wp2
  go_loopw [3, 4, 5, 7] (fun _ _ _ a wr => ∃ i : Nat, i ≤ 16 ∧ a = .int .i64 i ∧ J i wr) (fun _ _ _ a _ => 16 - (intOf a).toNat)
  case atStart => exact ⟨0, Nat.zero_le _, rfl, hJ0⟩
  case round =>
    clear hlW llW hJ0
    obtain ⟨i, hi, rfl, hJi⟩ := hrel
    by_cases hlt : i < 16
    · have hlt' : (i : Int) < 16 := by omega
      have HJI := Lib.hid hJi
      clear hJi
      have hxs := pairs_get l i hlt
      cases hq : ((l i).nxt == -1)
      · have hown : ownerM (l i) = (l i).nxt := by unfold ownerM; rw [if_neg (by simpa using hq)]
        rw [hown] at hxs
        have HXS := Lib.hid hxs
        clear hown hxs
        go_upto_region 6 with (fail)
        obtain ⟨W1, hW1⟩ : ∃ W1, wr.alloc (.cells #[.int .u8 (l i).ph, .int .i64 (l i).cur, .int .i64 (l i).nxt, .int .i64 (l i).gen, .int .i64 (l i).tick, .int .i64 (l i).ver] 48) = W1 := ⟨_, rfl⟩
        rw [hW1]
        have hJ1 : J i W1 := by rw [← hW1]; exact HJ.out _ _ _ HJI.out (Mv.of_ext (Ext.al (Ext.rf _) _))
        clear hW1
        have hrun : (Instr.yield y #[.int .i64 i, .int .i64 (l i).nxt]).run Try.prog W1 = .ok (.round y yfn (ytm #[.int .i64 i, .int .i64 (l i).nxt]) yas ybo) W1 := (HY.out i (i, (l i).nxt) W1 hJ1 HXS.out).1
        have HRD := Lib.hid (HY.out i (i, (l i).nxt) W1 hJ1 HXS.out).2
        refine (wpIn_wide (n := n)).1 ?_
        gi_wp2
        refine (HRD.out).mono ?_
        rintro e w6 ⟨b, rfl, hP⟩
        obtain ⟨rfl, hJ6, hm6⟩ | ⟨rfl, hx6⟩ := hP
        · clear hm6
          gi_wp2
          go_wp2
          go_roundw
          case rel => exact ⟨i + 1, by omega, by go_num, hJ6⟩
          case measure => simp [intOf]; omega
        · gi_wp2
          go_wp2
          refine bodyPost_ret (results_none rfl _ _ _) rfl ⟨⟨_, rfl⟩, .inr hx6⟩
      · have hown : ownerM (l i) = (l i).cur := by unfold ownerM; rw [if_pos (by simpa using hq)]
        rw [hown] at hxs
        have HXS := Lib.hid hxs
        clear hown hxs
        go_upto_region 6 with (fail)
        obtain ⟨W1, hW1⟩ : ∃ W1, wr.alloc (.cells #[.int .u8 (l i).ph, .int .i64 (l i).cur, .int .i64 (l i).nxt, .int .i64 (l i).gen, .int .i64 (l i).tick, .int .i64 (l i).ver] 48) = W1 := ⟨_, rfl⟩
        rw [hW1]
        have hJ1 : J i W1 := by rw [← hW1]; exact HJ.out _ _ _ HJI.out (Mv.of_ext (Ext.al (Ext.rf _) _))
        clear hW1
        have hrun : (Instr.yield y #[.int .i64 i, .int .i64 (l i).cur]).run Try.prog W1 = .ok (.round y yfn (ytm #[.int .i64 i, .int .i64 (l i).cur]) yas ybo) W1 := (HY.out i (i, (l i).cur) W1 hJ1 HXS.out).1
        have HRD := Lib.hid (HY.out i (i, (l i).cur) W1 hJ1 HXS.out).2
        refine (wpIn_wide (n := n)).1 ?_
        gi_wp2
        refine (HRD.out).mono ?_
        rintro e w6 ⟨b, rfl, hP⟩
        obtain ⟨rfl, hJ6, hm6⟩ | ⟨rfl, hx6⟩ := hP
        · clear hm6
          gi_wp2
          go_wp2
          go_roundw
          case rel => exact ⟨i + 1, by omega, by go_num, hJ6⟩
          case measure => simp [intOf]; omega
        · gi_wp2
          go_wp2
          refine bodyPost_ret (results_none rfl _ _ _) rfl ⟨⟨_, rfl⟩, .inr hx6⟩
    · obtain rfl : i = 16 := by omega
      have HL := Lib.hid (pairs_len l)
      go_wp2
      go_end0
      exact ⟨⟨_, rfl⟩, .inl (by rw [HL.out]; exact hJi)⟩

end Go.Proofs.Ytlacidecomflkaa
