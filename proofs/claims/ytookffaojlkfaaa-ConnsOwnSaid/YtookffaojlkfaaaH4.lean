/- A tuple's parts. -/
import Derived.Test.YtookffaojlkfaaaH3
import Derived.Test.YtookffaojlkfaaaC4
set_option linter.unusedSimpArgs false
set_option linter.unusedVariables false
namespace Go.Proofs.Ytookffaojlkfaaa
open Go.RowKit

def partsL (t : Tu) : List (Int × Int) := [(t.a, 4), (t.b, 4), (t.c, 2), (t.d, 2)]
theorem parts_any (t : Tu) (w : World) :
    Calls Try.prog 122 #[tu t.a t.b t.c t.d] w fun e w' => e = .returned (.func (.func 126) #[] #[.pointer (some ⟨w.heap.size, 0, none⟩)]) ∧ w' = w.alloc (.cells #[.int .u32 t.a, .int .u32 t.b, .int .u16 t.c, .int .u16 t.d] 26) := by
  go_enter Try.func122, Try.ntmps122
  go_wp2
  go_ret
  exact ⟨rfl, rfl⟩
theorem enters_parts : ∀ args w, (callFunc 126 args).run Try.prog w = .ok (.enter 126 args) w := enters_of Try.func126 (by kernel_rfl) rfl
attribute [local go_sem] Oper.semAt_some
set_option maxRecDepth 20000 in
set_option maxHeartbeats 4000000 in
theorem parts_iter (n : Nat) (t : Tu) (hc : t.c % 4294967296 = t.c) (hd : t.d % 4294967296 = t.d) (w : World) (Bt : Nat) (U : Nat → Prop) (ht : TuAt w Bt t) (hU : ∀ k, U k → k ≠ Bt) :
    Iter Fence.wide n Try.prog 126 #[.pointer (some ⟨Bt, 0, none⟩)] (fun x : Int × Int => #[.int .u32 x.1, .int .i64 x.2]) (fun _ => False) U (partsL t) w := by
  intro y J Jx W hW hJ hJx hY hJ0
  have HJ := Lib.hid hJ
  have HJx := Lib.hid hJx
  have HU := Lib.hid hU
  clear hJ hJx hU
  obtain ⟨yfn, ytm, yas, ybo, hY⟩ := hY
  have HY := Lib.hid hY
  clear hY
  have HT := ht.ext hW
  have HC := Lib.hid hc
  have HD := Lib.hid hd
  have HB := Lib.hid ht.2
  clear ht hc hd
  refine callsIn_of_wp Try.func126 rfl trivial ?_ rfl
  simp only [Try.ntmps126, List.size_toArray, List.length_cons, List.length_nil, Nat.reduceAdd, Nat.reduceSub, Array.replicate_succ, Array.replicate_zero, List.push_toArray, List.append_toArray, List.nil_append, List.cons_append]
  have HT0 := HT
  have hJ0 : J 0 W := hJ0
  clear HT hW
  obtain ⟨c0, c1, c2, c3⟩ := HT0.cells
  have HR0 := Lib.hid (HY.out 0 (t.a, 4) W hJ0 rfl)
  have hrun : (Instr.yield y #[.int .u32 t.a, .int .i64 4]).run Try.prog W = .ok (.round y yfn (ytm #[.int .u32 t.a, .int .i64 4]) yas ybo) W := HR0.out.1
  have lB : Lt Bt W := HT0.2
  skip
  gi_wp2
  refine ⟨(fun h => by cases h), (HR0.out.2).mono ?_⟩
  clear c0 c1 c2 c3 hrun lB HR0
  rintro e W1 ⟨bb, rfl, hP⟩
  obtain ⟨rfl, hJ1, hm⟩ | ⟨rfl, hx⟩ := hP
  rotate_left
  · gi_wp2
    repeat (refine ⟨(fun _ h => by cases h), ?_⟩; gi_wp2)
    go_end0
    exact ⟨⟨_, rfl⟩, .inr hx⟩
  have HT1 : TuAt W1 Bt t := ⟨by rw [rowD_same (hm.same Bt HT0.2 (fun h => by rcases h with h | h; exact HU.out _ h rfl; have := HB.out; unfold Lt at this; omega))]; exact HT0.1, Nat.lt_of_lt_of_le HT0.2 hm.size⟩
  clear hm hJ0 HT0
  obtain ⟨c0, c1, c2, c3⟩ := HT1.cells
  have HR1 := Lib.hid (HY.out 1 (t.b, 4) W1 hJ1 rfl)
  have hrun : (Instr.yield y #[.int .u32 t.b, .int .i64 4]).run Try.prog W1 = .ok (.round y yfn (ytm #[.int .u32 t.b, .int .i64 4]) yas ybo) W1 := HR1.out.1
  have lB : Lt Bt W1 := HT1.2
  skip
  gi_wp2
  refine ⟨(fun h => by cases h), (HR1.out.2).mono ?_⟩
  clear c0 c1 c2 c3 hrun lB HR1
  rintro e W2 ⟨bb, rfl, hP⟩
  obtain ⟨rfl, hJ2, hm⟩ | ⟨rfl, hx⟩ := hP
  rotate_left
  · gi_wp2
    repeat (refine ⟨(fun _ h => by cases h), ?_⟩; gi_wp2)
    go_end0
    exact ⟨⟨_, rfl⟩, .inr hx⟩
  have HT2 : TuAt W2 Bt t := ⟨by rw [rowD_same (hm.same Bt HT1.2 (fun h => by rcases h with h | h; exact HU.out _ h rfl; have := HB.out; unfold Lt at this; omega))]; exact HT1.1, Nat.lt_of_lt_of_le HT1.2 hm.size⟩
  clear hm hJ1 HT1
  obtain ⟨c0, c1, c2, c3⟩ := HT2.cells
  have HR2 := Lib.hid (HY.out 2 (t.c, 2) W2 hJ2 rfl)
  have hrun : (Instr.yield y #[.int .u32 t.c, .int .i64 2]).run Try.prog W2 = .ok (.round y yfn (ytm #[.int .u32 t.c, .int .i64 2]) yas ybo) W2 := HR2.out.1
  have lB : Lt Bt W2 := HT2.2
  have hcv := HC.out
  gi_wp2
  refine ⟨(fun h => by cases h), (HR2.out.2).mono ?_⟩
  clear c0 c1 c2 c3 hrun lB HR2 hcv
  rintro e W3 ⟨bb, rfl, hP⟩
  obtain ⟨rfl, hJ3, hm⟩ | ⟨rfl, hx⟩ := hP
  rotate_left
  · gi_wp2
    repeat (refine ⟨(fun _ h => by cases h), ?_⟩; gi_wp2)
    go_end0
    exact ⟨⟨_, rfl⟩, .inr hx⟩
  have HT3 : TuAt W3 Bt t := ⟨by rw [rowD_same (hm.same Bt HT2.2 (fun h => by rcases h with h | h; exact HU.out _ h rfl; have := HB.out; unfold Lt at this; omega))]; exact HT2.1, Nat.lt_of_lt_of_le HT2.2 hm.size⟩
  clear hm hJ2 HT2
  obtain ⟨c0, c1, c2, c3⟩ := HT3.cells
  have HR3 := Lib.hid (HY.out 3 (t.d, 2) W3 hJ3 rfl)
  have hrun : (Instr.yield y #[.int .u32 t.d, .int .i64 2]).run Try.prog W3 = .ok (.round y yfn (ytm #[.int .u32 t.d, .int .i64 2]) yas ybo) W3 := HR3.out.1
  have lB : Lt Bt W3 := HT3.2
  have hcv := HD.out
  gi_wp2
  refine ⟨(fun h => by cases h), (HR3.out.2).mono ?_⟩
  clear c0 c1 c2 c3 hrun lB HR3 hcv
  rintro e W4 ⟨bb, rfl, hP⟩
  obtain ⟨rfl, hJ4, hm⟩ | ⟨rfl, hx⟩ := hP
  rotate_left
  · gi_wp2
    repeat (refine ⟨(fun _ h => by cases h), ?_⟩; gi_wp2)
    go_end0
    exact ⟨⟨_, rfl⟩, .inr hx⟩
  have HT4 : TuAt W4 Bt t := ⟨by rw [rowD_same (hm.same Bt HT3.2 (fun h => by rcases h with h | h; exact HU.out _ h rfl; have := HB.out; unfold Lt at this; omega))]; exact HT3.1, Nat.lt_of_lt_of_le HT3.2 hm.size⟩
  clear hm hJ3 HT3
  gi_wp2
  go_end0
  exact ⟨⟨_, rfl⟩, .inl hJ4⟩

end Go.Proofs.Ytookffaojlkfaaa
