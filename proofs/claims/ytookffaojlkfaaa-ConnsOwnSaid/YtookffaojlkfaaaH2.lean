/- The states behind bytes. -/
import Derived.Test.YtookffaojlkfaaaH1
import Derived.Test.YtookffaojlkfaaaZ2
import Derived.Test.YtookffaojlkfaaaV2
import Derived.Test.YtookffaojlkfaaaV4
import Derived.Test.YtookffaojlkfaaaC12
import Derived.Maps.AppendAt
import Derived.OwnWalkIn
import Derived.TacticsInMore
import Derived.LoopNIn
import Derived.LoopIn
import Derived.Stop.RegionWithIn
set_option linter.unusedSimpArgs false
set_option linter.unusedVariables false
namespace Go.Proofs.Ytookffaojlkfaaa
open Go.RowKit

/-- A slice of bytes reads as a list. -/
def SlB (w : World) (p : Option Addr) (bs : List Int) : Prop := ∀ k, (h : k < bs.length) → ∃ b off, p = some ⟨b, off, none⟩ ∧ b < w.heap.size ∧ w.cell? ⟨b, off + k, none⟩ = some (.int .u8 bs[k])
theorem SlB.ext {w w' : World} {p : Option Addr} {bs : List Int} (h : SlB w p bs) (e : Ext w w') : SlB w' p bs := fun k hk => by
  obtain ⟨b, off, hp, hb, hc⟩ := h k hk
  exact ⟨b, off, hp, Nat.lt_of_lt_of_le hb e.size, (e.cell (p := ⟨b, off + k, none⟩) hb).trans hc⟩
def goL (s : Int) (bs : List Int) : Int := bs.foldl (fun s c => turn (xorB s c)) s
def stL : Int → List Int → List Int
  | _, [] => []
  | s, c :: cs => turn (xorB s c) :: stL (turn (xorB s c)) cs
theorem stL_len : ∀ (bs : List Int) (s : Int), (stL s bs).length = bs.length
  | [], _ => rfl
  | c :: cs, s => by unfold stL; simp [stL_len cs]
theorem stL_get : ∀ (bs : List Int) (s : Int) (i : Nat), i < bs.length → (stL s bs)[i]? = some (goL s (bs.take (i + 1)))
  | c :: cs, s, 0, _ => rfl
  | c :: cs, s, i + 1, h => by
    unfold stL
    rw [List.getElem?_cons_succ, stL_get cs _ i (by simpa using h)]
    rfl
theorem goL_snoc (bs : List Int) (s : Int) (i : Nat) (h : i < bs.length) : goL s (bs.take (i + 1)) = turn (xorB (goL s (bs.take i)) bs[i]) := by
  unfold goL
  rw [List.take_succ_eq_append_getElem h, List.foldl_append]; rfl
theorem goL_bd (bs : List Int) (s : Int) (h0 : 0 ≤ s) (h1 : s < 256) : 0 ≤ goL s bs ∧ goL s bs < 256 := by
  induction bs generalizing s with
  | nil => exact ⟨h0, h1⟩
  | cons c cs ih => have := turn_bd (xorB s c); exact ih _ this.1 this.2
theorem states_any (s : Int) (p : Option Addr) (n c : Nat) (w : World) :
    Calls Try.prog 124 #[.func (.func 121) #[] #[], .int .u8 s, .slice p n c] w fun e w' =>
      e = .returned (.func (.func 128) #[] #[.pointer (some ⟨w.heap.size + 2, 0, none⟩), .pointer (some ⟨w.heap.size, 0, none⟩), .pointer (some ⟨w.heap.size + 1, 0, none⟩)]) ∧
      w' = ((w.alloc (.cells #[.func (.func 121) #[] #[]] 125)).alloc (.cells #[.int .u8 s] 5)).alloc (.cells #[.slice p n c] 104) := by
  go_enter Try.func124, Try.ntmps124
  go_wp2
  go_ret
  exact ⟨rfl, rfl⟩
theorem enters_states : ∀ args w, (callFunc 128 args).run Try.prog w = .ok (.enter 128 args) w := enters_of Try.func128 (by kernel_rfl) rfl
set_option maxRecDepth 20000 in
set_option maxHeartbeats 4000000 in
theorem states_iter (n : Nat) (s0 : Int) (bs : List Int) (p : Option Addr) (c : Nat) (w0 w : World) (Bb Bt Bs : Nat) (U : Nat → Prop) (h0 : Ext w0 w) (hb : SlB w0 p bs) (hl : bs.length ≤ 1000)
    (hcb : w.cell? ⟨Bb, 0, none⟩ = some (.slice p bs.length c)) (hct : w.cell? ⟨Bt, 0, none⟩ = some (.func (.func 121) #[] #[])) (hcs : w.cell? ⟨Bs, 0, none⟩ = some (.int .u8 s0)) (hz : frzD w Bs = (0, 0))
    (lb : Lt Bb w) (lt : Lt Bt w) (ls : Lt Bs w) (n1 : Bb ≠ Bs) (n2 : Bt ≠ Bs) (nb : w0.heap.size ≤ Bs) (hU : ∀ k, U k → w0.heap.size ≤ k ∧ k ≠ Bb ∧ k ≠ Bt ∧ k ≠ Bs) :
    Iter Fence.wide n Try.prog 128 #[.pointer (some ⟨Bb, 0, none⟩), .pointer (some ⟨Bt, 0, none⟩), .pointer (some ⟨Bs, 0, none⟩)] (fun x : Int => #[.int .u8 x]) (fun k => k = Bs) U (stL s0 bs) w := by
  intro y J Jx W hW hJ hJx hY hJ0
  have HJ := Lib.hid hJ
  have HJx := Lib.hid hJx
  have HU := Lib.hid hU
  clear hJ hJx hU
  obtain ⟨yfn, ytm, yas, ybo, hY⟩ := hY
  have HY := Lib.hid hY
  clear hY
  have kb : W.cell? ⟨Bb, 0, none⟩ = some (.slice p bs.length c) := (hW.cell (p := ⟨Bb, 0, none⟩) lb).trans hcb
  have kt : W.cell? ⟨Bt, 0, none⟩ = some (.func (.func 121) #[] #[]) := (hW.cell (p := ⟨Bt, 0, none⟩) lt).trans hct
  have ks : W.cell? ⟨Bs, 0, none⟩ = some (.int .u8 s0) := (hW.cell (p := ⟨Bs, 0, none⟩) ls).trans hcs
  have kz : frzD W Bs = (0, 0) := by unfold frzD; rw [hW.block Bs ls]; exact hz
  have lbW : Lt Bb W := Nat.lt_of_lt_of_le lb hW.size
  have ltW : Lt Bt W := Nat.lt_of_lt_of_le lt hW.size
  have lsW : Lt Bs W := Nat.lt_of_lt_of_le ls hW.size
  have h0W := h0.tr hW
  clear hcb hct hcs hz
  refine callsIn_of_wp Try.func128 rfl trivial ?_ rfl
  simp only [Try.ntmps128, List.size_toArray, List.length_cons, List.length_nil, Nat.reduceAdd, Nat.reduceSub, Array.replicate_succ, Array.replicate_zero, List.push_toArray, List.append_toArray, List.nil_append, List.cons_append]
  refine wpIn_wide.2 ?_
  go_wp2
  go_loopw [6, 9] (fun _ a wr => ∃ i : Nat, i ≤ bs.length ∧ a = .int .i64 i ∧ J i wr ∧ wr.cell? ⟨Bb, 0, none⟩ = some (.slice p bs.length c) ∧ wr.cell? ⟨Bt, 0, none⟩ = some (.func (.func 121) #[] #[]) ∧ wr.cell? ⟨Bs, 0, none⟩ = some (.int .u8 (goL s0 (bs.take i))) ∧ frzD wr Bs = (0, 0) ∧ Lt Bb wr ∧ Lt Bt wr ∧ Lt Bs wr ∧ Ext w0 wr) (fun _ a _ => bs.length - (intOf a).toNat)
  case atStart => exact ⟨0, Nat.zero_le _, rfl, hJ0, kb, kt, ks, kz, lbW, ltW, lsW, h0W⟩
  case round =>
    clear kb kt ks kz lbW ltW lsW h0W hJ0
    obtain ⟨i, hi, rfl, hJi, kb, kt, ks, kz, lbw, ltw, lsw, hE⟩ := hrel
    by_cases hlt : i < bs.length
    · have hlt' : (i : Int) < bs.length := by omega
      obtain ⟨b, off, rfl, hbl, hcell⟩ := (hb.ext hE) i hlt
      have HXS := Lib.hid ((stL_get bs s0 i hlt).trans (congrArg some (goL_snoc bs s0 i hlt)))
      have HGS := Lib.hid (goL_snoc bs s0 i hlt)
      generalize goL s0 (bs.take i) = S at *
      generalize bs[i] = C at *
      have HJI := Lib.hid hJi
      have hf0 := frozen_of_frz kz 0
      obtain ⟨V, hV⟩ : ∃ V, turn (xorB S C) = V := ⟨_, rfl⟩
      rw [hV] at HXS HGS
      have HV := Lib.hid hV
      clear hV
      clear hJi
      go_upto_region 4 with (go_at_call 121; (with_reducible refine (turn_any _ _).mono ?_); rintro e w' ⟨rfl, rfl⟩)
      rw [show turn (bits BinOp.xor IntKind.u8 S C) = V from HV.out]
      obtain ⟨W1, hW1⟩ : ∃ W1, wr.setCell ⟨Bs, 0, none⟩ (.int .u8 V) = W1 := ⟨_, rfl⟩
      have g1 : Mv (fun k => k = Bs) wr W1 := by rw [← hW1]; exact Mv.st _ (.inl rfl) (Mv.refl _ _)
      have ks1 : W1.cell? ⟨Bs, 0, none⟩ = some (.int .u8 V) := by rw [← hW1]; exact World.cell?_setCell_same _ _ _ ks
      have kz1 : frzD W1 Bs = (0, 0) := by rw [← hW1, frzD_setCell]; exact kz
      rw [hW1]
      clear hW1
      have sb : ∀ {k : Nat} {A B : World}, k ≠ Bs → Lt k A → Mv (fun k => k = Bs) A B → B.heap[k]? = A.heap[k]? := fun hk hl hm => hm.same _ hl hk
      have kb1 : W1.cell? ⟨Bb, 0, none⟩ = some (.slice (some ⟨b, off, none⟩) bs.length c) := by rw [cell_rowD, rowD_same (sb n1 lbw g1), ← cell_rowD]; exact kb
      have kt1 : W1.cell? ⟨Bt, 0, none⟩ = some (.func (.func 121) #[] #[]) := by rw [cell_rowD, rowD_same (sb n2 ltw g1), ← cell_rowD]; exact kt
      have lb1 : Lt Bb W1 := Nat.lt_of_lt_of_le lbw g1.size
      have lt1 : Lt Bt W1 := Nat.lt_of_lt_of_le ltw g1.size
      have ls1 : Lt Bs W1 := Nat.lt_of_lt_of_le lsw g1.size
      have hE1 : Ext w0 W1 := Mv.ext_of hE g1 (fun k e => by rw [e]; exact nb)
      have hJ1 : J i W1 := HJ.out _ _ _ HJI.out g1
      have hrun : (Instr.yield y #[.int .u8 V]).run Try.prog W1 = .ok (.round y yfn (ytm #[.int .u8 V]) yas ybo) W1 := (HY.out i V W1 hJ1 HXS.out).1
      have HRD := Lib.hid (HY.out i V W1 hJ1 HXS.out).2
      clear kb kt ks kz hf0 g1 HJI
      refine (wpIn_wide (n := n)).1 ?_
      gi_wp2
      refine ⟨(fun h => by cases h), (HRD.out).mono ?_⟩
      rintro e w6 ⟨bb, rfl, hP⟩
      clear hrun HRD
      obtain ⟨rfl, hJ6, hm6⟩ | ⟨rfl, hx6⟩ := hP
      · have so : ∀ {k : Nat}, k < w.heap.size → k = Bb ∨ k = Bt ∨ k = Bs → Lt k W1 → w6.heap[k]? = W1.heap[k]? := fun hk h hl => hm6.same _ hl (fun hh => by rcases hh with hh | hh; (have := HU.out _ hh; omega); omega)
        have kb6 : w6.cell? ⟨Bb, 0, none⟩ = some (.slice (some ⟨b, off, none⟩) bs.length c) := by rw [cell_rowD, rowD_same (so lb (.inl rfl) lb1), ← cell_rowD]; exact kb1
        have kt6 : w6.cell? ⟨Bt, 0, none⟩ = some (.func (.func 121) #[] #[]) := by rw [cell_rowD, rowD_same (so lt (.inr (.inl rfl)) lt1), ← cell_rowD]; exact kt1
        have ks6 : w6.cell? ⟨Bs, 0, none⟩ = some (.int .u8 V) := by rw [cell_rowD, rowD_same (so ls (.inr (.inr rfl)) ls1), ← cell_rowD]; exact ks1
        have kz6 : frzD w6 Bs = (0, 0) := by unfold frzD at kz1 ⊢; rw [so ls (.inr (.inr rfl)) ls1]; exact kz1
        have lb6 : Lt Bb w6 := Nat.lt_of_lt_of_le lb1 hm6.size
        have lt6 : Lt Bt w6 := Nat.lt_of_lt_of_le lt1 hm6.size
        have ls6 : Lt Bs w6 := Nat.lt_of_lt_of_le ls1 hm6.size
        have hE6 : Ext w0 w6 := Mv.ext_of hE1 hm6 (fun k h => by rcases h with h | h; exact (HU.out _ h).1; exact Nat.le_trans h0.size h)
        clear hm6 kb1 kt1 ks1 kz1 so sb
        gi_wp2
        go_wp2
        go_roundw
        case rel => exact ⟨i + 1, by omega, by go_num, hJ6, kb6, kt6, by rw [HGS.out]; exact ks6, kz6, lb6, lt6, ls6, hE6⟩
        case measure => simp [intOf]; omega
      · gi_wp2
        go_wp2
        refine bodyPost_ret (results_none rfl _ _ _) rfl ⟨⟨_, rfl⟩, .inr hx6⟩
    · obtain rfl : i = bs.length := by omega
      have HLN := Lib.hid (stL_len bs s0)
      go_wp2
      go_end0
      exact ⟨⟨_, rfl⟩, .inl (by rw [HLN.out]; exact hJi)⟩

end Go.Proofs.Ytookffaojlkfaaa
