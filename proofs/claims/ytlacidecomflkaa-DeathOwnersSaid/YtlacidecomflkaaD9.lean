/- Deaths: All. -/
import Derived.Test.YtlacidecomflkaaD8
import Derived.Test.YtlacidecomflkaaD5
import Derived.Test.YtlacidecomflkaaP5
set_option linter.unusedSimpArgs false
set_option linter.unusedVariables false
namespace Go.Proofs.Ytlacidecomflkaa
open Go.RowKit

theorem rightz_any (p : Option Addr) (ms : List Int) (c : Nat) (w : World) (hs : Sl w p ms) (hlen : ms.length ≤ 1000) :
    Calls Try.prog 23 #[.agg #[.int .i64 0, .int .i64 0, .int .i64 0, .int .i64 0, .int .i64 0, .int .i64 0, .int .i64 0, .int .i64 0, .int .i64 0, .int .i64 0, .int .i64 0, .int .i64 0, .int .i64 0, .int .i64 0, .int .i64 0, .int .i64 0], .slice p ms.length c] w fun e w' => e = .returned (.bool (rightP (fun _ => 0) ms)) ∧ Ext w w' := right_any (fun _ => 0) p ms c w hs hlen
def whoP (l : Nat → Mo) (ms : List Int) : Int := if pickB (ownersM l) ms = true then pick (ownersM l) ms else -1
def allN (l : Nat → Mo) (dead : Int) (ms : List Int) : Nat → Nat → Mo
  | 0 => l
  | k + 1 => updM (allN l dead ms k) k (deathM (allN l dead ms k k) dead (whoP (allN l dead ms k) ms))
def allB (dead : Int) (ms : List Int) : Bool := !(ms.any (dead == ·)) && rightP (fun _ => 0) ms
def allM (l : Nat → Mo) (dead : Int) (ms : List Int) : Nat → Mo := if allB dead ms = true then allN l dead ms 16 else l
theorem settlesM_ph (m : Mo) (x : Int) (h : 0 ≤ m.ph) : 0 ≤ (settlesM m x).ph := by
  unfold settlesM doneM settleM freeM
  split <;> (repeat' split) <;> simp_all
theorem deathM_ph (m : Mo) (d x : Int) (h : 0 ≤ m.ph) : 0 ≤ (deathM m d x).ph := by
  unfold deathM wayM twoM
  split
  · split
    · exact settlesM_ph _ _ h
    · split
      · exact settlesM_ph _ _ h
      · split
        · exact settlesM_ph _ _ h
        · unfold doneM againM freeM
          (repeat' split) <;> simp_all
  · exact h
theorem allN_ph (l : Nat → Mo) (d : Int) (ms : List Int) (h : ∀ i, 0 ≤ (l i).ph) : ∀ k i, 0 ≤ (allN l d ms k i).ph
  | 0, i => h i
  | k + 1, i => by
    unfold allN updM
    split
    · exact deathM_ph _ _ _ (allN_ph l d ms h k k)
    · exact allN_ph l d ms h k i
theorem updM_self (L : Nat → Mo) (k : Nat) : updM L k (L k) = L := by
  funext i; unfold updM; split
  · rename_i h; rw [h]
  · rfl
/-- Six cells are turned: a move. -/
theorem row_six {W : World} {B k : Nat} {L : Nat → Mo} {x : Mo} (hr : rowD W B = lm L) (hk : k < 16) :
    rowD ((((((W.setCell ⟨B, k * 6, none⟩ (.int .u8 x.ph)).setCell ⟨B, k * 6 + 1, none⟩ (.int .i64 x.cur)).setCell ⟨B, k * 6 + 2, none⟩ (.int .i64 x.nxt)).setCell ⟨B, k * 6 + 3, none⟩ (.int .i64 x.gen)).setCell ⟨B, k * 6 + 4, none⟩ (.int .i64 x.tick)).setCell ⟨B, k * 6 + 5, none⟩ (.int .i64 x.ver)) B = lm (updM L k x) := by
  simp only [rowD_setCell, if_true, hr]
  exact set_lm L k x hk

set_option maxRecDepth 100000 in
set_option maxHeartbeats 4000000 in
theorem all_a (l : Nat → Mo) (dead : Int) (p : Option Addr) (ms : List Int) (c : Nat) (w : World) (hph : ∀ i, 0 ≤ (l i).ph) (hs : Sl w p ms) (hlen : ms.length ≤ 1000) (hcap : ms.length ≤ c) (HC : Hid (ms.any (dead == ·) = true)) :
    Calls Try.prog 41 #[.agg (lm l), .int .i64 dead, .slice p ms.length c] w fun e w' => e = .returned (.agg (lm l)) ∧ Ext w w' := by
  go_enter Try.func41, Try.ntmps41
  go_upto_region 1 with (fail)
  obtain ⟨W0, hW0⟩ : ∃ W0, (w.alloc (.cells (lm l) 63)).alloc (.cells (lm mz) 63) = W0 := ⟨_, rfl⟩
  have e0 : Ext w W0 := by rw [← hW0]; exact Ext.al (Ext.al (Ext.rf _) _) _
  have s0 := hs.ext e0
  have r : rowD W0 w.heap.size = lm l := by rw [← hW0]; simp [go_sem]
  have z : frzD W0 w.heap.size = (0, 0) := by rw [← hW0]; simp [go_sem]
  have r' : (rowD W0 (w.heap.size + 1)).size = 96 := by rw [← hW0]; simp [go_sem]
  have z' : frzD W0 (w.heap.size + 1) = (0, 0) := by rw [← hW0]; simp [go_sem]
  have lb : Lt w.heap.size W0 := by rw [← hW0]; simp [Lt]; try omega
  have lb' : Lt (w.heap.size + 1) W0 := by rw [← hW0]; simp [Lt]; try omega
  rw [hW0]
  clear hW0 hs
  go_upto_region 2 with ((go_at_call 45; (with_reducible refine (contains_any dead p ms c _ s0 hlen).mono ?_); rw [HC.out]; rintro e w' ⟨rfl, rfl⟩))
  go_wp2
  refine bodyPost_ret (v := .agg (lm l)) ?_ rfl ⟨rfl, ?_⟩
  · refine results_of rfl _ _ (w.heap.size + 1) rfl ?_
    rw [loadVar_mov (by simp [go_sem, r'])]; simp [go_sem, r']
  · exact Ext.sr _ (by omega) e0

set_option maxRecDepth 100000 in
set_option maxHeartbeats 4000000 in
theorem all_b (l : Nat → Mo) (dead : Int) (p : Option Addr) (ms : List Int) (c : Nat) (w : World) (hph : ∀ i, 0 ≤ (l i).ph) (hs : Sl w p ms) (hlen : ms.length ≤ 1000) (hcap : ms.length ≤ c) (HC : Hid (ms.any (dead == ·) = false)) (HR : Hid (rightP (fun _ => 0) ms = false)) :
    Calls Try.prog 41 #[.agg (lm l), .int .i64 dead, .slice p ms.length c] w fun e w' => e = .returned (.agg (lm l)) ∧ Ext w w' := by
  go_enter Try.func41, Try.ntmps41
  go_upto_region 1 with (fail)
  obtain ⟨W0, hW0⟩ : ∃ W0, (w.alloc (.cells (lm l) 63)).alloc (.cells (lm mz) 63) = W0 := ⟨_, rfl⟩
  have e0 : Ext w W0 := by rw [← hW0]; exact Ext.al (Ext.al (Ext.rf _) _) _
  have s0 := hs.ext e0
  have r : rowD W0 w.heap.size = lm l := by rw [← hW0]; simp [go_sem]
  have z : frzD W0 w.heap.size = (0, 0) := by rw [← hW0]; simp [go_sem]
  have r' : (rowD W0 (w.heap.size + 1)).size = 96 := by rw [← hW0]; simp [go_sem]
  have z' : frzD W0 (w.heap.size + 1) = (0, 0) := by rw [← hW0]; simp [go_sem]
  have lb : Lt w.heap.size W0 := by rw [← hW0]; simp [Lt]; try omega
  have lb' : Lt (w.heap.size + 1) W0 := by rw [← hW0]; simp [Lt]; try omega
  rw [hW0]
  clear hW0 hs
  go_upto_region 2 with (first | (go_at_call 45; (with_reducible refine (contains_any dead p ms c _ s0 hlen).mono ?_); rw [HC.out]; rintro e w' ⟨rfl, rfl⟩) | (go_at_call 23; (with_reducible refine (rightz_any p ms c _ s0 hlen).mono ?_); rw [HR.out]; rintro e W1 ⟨rfl, h1⟩))
  have r := row_ext h1 lb r
  have z : frzD W1 w.heap.size = (0, 0) := by unfold frzD; rw [h1.block _ lb]; exact z
  have r' : (rowD W1 (w.heap.size + 1)).size = 96 := by rw [rowD_same (h1.block _ lb')]; exact r'
  have z' : frzD W1 (w.heap.size + 1) = (0, 0) := by unfold frzD; rw [h1.block _ lb']; exact z'
  have lb : Lt w.heap.size W1 := Nat.lt_of_lt_of_le lb h1.size
  have lb' : Lt (w.heap.size + 1) W1 := Nat.lt_of_lt_of_le lb' h1.size
  have e0 := e0.tr h1
  clear h1
  go_wp2
  refine bodyPost_ret (v := .agg (lm l)) ?_ rfl ⟨rfl, ?_⟩
  · refine results_of rfl _ _ (w.heap.size + 1) rfl ?_
    rw [loadVar_mov (by simp [go_sem, r'])]; simp [go_sem, r']
  · exact Ext.sr _ (by omega) e0

end Go.Proofs.Ytlacidecomflkaa
