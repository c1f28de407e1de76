/- Deaths: All, whole; what law 23 knows by heart. -/
import Derived.Test.YtlacidecomflkaaD10
import Derived.Test.YtlacidecomflkaaP21
set_option linter.unusedSimpArgs false
set_option linter.unusedVariables false
namespace Go.Proofs.Ytlacidecomflkaa
open Go.RowKit

theorem all_any (l : Nat → Mo) (dead : Int) (p : Option Addr) (ms : List Int) (c : Nat) (w : World) (hph : ∀ i, 0 ≤ (l i).ph) (hs : Sl w p ms) (hlen : ms.length ≤ 1000) (hcap : ms.length ≤ c) :
    Calls Try.prog 41 #[.agg (lm l), .int .i64 dead, .slice p ms.length c] w fun e w' => e = .returned (.agg (lm (allM l dead ms))) ∧ Ext w w' := by
  cases hc : ms.any (dead == ·)
  · cases hr : rightP (fun _ => 0) ms
    · have hB : allM l dead ms = l := by unfold allM allB; rw [hc, hr]; rfl
      rw [hB]
      exact all_b l dead p ms c w hph hs hlen hcap (Lib.hid hc) (Lib.hid hr)
    · have hB : allM l dead ms = allN l dead ms 16 := by unfold allM allB; rw [hc, hr]; rfl
      rw [hB]
      exact all_c l dead p ms c w hph hs hlen hcap (Lib.hid hc) (Lib.hid hr)
  · have hB : allM l dead ms = l := by unfold allM allB; rw [hc]; rfl
    rw [hB]
    exact all_a l dead p ms c w hph hs hlen hcap (Lib.hid hc)
def l0 : Nat → Mo := fun i => ⟨1, (i : Int).tmod 2, -1, 1, 0, 0⟩
def o0 : Nat → Int := ownersM (allM l0 1 [0, 3])
theorem o0_0 : o0 0 = 0 := by kernel_rfl
theorem o0_1 : o0 1 = 3 := by kernel_rfl
theorem o0_l : load o0 3 = 8 := by kernel_rfl
theorem l0_ph (i : Nat) : 0 ≤ (l0 i).ph := by unfold l0; show (0 : Int) ≤ 1; omega
set_option maxHeartbeats 1000000 in
theorem window_any (w : World) : Calls Try.prog 67 #[] w fun e w' => e = .returned (mo 4 1 2 4 9 0) ∧ Ext w w' := by
  go_enter Try.func67, Try.ntmps67
  go_wp2
  refine bodyPost_ret (v := mo 4 1 2 4 9 0) (by simp [results, Try.results67, go_sem]) rfl ⟨rfl, ?_⟩
  (repeat (first | with_reducible exact Ext.rf _ | with_reducible assumption | with_reducible refine Ext.al ?_ _ | with_reducible refine Ext.dr ?_ | with_reducible refine Ext.dn ?_ _ | ((with_reducible refine Ext.st _ ?_ ?_); focus (first | omega | (simp; omega) | simp)) | with_reducible refine Ext.tr ?_ (by assumption) | with_reducible refine Ext.tr ?_ (up_ext (by assumption)) | with_reducible refine Ext.of (by assumption) ?_))
theorem wd1 (W : World) : Calls Try.prog 35 #[mo 4 1 2 4 9 0, .int .i64 2, .int .i64 3] W fun e w' => e = .returned (.tuple #[mo 2 1 3 5 9 0, .bool true]) ∧ Ext W w' := by
  have := death_any (⟨4, 1, 2, 4, 9, 0⟩ : Mo) 2 3 W (by decide)
  rwa [show deathM (⟨4, 1, 2, 4, 9, 0⟩ : Mo) 2 3 = (⟨2, 1, 3, 5, 9, 0⟩ : Mo) by kernel_rfl, show deathB (⟨4, 1, 2, 4, 9, 0⟩ : Mo) 2 3 = true by kernel_rfl] at this
theorem wd2 (W : World) : Calls Try.prog 35 #[mo 4 1 2 4 9 0, .int .i64 1, .int .i64 3] W fun e w' => e = .returned (.tuple #[mo 6 (-1) 2 5 9 0, .bool true]) ∧ Ext W w' := by
  have := death_any (⟨4, 1, 2, 4, 9, 0⟩ : Mo) 1 3 W (by decide)
  rwa [show deathM (⟨4, 1, 2, 4, 9, 0⟩ : Mo) 1 3 = (⟨6, (-1), 2, 5, 9, 0⟩ : Mo) by kernel_rfl, show deathB (⟨4, 1, 2, 4, 9, 0⟩ : Mo) 1 3 = true by kernel_rfl] at this
theorem wd3 (W : World) : Calls Try.prog 35 #[mo 4 1 2 4 9 0, .int .i64 2, .int .i64 (-1)] W fun e w' => e = .returned (.tuple #[mo 6 (-1) 1 5 9 0, .bool true]) ∧ Ext W w' := by
  have := death_any (⟨4, 1, 2, 4, 9, 0⟩ : Mo) 2 (-1) W (by decide)
  rwa [show deathM (⟨4, 1, 2, 4, 9, 0⟩ : Mo) 2 (-1) = (⟨6, (-1), 1, 5, 9, 0⟩ : Mo) by kernel_rfl, show deathB (⟨4, 1, 2, 4, 9, 0⟩ : Mo) 2 (-1) = true by kernel_rfl] at this
theorem wd4 (W : World) : Calls Try.prog 35 #[mo 4 1 2 4 9 0, .int .i64 3, .int .i64 4] W fun e w' => e = .returned (.tuple #[mo 4 1 2 4 9 0, .bool false]) ∧ Ext W w' := by
  have := death_any (⟨4, 1, 2, 4, 9, 0⟩ : Mo) 3 4 W (by decide)
  rwa [show deathM (⟨4, 1, 2, 4, 9, 0⟩ : Mo) 3 4 = (⟨4, 1, 2, 4, 9, 0⟩ : Mo) by kernel_rfl, show deathB (⟨4, 1, 2, 4, 9, 0⟩ : Mo) 3 4 = false by kernel_rfl] at this
theorem wd5 (W : World) : Calls Try.prog 35 #[mo 4 1 2 4 9 0, .int .i64 2, .int .i64 2] W fun e w' => e = .returned (.tuple #[mo 4 1 2 4 9 0, .bool false]) ∧ Ext W w' := by
  have := death_any (⟨4, 1, 2, 4, 9, 0⟩ : Mo) 2 2 W (by decide)
  rwa [show deathM (⟨4, 1, 2, 4, 9, 0⟩ : Mo) 2 2 = (⟨4, 1, 2, 4, 9, 0⟩ : Mo) by kernel_rfl, show deathB (⟨4, 1, 2, 4, 9, 0⟩ : Mo) 2 2 = false by kernel_rfl] at this
theorem wd6 (W : World) : Calls Try.prog 35 #[mo 1 1 (-1) 4 0 0, .int .i64 1, .int .i64 (-1)] W fun e w' => e = .returned (.tuple #[mo 0 (-1) (-1) 4 0 0, .bool true]) ∧ Ext W w' := by
  have := death_any (⟨1, 1, (-1), 4, 0, 0⟩ : Mo) 1 (-1) W (by decide)
  rwa [show deathM (⟨1, 1, (-1), 4, 0, 0⟩ : Mo) 1 (-1) = (⟨0, (-1), (-1), 4, 0, 0⟩ : Mo) by kernel_rfl, show deathB (⟨1, 1, (-1), 4, 0, 0⟩ : Mo) 1 (-1) = true by kernel_rfl] at this
theorem wf (W : World) : Calls Try.prog 68 #[mo 0 (-1) (-1) 4 0 0, .int .i64 5] W fun e w' => e = .returned (.tuple #[mo 6 (-1) 5 5 0 0, .bool true]) ∧ Ext W w' := by
  have := fill_mo_any (⟨0, (-1), (-1), 4, 0, 0⟩ : Mo) 5 W (by decide)
  rwa [show fillM (⟨0, (-1), (-1), 4, 0, 0⟩ : Mo) 5 = (⟨6, (-1), 5, 5, 0, 0⟩ : Mo) by kernel_rfl, show fillB (⟨0, (-1), (-1), 4, 0, 0⟩ : Mo) 5 = true by kernel_rfl] at this

theorem wof (who : Int) (b : Bool) (h : ofM ⟨4, 1, 2, 4, 9, 0⟩ who = b) (W : World) : Calls Try.prog 42 #[mo 4 1 2 4 9 0, .int .i64 who] W fun e w' => e = .returned (.bool b) ∧ Ext W w' := by
  have := of_any ⟨4, 1, 2, 4, 9, 0⟩ who W
  rwa [h] at this
theorem wof1 (W : World) : Calls Try.prog 42 #[mo 4 1 2 4 9 0, .int .i64 1] W fun e w' => e = .returned (.bool true) ∧ Ext W w' := wof 1 true (by kernel_rfl) W
theorem wof0 (W : World) : Calls Try.prog 42 #[mo 4 1 2 4 9 0, .int .i64 0] W fun e w' => e = .returned (.bool false) ∧ Ext W w' := wof 0 false (by kernel_rfl) W
theorem wall (W : World) (t : TypeId) : Calls Try.prog 41 #[.agg (lm l0), .int .i64 1, .slice (some ⟨W.heap.size, 0, none⟩) 2 2] (W.alloc (.cells #[.int .i64 0, .int .i64 3] t)) fun e w' => e = .returned (.agg (lm (allM l0 1 [0, 3]))) ∧ Ext (W.alloc (.cells #[.int .i64 0, .int .i64 3] t)) w' :=
  all_any l0 1 _ [0, 3] 2 _ l0_ph (sl_lit2 0 3 t W) (by simp) (by simp)
theorem wowners (W : World) : Calls Try.prog 43 #[.agg (lm (allM l0 1 [0, 3]))] W fun e w' => e = .returned (.agg (ov o0)) ∧ Ext W w' := owners_any _ W
theorem wload (W : World) : Calls Try.prog 26 #[.agg (ov o0), .int .i64 3] W fun e w' => e = .returned (.int .i64 8) ∧ Ext W w' := by
  have := rload_any o0 3 W
  rwa [o0_l] at this

end Go.Proofs.Ytlacidecomflkaa
