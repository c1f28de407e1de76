/- Without and move of the plan's reference. -/
import Derived.Test.YtlacidecomflkaaP13
set_option linter.unusedSimpArgs false
set_option linter.unusedVariables false
namespace Go.Proofs.Ytlacidecomflkaa
open Go.RowKit

theorem cell_one_new (w : World) (a : Value) (t : TypeId) : ∀ j u, [a][j]? = some u → (w.alloc (.cells #[a] t)).cell? ((⟨w.heap.size, 0, none⟩ : Addr).add j) = some u := by
  intro j u hu
  have e : (⟨w.heap.size, 0, none⟩ : Addr).add j = ⟨w.heap.size, j, none⟩ := by unfold Addr.add; split <;> simp_all
  rw [e, cell_rowD, rowD_new]
  simpa using hu
set_option maxRecDepth 20000 in
set_option maxHeartbeats 2000000 in
theorem rwithout_any (p : Option Addr) (ms : List Int) (c : Nat) (who : Int) (w : World) (hs : Sl w p ms) (hlen : ms.length ≤ 1000) :
    Calls Try.prog 34 #[.slice p ms.length c, .int .i64 who] w fun e w' => ∃ v, e = .returned v ∧ w'.ownsRow w.heap.size 3 1 v (without ms who).length ((without ms who).map (Value.int .i64)) ∧ Ext w w' := by
  obtain ⟨i0, hi, hz0, hz1, hz2⟩ := info_parts info_int
  have hwl : ∀ k, (without (ms.take k) who).length ≤ 1000 := fun k => Nat.le_trans (without_len _ _) (by simp; omega)
  have HWL := Lib.hid hwl
  clear hwl
  go_enter Try.func34, Try.ntmps34
  go_wp2
  go_loopw [5, 6] (fun v i wr => ∃ k : Nat, k ≤ ms.length ∧ i = .int .i64 k ∧ wr.ownsRow w.heap.size 3 1 v (without (ms.take k) who).length ((without (ms.take k) who).map (Value.int .i64)) ∧ Ext w wr) (fun _ i _ => ms.length - (intOf i).toNat)
  case atStart => exact ⟨0, Nat.zero_le _, rfl, by simpa [without] using World.ownsRow_nil _ _ _ _, Ext.rf _⟩
  case round =>
    obtain ⟨k, hk, rfl, hO, hE⟩ := hrel
    have HO := Lib.hid hO
    have hsz := hE.size
    clear hO
    by_cases hlt : k < ms.length
    · have hjl : (k : Int) < ms.length := by omega
      obtain ⟨b, off, rfl, hb, hcell⟩ := (hs.ext hE) k hlt
      have HFT := Lib.hid (filter_take (fun x => x == who) ms k hlt)
      have e1 : ms[k]?.getD 0 = ms[k] := by simp [hlt]
      rw [e1] at hcell
      generalize hv : ms[k] = v at hcell HFT
      clear hv e1
      cases hp : (v == who)
      · rw [hp] at HFT
        have hne : (v != who) = true := by unfold bne; rw [hp]; rfl
        clear hp
        go_wp2_with (at_builtin; go_must (refine wpList_append_own _ rfl _ _ 23 rfl w.heap.size 3 i0 (.int .i64 0) 1 8 Try.underlying23 hi hz0 hz1 hz2 rfl (by decide) _ _ _ rfl (HO.out.alloc _) ⟨wr.heap.size, 0, none⟩ 1 1 [.int .i64 v] rfl rfl (cell_one_new _ _ _) (by simp [Value.oneCell']) (by have := HWL.out k; unfold maxLen; first | omega | (simp; omega)) (by have := HWL.out k; first | omega | (simp; omega)) (by have := HWL.out k; first | omega | (simp; omega)) ?_); intro v' w2 hown' hgrow _; have HOW := Lib.hid hown'; have HG := Lib.hid hgrow; clear hown' hgrow)
        go_roundw
        case rel =>
          refine ⟨k + 1, by omega, by go_num, ?_, ?_⟩
          · have := HOW.out
            have e : without (ms.take (k + 1)) who = without (ms.take k) who ++ [v] := HFT.out
            rw [e, List.length_append, List.map_append]; exact this
          · refine Mv.ext_of (C := fun k => w.heap.size ≤ k) hE ((Mv.al _ (Mv.refl _ _)).trans (Mv.of_grown HG.out fun r e => .inl (ownBlock_ge HO.out r e))) (fun k h => h)
        case measure => simp [intOf]; omega
      · rw [hp] at HFT
        have hne : (v != who) = false := by unfold bne; rw [hp]; rfl
        clear hp
        go_wp2
        go_roundw
        case rel =>
          have e : without (ms.take (k + 1)) who = without (ms.take k) who := by have := HFT.out; simpa [without] using this
          exact ⟨k + 1, by omega, by go_num, by rw [e]; exact HO.out, hE⟩
        case measure => simp [intOf]; omega
    · obtain rfl : k = ms.length := by omega
      have hO := HO.out
      rw [List.take_length] at hO
      have HO2 := Lib.hid hO
      clear hO
      go_wp2
      go_ret
      exact ⟨_, rfl, HO2.out, hE⟩

end Go.Proofs.Ytlacidecomflkaa
