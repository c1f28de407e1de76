/- Region 14 of wakes: in which order its operations may be taken. -/
import Derived.Test.YtookffaojlkfaaaW1
import Derived.Test.YtookffaojlkfaaaX
set_option linter.unusedSimpArgs false
set_option linter.unusedVariables false
namespace Go.Proofs.Ytookffaojlkfaaa
open Go.RowKit

def SchWk (ops : Array Oper) : Prop := Region.noSelect ops = true ∧ (∀ k, k < 112 → [28, 81, 88, 94, 98, 102, 103, 107, 108].contains k = false → okX ops 112 k = true) ∧
  (∀ k, [28, 81, 88, 94, 98, 102, 103, 107, 108].contains k = true → Region.ready .any ops (lst 112 k) = [k]) ∧ Region.ready .any ops (lst 112 112) = []
theorem sch_sel : Region.noSelect ((Try.f14.body.bind (findR 14)).getD #[]) = true := by kernel_rfl
theorem sch_0 : schedX ((Try.f14.body.bind (findR 14)).getD #[]) 112 [28, 81, 88, 94, 98, 102, 103, 107, 108] 0 12 = true := by kernel_rfl
theorem sch_12 : schedX ((Try.f14.body.bind (findR 14)).getD #[]) 112 [28, 81, 88, 94, 98, 102, 103, 107, 108] 12 24 = true := by kernel_rfl
theorem sch_24 : schedX ((Try.f14.body.bind (findR 14)).getD #[]) 112 [28, 81, 88, 94, 98, 102, 103, 107, 108] 24 36 = true := by kernel_rfl
theorem sch_36 : schedX ((Try.f14.body.bind (findR 14)).getD #[]) 112 [28, 81, 88, 94, 98, 102, 103, 107, 108] 36 48 = true := by kernel_rfl
theorem sch_48 : schedX ((Try.f14.body.bind (findR 14)).getD #[]) 112 [28, 81, 88, 94, 98, 102, 103, 107, 108] 48 60 = true := by kernel_rfl
theorem sch_60 : schedX ((Try.f14.body.bind (findR 14)).getD #[]) 112 [28, 81, 88, 94, 98, 102, 103, 107, 108] 60 72 = true := by kernel_rfl
theorem sch_72 : schedX ((Try.f14.body.bind (findR 14)).getD #[]) 112 [28, 81, 88, 94, 98, 102, 103, 107, 108] 72 84 = true := by kernel_rfl
theorem sch_84 : schedX ((Try.f14.body.bind (findR 14)).getD #[]) 112 [28, 81, 88, 94, 98, 102, 103, 107, 108] 84 96 = true := by kernel_rfl
theorem sch_96 : schedX ((Try.f14.body.bind (findR 14)).getD #[]) 112 [28, 81, 88, 94, 98, 102, 103, 107, 108] 96 108 = true := by kernel_rfl
theorem sch_108 : schedX ((Try.f14.body.bind (findR 14)).getD #[]) 112 [28, 81, 88, 94, 98, 102, 103, 107, 108] 108 112 = true := by kernel_rfl
theorem sch_s28 : Region.ready .any ((Try.f14.body.bind (findR 14)).getD #[]) (lst 112 28) = [28] := by kernel_rfl
theorem sch_s81 : Region.ready .any ((Try.f14.body.bind (findR 14)).getD #[]) (lst 112 81) = [81] := by kernel_rfl
theorem sch_s88 : Region.ready .any ((Try.f14.body.bind (findR 14)).getD #[]) (lst 112 88) = [88] := by kernel_rfl
theorem sch_s94 : Region.ready .any ((Try.f14.body.bind (findR 14)).getD #[]) (lst 112 94) = [94] := by kernel_rfl
theorem sch_s98 : Region.ready .any ((Try.f14.body.bind (findR 14)).getD #[]) (lst 112 98) = [98] := by kernel_rfl
theorem sch_s102 : Region.ready .any ((Try.f14.body.bind (findR 14)).getD #[]) (lst 112 102) = [102] := by kernel_rfl
theorem sch_s103 : Region.ready .any ((Try.f14.body.bind (findR 14)).getD #[]) (lst 112 103) = [103] := by kernel_rfl
theorem sch_s107 : Region.ready .any ((Try.f14.body.bind (findR 14)).getD #[]) (lst 112 107) = [107] := by kernel_rfl
theorem sch_s108 : Region.ready .any ((Try.f14.body.bind (findR 14)).getD #[]) (lst 112 108) = [108] := by kernel_rfl
theorem sch_e : Region.ready .any ((Try.f14.body.bind (findR 14)).getD #[]) (lst 112 112) = [] := by kernel_rfl
theorem schWk : SchWk ((Try.f14.body.bind (findR 14)).getD #[]) := by
  refine ⟨sch_sel, fun k hk hl => ?_, fun k hk => ?_, sch_e⟩
  · rcases (by omega : (0 ≤ k ∧ k < 12) ∨ (12 ≤ k ∧ k < 24) ∨ (24 ≤ k ∧ k < 36) ∨ (36 ≤ k ∧ k < 48) ∨ (48 ≤ k ∧ k < 60) ∨ (60 ≤ k ∧ k < 72) ∨ (72 ≤ k ∧ k < 84) ∨ (84 ≤ k ∧ k < 96) ∨ (96 ≤ k ∧ k < 108) ∨ (108 ≤ k ∧ k < 112)) with ⟨h1, h2⟩ | ⟨h1, h2⟩ | ⟨h1, h2⟩ | ⟨h1, h2⟩ | ⟨h1, h2⟩ | ⟨h1, h2⟩ | ⟨h1, h2⟩ | ⟨h1, h2⟩ | ⟨h1, h2⟩ | ⟨h1, h2⟩
    · exact schedX_at sch_0 h1 h2 hl
    · exact schedX_at sch_12 h1 h2 hl
    · exact schedX_at sch_24 h1 h2 hl
    · exact schedX_at sch_36 h1 h2 hl
    · exact schedX_at sch_48 h1 h2 hl
    · exact schedX_at sch_60 h1 h2 hl
    · exact schedX_at sch_72 h1 h2 hl
    · exact schedX_at sch_84 h1 h2 hl
    · exact schedX_at sch_96 h1 h2 hl
    · exact schedX_at sch_108 h1 h2 hl
  · simp only [List.contains_iff_mem, List.mem_cons, List.not_mem_nil, or_false] at hk
    rcases hk with rfl | rfl | rfl | rfl | rfl | rfl | rfl | rfl | rfl
    · exact sch_s28
    · exact sch_s81
    · exact sch_s88
    · exact sch_s94
    · exact sch_s98
    · exact sch_s102
    · exact sch_s103
    · exact sch_s107
    · exact sch_s108

end Go.Proofs.Ytookffaojlkfaaa
