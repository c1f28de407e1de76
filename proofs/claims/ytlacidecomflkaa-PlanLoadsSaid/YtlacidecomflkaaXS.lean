/- Region 18 of wakes: in which order its operations may be taken. -/
import Derived.Test.YtlacidecomflkaaP21
import Derived.Test.YtlacidecomflkaaX
set_option linter.unusedSimpArgs false
set_option linter.unusedVariables false
namespace Go.Proofs.Ytlacidecomflkaa
open Go.RowKit

def Sch (ops : Array Oper) : Prop := Region.noSelect ops = true ∧ (∀ k, k < 106 → [62, 63, 79, 84, 85, 90, 91, 96, 97, 101, 102].contains k = false → okX ops 106 k = true) ∧
  (Region.free .any ops (lst 106 62) 63 = true ∧ upX ops (lst 106 62) 63 = true ∧ Region.ready .any ops ((lst 106 62).setIfInBounds 63 true) = [62]) ∧
  (∀ k, [79, 84, 85, 90, 91, 96, 97, 101, 102].contains k = true → Region.ready .any ops (lst 106 k) = [k]) ∧ Region.ready .any ops (lst 106 106) = []
theorem sch_sel : Region.noSelect ((Try.f13.body.bind (findR 18)).getD #[]) = true := by kernel_rfl
theorem sch_0 : schedX ((Try.f13.body.bind (findR 18)).getD #[]) 106 [62, 63, 79, 84, 85, 90, 91, 96, 97, 101, 102] 0 12 = true := by kernel_rfl
theorem sch_12 : schedX ((Try.f13.body.bind (findR 18)).getD #[]) 106 [62, 63, 79, 84, 85, 90, 91, 96, 97, 101, 102] 12 24 = true := by kernel_rfl
theorem sch_24 : schedX ((Try.f13.body.bind (findR 18)).getD #[]) 106 [62, 63, 79, 84, 85, 90, 91, 96, 97, 101, 102] 24 36 = true := by kernel_rfl
theorem sch_36 : schedX ((Try.f13.body.bind (findR 18)).getD #[]) 106 [62, 63, 79, 84, 85, 90, 91, 96, 97, 101, 102] 36 48 = true := by kernel_rfl
theorem sch_48 : schedX ((Try.f13.body.bind (findR 18)).getD #[]) 106 [62, 63, 79, 84, 85, 90, 91, 96, 97, 101, 102] 48 60 = true := by kernel_rfl
theorem sch_60 : schedX ((Try.f13.body.bind (findR 18)).getD #[]) 106 [62, 63, 79, 84, 85, 90, 91, 96, 97, 101, 102] 60 72 = true := by kernel_rfl
theorem sch_72 : schedX ((Try.f13.body.bind (findR 18)).getD #[]) 106 [62, 63, 79, 84, 85, 90, 91, 96, 97, 101, 102] 72 84 = true := by kernel_rfl
theorem sch_84 : schedX ((Try.f13.body.bind (findR 18)).getD #[]) 106 [62, 63, 79, 84, 85, 90, 91, 96, 97, 101, 102] 84 96 = true := by kernel_rfl
theorem sch_96 : schedX ((Try.f13.body.bind (findR 18)).getD #[]) 106 [62, 63, 79, 84, 85, 90, 91, 96, 97, 101, 102] 96 106 = true := by kernel_rfl
theorem sch_f : Region.free .any ((Try.f13.body.bind (findR 18)).getD #[]) (lst 106 62) 63 = true := by kernel_rfl
theorem sch_u : upX ((Try.f13.body.bind (findR 18)).getD #[]) (lst 106 62) 63 = true := by kernel_rfl
theorem sch_r : Region.ready .any ((Try.f13.body.bind (findR 18)).getD #[]) ((lst 106 62).setIfInBounds 63 true) = [62] := by kernel_rfl
theorem sch_s79 : Region.ready .any ((Try.f13.body.bind (findR 18)).getD #[]) (lst 106 79) = [79] := by kernel_rfl
theorem sch_s84 : Region.ready .any ((Try.f13.body.bind (findR 18)).getD #[]) (lst 106 84) = [84] := by kernel_rfl
theorem sch_s85 : Region.ready .any ((Try.f13.body.bind (findR 18)).getD #[]) (lst 106 85) = [85] := by kernel_rfl
theorem sch_s90 : Region.ready .any ((Try.f13.body.bind (findR 18)).getD #[]) (lst 106 90) = [90] := by kernel_rfl
theorem sch_s91 : Region.ready .any ((Try.f13.body.bind (findR 18)).getD #[]) (lst 106 91) = [91] := by kernel_rfl
theorem sch_s96 : Region.ready .any ((Try.f13.body.bind (findR 18)).getD #[]) (lst 106 96) = [96] := by kernel_rfl
theorem sch_s97 : Region.ready .any ((Try.f13.body.bind (findR 18)).getD #[]) (lst 106 97) = [97] := by kernel_rfl
theorem sch_s101 : Region.ready .any ((Try.f13.body.bind (findR 18)).getD #[]) (lst 106 101) = [101] := by kernel_rfl
theorem sch_s102 : Region.ready .any ((Try.f13.body.bind (findR 18)).getD #[]) (lst 106 102) = [102] := by kernel_rfl
theorem sch_e : Region.ready .any ((Try.f13.body.bind (findR 18)).getD #[]) (lst 106 106) = [] := by kernel_rfl
theorem sch18 : Sch ((Try.f13.body.bind (findR 18)).getD #[]) := by
  refine ⟨sch_sel, fun k hk hl => ?_, ⟨sch_f, sch_u, sch_r⟩, fun k hk => ?_, sch_e⟩
  · rcases (by omega : (0 ≤ k ∧ k < 12) ∨ (12 ≤ k ∧ k < 24) ∨ (24 ≤ k ∧ k < 36) ∨ (36 ≤ k ∧ k < 48) ∨ (48 ≤ k ∧ k < 60) ∨ (60 ≤ k ∧ k < 72) ∨ (72 ≤ k ∧ k < 84) ∨ (84 ≤ k ∧ k < 96) ∨ (96 ≤ k ∧ k < 106)) with ⟨h1, h2⟩ | ⟨h1, h2⟩ | ⟨h1, h2⟩ | ⟨h1, h2⟩ | ⟨h1, h2⟩ | ⟨h1, h2⟩ | ⟨h1, h2⟩ | ⟨h1, h2⟩ | ⟨h1, h2⟩
    · exact schedX_at sch_0 h1 h2 hl
    · exact schedX_at sch_12 h1 h2 hl
    · exact schedX_at sch_24 h1 h2 hl
    · exact schedX_at sch_36 h1 h2 hl
    · exact schedX_at sch_48 h1 h2 hl
    · exact schedX_at sch_60 h1 h2 hl
    · exact schedX_at sch_72 h1 h2 hl
    · exact schedX_at sch_84 h1 h2 hl
    · exact schedX_at sch_96 h1 h2 hl
  · simp only [List.contains_iff_mem, List.mem_cons, List.not_mem_nil, or_false] at hk
    rcases hk with rfl | rfl | rfl | rfl | rfl | rfl | rfl | rfl | rfl
    · exact sch_s79
    · exact sch_s84
    · exact sch_s85
    · exact sch_s90
    · exact sch_s91
    · exact sch_s96
    · exact sch_s97
    · exact sch_s101
    · exact sch_s102

end Go.Proofs.Ytlacidecomflkaa
