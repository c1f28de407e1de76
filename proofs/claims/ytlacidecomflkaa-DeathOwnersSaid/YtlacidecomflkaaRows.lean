/-
  No cell of these rows narrows 'for every input' (looked for: loops, veiled, ifaces, maps, wideKeys, modest, calm, conditions, laid).
  DERIVED. THE GIVEN ROWS OF THIS SEAT. 9 by the template 'for every input the law returns true; each argument reads behind the call as it read before'; 0 by the template 'total and deterministic' (their statements: YtlacidecomflkaaTotals.lean).
  GIVEN WITH THE SEED: the statements are not yours to turn. If you find one false, say at which input.
  Laid BY PROGRAM, IN A SANDBOX (cutbox-rows.mjs): the forced cells as the released guide's own fill.sh prints them over the translation 6bd0af2e9c947c94… (all of the seat's roots in one cut). By AI agents, Wed Nov 11 2026. No macro, syntax, notation, axiom, sorry.
-/
import Derived.Test.YtlacidecomflkaaChecked
import GoSem.Claim
import GoSem.ClaimJoined
import GoSem.ClaimMapViews
import Derived.JoinedTies
import Derived.KernelRfl
namespace Go.Proofs.Ytlacidecomflkaa
/- THE CELL 'sum', in the pinned program and in every row, IS THE sha256 OF THE DUMP (.gsa) THAT YtlacidecomflkaaProg.lean LOADS. Nothing in Lean hashes anything: it is a label: what it is worth is what the hold of that sum in a sandbox is worth. -/
noncomputable def Try.pinned : Pinned := { name := "ytlacidecomflkaa", sum := "6bd0af2e9c947c94245d4b15046996327442f401aa93f7ba97a9ba6b9d39f1be", checked := Try.checked }
namespace Rows
def none {H : Type} : Left H := { results := [], args := [] }

/-- 'handfastlaw21.PlanTells': WHATEVER THE INPUT: true; the input reads as it did. -/
def planTellsSpec : ChangeSpec := { name := "planTells", fn := fun _ => fun
  | [d1, d2, d3, d4] => { results := [.lit (.bool true)], args := [d1, d2, d3, d4] }
  | _ => none }
def planTellsRow : OpenClaim := { program := "ytlacidecomflkaa", sum := "6bd0af2e9c947c94245d4b15046996327442f401aa93f7ba97a9ba6b9d39f1be", func := "handfast/handfastlaw21.PlanTells", spec := "planTells", unfollowed := true, recurses := true, apart := false }
def PlanTellsSaid : Prop := planTellsRow.holds Try.pinned (OpenSpec.ofChange planTellsSpec)

/-- ITS FALSE NEIGHBOUR: 'it returns false'. Refute it at one input. -/
def planTellsWrong : ChangeSpec := { name := "planTells", fn := fun _ => fun
  | [d1, d2, d3, d4] => { results := [.lit (.bool false)], args := [d1, d2, d3, d4] }
  | _ => none }
def PlanTellsWrongFalsely : Prop := planTellsRow.holds Try.pinned (OpenSpec.ofChange planTellsWrong)

/-- 'handfastlaw21.PlanAdds': WHATEVER THE INPUT: true; the input reads as it did. -/
def planAddsSpec : ChangeSpec := { name := "planAdds", fn := fun _ => fun
  | [d1, d2, d3] => { results := [.lit (.bool true)], args := [d1, d2, d3] }
  | _ => none }
def planAddsRow : OpenClaim := { program := "ytlacidecomflkaa", sum := "6bd0af2e9c947c94245d4b15046996327442f401aa93f7ba97a9ba6b9d39f1be", func := "handfast/handfastlaw21.PlanAdds", spec := "planAdds", unfollowed := true, recurses := true, apart := false }
def PlanAddsSaid : Prop := planAddsRow.holds Try.pinned (OpenSpec.ofChange planAddsSpec)

/-- ITS FALSE NEIGHBOUR: 'it returns false'. Refute it at one input. -/
def planAddsWrong : ChangeSpec := { name := "planAdds", fn := fun _ => fun
  | [d1, d2, d3] => { results := [.lit (.bool false)], args := [d1, d2, d3] }
  | _ => none }
def PlanAddsWrongFalsely : Prop := planAddsRow.holds Try.pinned (OpenSpec.ofChange planAddsWrong)

/-- 'handfastlaw21.PlanRemoves': WHATEVER THE INPUT: true; the input reads as it did. -/
def planRemovesSpec : ChangeSpec := { name := "planRemoves", fn := fun _ => fun
  | [d1, d2, d3] => { results := [.lit (.bool true)], args := [d1, d2, d3] }
  | _ => none }
def planRemovesRow : OpenClaim := { program := "ytlacidecomflkaa", sum := "6bd0af2e9c947c94245d4b15046996327442f401aa93f7ba97a9ba6b9d39f1be", func := "handfast/handfastlaw21.PlanRemoves", spec := "planRemoves", unfollowed := true, recurses := true, apart := false }
def PlanRemovesSaid : Prop := planRemovesRow.holds Try.pinned (OpenSpec.ofChange planRemovesSpec)

/-- ITS FALSE NEIGHBOUR: 'it returns false'. Refute it at one input. -/
def planRemovesWrong : ChangeSpec := { name := "planRemoves", fn := fun _ => fun
  | [d1, d2, d3] => { results := [.lit (.bool false)], args := [d1, d2, d3] }
  | _ => none }
def PlanRemovesWrongFalsely : Prop := planRemovesRow.holds Try.pinned (OpenSpec.ofChange planRemovesWrong)

/-- 'handfastlaw21.PlanFills': WHATEVER THE INPUT: true; the input reads as it did. -/
def planFillsSpec : ChangeSpec := { name := "planFills", fn := fun _ => fun
  | [d1, d2] => { results := [.lit (.bool true)], args := [d1, d2] }
  | _ => none }
def planFillsRow : OpenClaim := { program := "ytlacidecomflkaa", sum := "6bd0af2e9c947c94245d4b15046996327442f401aa93f7ba97a9ba6b9d39f1be", func := "handfast/handfastlaw21.PlanFills", spec := "planFills", unfollowed := true, recurses := true, apart := false }
def PlanFillsSaid : Prop := planFillsRow.holds Try.pinned (OpenSpec.ofChange planFillsSpec)

/-- ITS FALSE NEIGHBOUR: 'it returns false'. Refute it at one input. -/
def planFillsWrong : ChangeSpec := { name := "planFills", fn := fun _ => fun
  | [d1, d2] => { results := [.lit (.bool false)], args := [d1, d2] }
  | _ => none }
def PlanFillsWrongFalsely : Prop := planFillsRow.holds Try.pinned (OpenSpec.ofChange planFillsWrong)

/-- 'handfastlaw21.PlanLoads': WHATEVER THE INPUT: true; the input reads as it did. -/
def planLoadsSpec : ChangeSpec := { name := "planLoads", fn := fun _ => fun
  | [d1, d2, d3] => { results := [.lit (.bool true)], args := [d1, d2, d3] }
  | _ => none }
def planLoadsRow : OpenClaim := { program := "ytlacidecomflkaa", sum := "6bd0af2e9c947c94245d4b15046996327442f401aa93f7ba97a9ba6b9d39f1be", func := "handfast/handfastlaw21.PlanLoads", spec := "planLoads", unfollowed := true, recurses := true, apart := false }
def PlanLoadsSaid : Prop := planLoadsRow.holds Try.pinned (OpenSpec.ofChange planLoadsSpec)

/-- ITS FALSE NEIGHBOUR: 'it returns false'. Refute it at one input. -/
def planLoadsWrong : ChangeSpec := { name := "planLoads", fn := fun _ => fun
  | [d1, d2, d3] => { results := [.lit (.bool false)], args := [d1, d2, d3] }
  | _ => none }
def PlanLoadsWrongFalsely : Prop := planLoadsRow.holds Try.pinned (OpenSpec.ofChange planLoadsWrong)

/-- 'handfastlaw23.DeathKeeps': WHATEVER THE INPUT: true; the input reads as it did. -/
def deathKeepsSpec : ChangeSpec := { name := "deathKeeps", fn := fun _ => fun
  | [d1, d2, d3] => { results := [.lit (.bool true)], args := [d1, d2, d3] }
  | _ => none }
def deathKeepsRow : OpenClaim := { program := "ytlacidecomflkaa", sum := "6bd0af2e9c947c94245d4b15046996327442f401aa93f7ba97a9ba6b9d39f1be", func := "handfast/handfastlaw23.DeathKeeps", spec := "deathKeeps", unfollowed := true, recurses := true, apart := false }
def DeathKeepsSaid : Prop := deathKeepsRow.holds Try.pinned (OpenSpec.ofChange deathKeepsSpec)

/-- ITS FALSE NEIGHBOUR: 'it returns false'. Refute it at one input. -/
def deathKeepsWrong : ChangeSpec := { name := "deathKeeps", fn := fun _ => fun
  | [d1, d2, d3] => { results := [.lit (.bool false)], args := [d1, d2, d3] }
  | _ => none }
def DeathKeepsWrongFalsely : Prop := deathKeepsRow.holds Try.pinned (OpenSpec.ofChange deathKeepsWrong)

/-- 'handfastlaw23.DeathLate': WHATEVER THE INPUT: true; the input reads as it did. -/
def deathLateSpec : ChangeSpec := { name := "deathLate", fn := fun _ => fun
  | [d1, d2, d3, d4, d5] => { results := [.lit (.bool true)], args := [d1, d2, d3, d4, d5] }
  | _ => none }
def deathLateRow : OpenClaim := { program := "ytlacidecomflkaa", sum := "6bd0af2e9c947c94245d4b15046996327442f401aa93f7ba97a9ba6b9d39f1be", func := "handfast/handfastlaw23.DeathLate", spec := "deathLate", unfollowed := true, recurses := true, apart := false }
def DeathLateSaid : Prop := deathLateRow.holds Try.pinned (OpenSpec.ofChange deathLateSpec)

/-- ITS FALSE NEIGHBOUR: 'it returns false'. Refute it at one input. -/
def deathLateWrong : ChangeSpec := { name := "deathLate", fn := fun _ => fun
  | [d1, d2, d3, d4, d5] => { results := [.lit (.bool false)], args := [d1, d2, d3, d4, d5] }
  | _ => none }
def DeathLateWrongFalsely : Prop := deathLateRow.holds Try.pinned (OpenSpec.ofChange deathLateWrong)

/-- 'handfastlaw23.DeathAll': WHATEVER THE INPUT: true; the input reads as it did. -/
def deathAllSpec : ChangeSpec := { name := "deathAll", fn := fun _ => fun
  | [d1, d2, d3] => { results := [.lit (.bool true)], args := [d1, d2, d3] }
  | _ => none }
def deathAllRow : OpenClaim := { program := "ytlacidecomflkaa", sum := "6bd0af2e9c947c94245d4b15046996327442f401aa93f7ba97a9ba6b9d39f1be", func := "handfast/handfastlaw23.DeathAll", spec := "deathAll", unfollowed := true, recurses := true, apart := false }
def DeathAllSaid : Prop := deathAllRow.holds Try.pinned (OpenSpec.ofChange deathAllSpec)

/-- ITS FALSE NEIGHBOUR: 'it returns false'. Refute it at one input. -/
def deathAllWrong : ChangeSpec := { name := "deathAll", fn := fun _ => fun
  | [d1, d2, d3] => { results := [.lit (.bool false)], args := [d1, d2, d3] }
  | _ => none }
def DeathAllWrongFalsely : Prop := deathAllRow.holds Try.pinned (OpenSpec.ofChange deathAllWrong)

/-- 'handfastlaw23.DeathOwners': WHATEVER THE INPUT: true; the input reads as it did. -/
def deathOwnersSpec : ChangeSpec := { name := "deathOwners", fn := fun _ => fun
  | [d1, d2] => { results := [.lit (.bool true)], args := [d1, d2] }
  | _ => none }
def deathOwnersRow : OpenClaim := { program := "ytlacidecomflkaa", sum := "6bd0af2e9c947c94245d4b15046996327442f401aa93f7ba97a9ba6b9d39f1be", func := "handfast/handfastlaw23.DeathOwners", spec := "deathOwners", unfollowed := true, recurses := true, apart := false }
def DeathOwnersSaid : Prop := deathOwnersRow.holds Try.pinned (OpenSpec.ofChange deathOwnersSpec)

/-- ITS FALSE NEIGHBOUR: 'it returns false'. Refute it at one input. -/
def deathOwnersWrong : ChangeSpec := { name := "deathOwners", fn := fun _ => fun
  | [d1, d2] => { results := [.lit (.bool false)], args := [d1, d2] }
  | _ => none }
def DeathOwnersWrongFalsely : Prop := deathOwnersRow.holds Try.pinned (OpenSpec.ofChange deathOwnersWrong)

/- THE SECOND FORM. 'bulk': how many values and letters a reading holds, each counted each time it is reached (what is shared counts as often as it is met; a slice's spare places count too). A statement '..UptoSaid' is the law's where the arguments, and the package variables that the reading takes, are together of bulk at most 1048576: NARROWER than '..Said'. Prove '..Said' where nothing that the law and all that it calls make is longer than what came in: it says more and counts as full. Else prove '..UptoSaid'. A law counts once. -/
mutual
def uptoBulk {H : Type} : DataW H → Nat
  | .lit (.string bytes) => bytes.length + 1
  | .lit _ => 1
  | .nil => 1
  | .ptr d => uptoBulk d + 1
  | .slice elems spare => uptoBulkAll elems + uptoBulkAll spare + 1
  | .agg parts => uptoBulkAll parts + 1
  | .iface _ d => uptoBulk d + 1
  | .map entries => uptoBulkEntries entries + 1
  | .held _ => 1
def uptoBulkAll {H : Type} : List (DataW H) → Nat
  | [] => 0
  | d :: r => uptoBulk d + uptoBulkAll r
def uptoBulkEntries {H : Type} : List (Lit × DataW H) → Nat
  | [] => 0
  | x :: r => uptoBulkEntry x + uptoBulkEntries r
def uptoBulkEntry {H : Type} : Lit × DataW H → Nat
  | (.string bytes, d) => bytes.length + uptoBulk d + 1
  | (_, d) => uptoBulk d + 1
 end
def uptoSmall : (H : Type) → List (DataW H) → Bool := fun _ ds => decide (uptoBulkAll ds ≤ 1048576)
def OpenSpec.upto (s : _root_.Go.ChangeSpec) : _root_.Go.OpenSpec := { _root_.Go.OpenSpec.ofChange s with cond := some uptoSmall }

/-- 'handfastlaw21.PlanTells', WHERE WHAT IT READS IS OF BULK AT MOST 1048576: true; the input reads as it did. -/
def planTellsUptoRow : OpenClaim := { program := "ytlacidecomflkaa", sum := "6bd0af2e9c947c94245d4b15046996327442f401aa93f7ba97a9ba6b9d39f1be", func := "handfast/handfastlaw21.PlanTells", spec := "planTells", unfollowed := true, recurses := true, apart := false, narrowed := true }
def PlanTellsUptoSaid : Prop := planTellsUptoRow.holds Try.pinned (OpenSpec.upto planTellsSpec)

/-- 'handfastlaw21.PlanAdds', WHERE WHAT IT READS IS OF BULK AT MOST 1048576: true; the input reads as it did. -/
def planAddsUptoRow : OpenClaim := { program := "ytlacidecomflkaa", sum := "6bd0af2e9c947c94245d4b15046996327442f401aa93f7ba97a9ba6b9d39f1be", func := "handfast/handfastlaw21.PlanAdds", spec := "planAdds", unfollowed := true, recurses := true, apart := false, narrowed := true }
def PlanAddsUptoSaid : Prop := planAddsUptoRow.holds Try.pinned (OpenSpec.upto planAddsSpec)

/-- 'handfastlaw21.PlanRemoves', WHERE WHAT IT READS IS OF BULK AT MOST 1048576: true; the input reads as it did. -/
def planRemovesUptoRow : OpenClaim := { program := "ytlacidecomflkaa", sum := "6bd0af2e9c947c94245d4b15046996327442f401aa93f7ba97a9ba6b9d39f1be", func := "handfast/handfastlaw21.PlanRemoves", spec := "planRemoves", unfollowed := true, recurses := true, apart := false, narrowed := true }
def PlanRemovesUptoSaid : Prop := planRemovesUptoRow.holds Try.pinned (OpenSpec.upto planRemovesSpec)

/-- 'handfastlaw21.PlanFills', WHERE WHAT IT READS IS OF BULK AT MOST 1048576: true; the input reads as it did. -/
def planFillsUptoRow : OpenClaim := { program := "ytlacidecomflkaa", sum := "6bd0af2e9c947c94245d4b15046996327442f401aa93f7ba97a9ba6b9d39f1be", func := "handfast/handfastlaw21.PlanFills", spec := "planFills", unfollowed := true, recurses := true, apart := false, narrowed := true }
def PlanFillsUptoSaid : Prop := planFillsUptoRow.holds Try.pinned (OpenSpec.upto planFillsSpec)

/-- 'handfastlaw21.PlanLoads', WHERE WHAT IT READS IS OF BULK AT MOST 1048576: true; the input reads as it did. -/
def planLoadsUptoRow : OpenClaim := { program := "ytlacidecomflkaa", sum := "6bd0af2e9c947c94245d4b15046996327442f401aa93f7ba97a9ba6b9d39f1be", func := "handfast/handfastlaw21.PlanLoads", spec := "planLoads", unfollowed := true, recurses := true, apart := false, narrowed := true }
def PlanLoadsUptoSaid : Prop := planLoadsUptoRow.holds Try.pinned (OpenSpec.upto planLoadsSpec)

/-- 'handfastlaw23.DeathKeeps', WHERE WHAT IT READS IS OF BULK AT MOST 1048576: true; the input reads as it did. -/
def deathKeepsUptoRow : OpenClaim := { program := "ytlacidecomflkaa", sum := "6bd0af2e9c947c94245d4b15046996327442f401aa93f7ba97a9ba6b9d39f1be", func := "handfast/handfastlaw23.DeathKeeps", spec := "deathKeeps", unfollowed := true, recurses := true, apart := false, narrowed := true }
def DeathKeepsUptoSaid : Prop := deathKeepsUptoRow.holds Try.pinned (OpenSpec.upto deathKeepsSpec)

/-- 'handfastlaw23.DeathLate', WHERE WHAT IT READS IS OF BULK AT MOST 1048576: true; the input reads as it did. -/
def deathLateUptoRow : OpenClaim := { program := "ytlacidecomflkaa", sum := "6bd0af2e9c947c94245d4b15046996327442f401aa93f7ba97a9ba6b9d39f1be", func := "handfast/handfastlaw23.DeathLate", spec := "deathLate", unfollowed := true, recurses := true, apart := false, narrowed := true }
def DeathLateUptoSaid : Prop := deathLateUptoRow.holds Try.pinned (OpenSpec.upto deathLateSpec)

/-- 'handfastlaw23.DeathAll', WHERE WHAT IT READS IS OF BULK AT MOST 1048576: true; the input reads as it did. -/
def deathAllUptoRow : OpenClaim := { program := "ytlacidecomflkaa", sum := "6bd0af2e9c947c94245d4b15046996327442f401aa93f7ba97a9ba6b9d39f1be", func := "handfast/handfastlaw23.DeathAll", spec := "deathAll", unfollowed := true, recurses := true, apart := false, narrowed := true }
def DeathAllUptoSaid : Prop := deathAllUptoRow.holds Try.pinned (OpenSpec.upto deathAllSpec)

/-- 'handfastlaw23.DeathOwners', WHERE WHAT IT READS IS OF BULK AT MOST 1048576: true; the input reads as it did. -/
def deathOwnersUptoRow : OpenClaim := { program := "ytlacidecomflkaa", sum := "6bd0af2e9c947c94245d4b15046996327442f401aa93f7ba97a9ba6b9d39f1be", func := "handfast/handfastlaw23.DeathOwners", spec := "deathOwners", unfollowed := true, recurses := true, apart := false, narrowed := true }
def DeathOwnersUptoSaid : Prop := deathOwnersUptoRow.holds Try.pinned (OpenSpec.upto deathOwnersSpec)

end Rows
end Go.Proofs.Ytlacidecomflkaa
