/-
  No cell of these rows narrows 'for every input' (looked for: loops, veiled, ifaces, maps, wideKeys, modest, calm, conditions, laid).
  DERIVED. THE GIVEN ROWS OF THIS SEAT. 10 by the template 'for every input the law returns true; each argument reads behind the call as it read before'; 0 by the template 'total and deterministic' (their statements: YtookffaojlkfaaaTotals.lean).
  GIVEN WITH THE SEED: the statements are not yours to turn. If you find one false, say at which input.
  Laid BY PROGRAM, IN A SANDBOX (cutbox-rows.mjs): the forced cells as the released guide's own fill.sh prints them over the translation b2ed883ddad96499… (all of the seat's roots in one cut). By AI agents, Wed Nov 11 2026. No macro, syntax, notation, axiom, sorry.
-/
import Derived.Test.YtookffaojlkfaaaChecked
import GoSem.Claim
import GoSem.ClaimJoined
import GoSem.ClaimMapViews
import Derived.JoinedTies
import Derived.KernelRfl
namespace Go.Proofs.Ytookffaojlkfaaa
/- THE CELL 'sum', in the pinned program and in every row, IS THE sha256 OF THE DUMP (.gsa) THAT YtookffaojlkfaaaProg.lean LOADS. Nothing in Lean hashes anything: it is a label: what it is worth is what the hold of that sum in a sandbox is worth. -/
noncomputable def Try.pinned : Pinned := { name := "ytookffaojlkfaaa", sum := "b2ed883ddad96499f6c48c7a343a813d7437f52feae98f72e67b82ddc3c2e6ec", checked := Try.checked }
namespace Rows
def none {H : Type} : Left H := { results := [], args := [] }

/-- 'handfastlaw15.ConnsTells': WHATEVER THE INPUT: true; the input reads as it did. -/
def connsTellsSpec : ChangeSpec := { name := "connsTells", fn := fun _ => fun
  | [d1, d2, d3, d4, d5] => { results := [.lit (.bool true)], args := [d1, d2, d3, d4, d5] }
  | _ => none }
def connsTellsRow : OpenClaim := { program := "ytookffaojlkfaaa", sum := "b2ed883ddad96499f6c48c7a343a813d7437f52feae98f72e67b82ddc3c2e6ec", func := "handfast/handfastlaw15.ConnsTells", spec := "connsTells", inPlace := ["slices.overlaps[handfast/api.Conn]"], unfollowed := true, recurses := true, apart := false }
def ConnsTellsSaid : Prop := connsTellsRow.holds Try.pinned (OpenSpec.ofChange connsTellsSpec)

/-- ITS FALSE NEIGHBOUR: 'it returns false'. Refute it at one input. -/
def connsTellsWrong : ChangeSpec := { name := "connsTells", fn := fun _ => fun
  | [d1, d2, d3, d4, d5] => { results := [.lit (.bool false)], args := [d1, d2, d3, d4, d5] }
  | _ => none }
def ConnsTellsWrongFalsely : Prop := connsTellsRow.holds Try.pinned (OpenSpec.ofChange connsTellsWrong)

/-- 'handfastlaw15.ConnsAdds': WHATEVER THE INPUT: true; the input reads as it did. -/
def connsAddsSpec : ChangeSpec := { name := "connsAdds", fn := fun _ => fun
  | [d1, d2, d3] => { results := [.lit (.bool true)], args := [d1, d2, d3] }
  | _ => none }
def connsAddsRow : OpenClaim := { program := "ytookffaojlkfaaa", sum := "b2ed883ddad96499f6c48c7a343a813d7437f52feae98f72e67b82ddc3c2e6ec", func := "handfast/handfastlaw15.ConnsAdds", spec := "connsAdds", inPlace := ["slices.overlaps[handfast/api.Conn]"], unfollowed := true, recurses := true, apart := false }
def ConnsAddsSaid : Prop := connsAddsRow.holds Try.pinned (OpenSpec.ofChange connsAddsSpec)

/-- ITS FALSE NEIGHBOUR: 'it returns false'. Refute it at one input. -/
def connsAddsWrong : ChangeSpec := { name := "connsAdds", fn := fun _ => fun
  | [d1, d2, d3] => { results := [.lit (.bool false)], args := [d1, d2, d3] }
  | _ => none }
def ConnsAddsWrongFalsely : Prop := connsAddsRow.holds Try.pinned (OpenSpec.ofChange connsAddsWrong)

/-- 'handfastlaw15.ConnsTouch': WHATEVER THE INPUT: true; the input reads as it did. -/
def connsTouchSpec : ChangeSpec := { name := "connsTouch", fn := fun _ => fun
  | [d1, d2, d3, d4] => { results := [.lit (.bool true)], args := [d1, d2, d3, d4] }
  | _ => none }
def connsTouchRow : OpenClaim := { program := "ytookffaojlkfaaa", sum := "b2ed883ddad96499f6c48c7a343a813d7437f52feae98f72e67b82ddc3c2e6ec", func := "handfast/handfastlaw15.ConnsTouch", spec := "connsTouch", inPlace := ["slices.overlaps[handfast/api.Conn]"], unfollowed := true, recurses := true, apart := false }
def ConnsTouchSaid : Prop := connsTouchRow.holds Try.pinned (OpenSpec.ofChange connsTouchSpec)

/-- ITS FALSE NEIGHBOUR: 'it returns false'. Refute it at one input. -/
def connsTouchWrong : ChangeSpec := { name := "connsTouch", fn := fun _ => fun
  | [d1, d2, d3, d4] => { results := [.lit (.bool false)], args := [d1, d2, d3, d4] }
  | _ => none }
def ConnsTouchWrongFalsely : Prop := connsTouchRow.holds Try.pinned (OpenSpec.ofChange connsTouchWrong)

/-- 'handfastlaw15.ConnsParts': WHATEVER THE INPUT: true; the input reads as it did. -/
def connsPartsSpec : ChangeSpec := { name := "connsParts", fn := fun _ => fun
  | [d1, d2, d3, d4, d5] => { results := [.lit (.bool true)], args := [d1, d2, d3, d4, d5] }
  | _ => none }
def connsPartsRow : OpenClaim := { program := "ytookffaojlkfaaa", sum := "b2ed883ddad96499f6c48c7a343a813d7437f52feae98f72e67b82ddc3c2e6ec", func := "handfast/handfastlaw15.ConnsParts", spec := "connsParts", inPlace := ["slices.overlaps[handfast/api.Conn]"], unfollowed := true, recurses := true, apart := false }
def ConnsPartsSaid : Prop := connsPartsRow.holds Try.pinned (OpenSpec.ofChange connsPartsSpec)

/-- ITS FALSE NEIGHBOUR: 'it returns false'. Refute it at one input. -/
def connsPartsWrong : ChangeSpec := { name := "connsParts", fn := fun _ => fun
  | [d1, d2, d3, d4, d5] => { results := [.lit (.bool false)], args := [d1, d2, d3, d4, d5] }
  | _ => none }
def ConnsPartsWrongFalsely : Prop := connsPartsRow.holds Try.pinned (OpenSpec.ofChange connsPartsWrong)

/-- 'handfastlaw15.ConnsOwn': WHATEVER THE INPUT: true; the input reads as it did. -/
def connsOwnSpec : ChangeSpec := { name := "connsOwn", fn := fun _ => fun
  | [d1, d2, d3, d4] => { results := [.lit (.bool true)], args := [d1, d2, d3, d4] }
  | _ => none }
def connsOwnRow : OpenClaim := { program := "ytookffaojlkfaaa", sum := "b2ed883ddad96499f6c48c7a343a813d7437f52feae98f72e67b82ddc3c2e6ec", func := "handfast/handfastlaw15.ConnsOwn", spec := "connsOwn", inPlace := ["slices.overlaps[handfast/api.Conn]"], unfollowed := true, recurses := true, apart := false }
def ConnsOwnSaid : Prop := connsOwnRow.holds Try.pinned (OpenSpec.ofChange connsOwnSpec)

/-- ITS FALSE NEIGHBOUR: 'it returns false'. Refute it at one input. -/
def connsOwnWrong : ChangeSpec := { name := "connsOwn", fn := fun _ => fun
  | [d1, d2, d3, d4] => { results := [.lit (.bool false)], args := [d1, d2, d3, d4] }
  | _ => none }
def ConnsOwnWrongFalsely : Prop := connsOwnRow.holds Try.pinned (OpenSpec.ofChange connsOwnWrong)

/-- 'handfastlaw26.IdealTells': WHATEVER THE INPUT: true; the input reads as it did. -/
def idealTellsSpec : ChangeSpec := { name := "idealTells", fn := fun _ => fun
  | [d1, d2, d3, d4, d5, d6] => { results := [.lit (.bool true)], args := [d1, d2, d3, d4, d5, d6] }
  | _ => none }
def idealTellsRow : OpenClaim := { program := "ytookffaojlkfaaa", sum := "b2ed883ddad96499f6c48c7a343a813d7437f52feae98f72e67b82ddc3c2e6ec", func := "handfast/handfastlaw26.IdealTells", spec := "idealTells", inPlace := ["slices.overlaps[handfast/api.Holder]"], unfollowed := true, recurses := true, apart := false }
def IdealTellsSaid : Prop := idealTellsRow.holds Try.pinned (OpenSpec.ofChange idealTellsSpec)

/-- ITS FALSE NEIGHBOUR: 'it returns false'. Refute it at one input. -/
def idealTellsWrong : ChangeSpec := { name := "idealTells", fn := fun _ => fun
  | [d1, d2, d3, d4, d5, d6] => { results := [.lit (.bool false)], args := [d1, d2, d3, d4, d5, d6] }
  | _ => none }
def IdealTellsWrongFalsely : Prop := idealTellsRow.holds Try.pinned (OpenSpec.ofChange idealTellsWrong)

/-- 'handfastlaw26.IdealOne': WHATEVER THE INPUT: true; the input reads as it did. -/
def idealOneSpec : ChangeSpec := { name := "idealOne", fn := fun _ => fun
  | [d1, d2] => { results := [.lit (.bool true)], args := [d1, d2] }
  | _ => none }
def idealOneRow : OpenClaim := { program := "ytookffaojlkfaaa", sum := "b2ed883ddad96499f6c48c7a343a813d7437f52feae98f72e67b82ddc3c2e6ec", func := "handfast/handfastlaw26.IdealOne", spec := "idealOne", inPlace := ["slices.overlaps[handfast/api.Holder]"], unfollowed := true, recurses := true, apart := false }
def IdealOneSaid : Prop := idealOneRow.holds Try.pinned (OpenSpec.ofChange idealOneSpec)

/-- ITS FALSE NEIGHBOUR: 'it returns false'. Refute it at one input. -/
def idealOneWrong : ChangeSpec := { name := "idealOne", fn := fun _ => fun
  | [d1, d2] => { results := [.lit (.bool false)], args := [d1, d2] }
  | _ => none }
def IdealOneWrongFalsely : Prop := idealOneRow.holds Try.pinned (OpenSpec.ofChange idealOneWrong)

/-- 'handfastlaw26.IdealParts': WHATEVER THE INPUT: true; the input reads as it did. -/
def idealPartsSpec : ChangeSpec := { name := "idealParts", fn := fun _ => fun
  | [d1, d2, d3] => { results := [.lit (.bool true)], args := [d1, d2, d3] }
  | _ => none }
def idealPartsRow : OpenClaim := { program := "ytookffaojlkfaaa", sum := "b2ed883ddad96499f6c48c7a343a813d7437f52feae98f72e67b82ddc3c2e6ec", func := "handfast/handfastlaw26.IdealParts", spec := "idealParts", inPlace := ["slices.overlaps[handfast/api.Holder]"], unfollowed := true, recurses := true, apart := false }
def IdealPartsSaid : Prop := idealPartsRow.holds Try.pinned (OpenSpec.ofChange idealPartsSpec)

/-- ITS FALSE NEIGHBOUR: 'it returns false'. Refute it at one input. -/
def idealPartsWrong : ChangeSpec := { name := "idealParts", fn := fun _ => fun
  | [d1, d2, d3] => { results := [.lit (.bool false)], args := [d1, d2, d3] }
  | _ => none }
def IdealPartsWrongFalsely : Prop := idealPartsRow.holds Try.pinned (OpenSpec.ofChange idealPartsWrong)

/-- 'handfastlaw26.IdealOf': WHATEVER THE INPUT: true; the input reads as it did. -/
def idealOfSpec : ChangeSpec := { name := "idealOf", fn := fun _ => fun
  | [d1, d2] => { results := [.lit (.bool true)], args := [d1, d2] }
  | _ => none }
def idealOfRow : OpenClaim := { program := "ytookffaojlkfaaa", sum := "b2ed883ddad96499f6c48c7a343a813d7437f52feae98f72e67b82ddc3c2e6ec", func := "handfast/handfastlaw26.IdealOf", spec := "idealOf", inPlace := ["slices.overlaps[handfast/api.Holder]"], unfollowed := true, recurses := true, apart := false }
def IdealOfSaid : Prop := idealOfRow.holds Try.pinned (OpenSpec.ofChange idealOfSpec)

/-- ITS FALSE NEIGHBOUR: 'it returns false'. Refute it at one input. -/
def idealOfWrong : ChangeSpec := { name := "idealOf", fn := fun _ => fun
  | [d1, d2] => { results := [.lit (.bool false)], args := [d1, d2] }
  | _ => none }
def IdealOfWrongFalsely : Prop := idealOfRow.holds Try.pinned (OpenSpec.ofChange idealOfWrong)

/-- 'handfastlaw26.IdealOwn': WHATEVER THE INPUT: true; the input reads as it did. -/
def idealOwnSpec : ChangeSpec := { name := "idealOwn", fn := fun _ => fun
  | [d1, d2] => { results := [.lit (.bool true)], args := [d1, d2] }
  | _ => none }
def idealOwnRow : OpenClaim := { program := "ytookffaojlkfaaa", sum := "b2ed883ddad96499f6c48c7a343a813d7437f52feae98f72e67b82ddc3c2e6ec", func := "handfast/handfastlaw26.IdealOwn", spec := "idealOwn", inPlace := ["slices.overlaps[handfast/api.Holder]"], unfollowed := true, recurses := true, apart := false }
def IdealOwnSaid : Prop := idealOwnRow.holds Try.pinned (OpenSpec.ofChange idealOwnSpec)

/-- ITS FALSE NEIGHBOUR: 'it returns false'. Refute it at one input. -/
def idealOwnWrong : ChangeSpec := { name := "idealOwn", fn := fun _ => fun
  | [d1, d2] => { results := [.lit (.bool false)], args := [d1, d2] }
  | _ => none }
def IdealOwnWrongFalsely : Prop := idealOwnRow.holds Try.pinned (OpenSpec.ofChange idealOwnWrong)

/- THE SECOND FORM. 'bulk': how many values and letters a reading holds, each counted each time it is reached (what is shared counts as often as it is met; a slice's spare places count too). A statement '..UptoSaid' is the law's where the arguments, and the package variables that the reading takes, are together of bulk at most 1048576: NARROWER than '..Said'. Prove '..Said' where nothing that the law and all that it calls make is longer than what came in: it says more and counts as full. Else prove '..UptoSaid'. A law counts once. -/
mutual
def uptoBulk {H : Type} : DataW H → Nat
  | .lit (.string bytes) => bytes.length + 1
  | .lit _ => 1
  | .nil => 1
  | .ptr d => uptoBulk d + 1
  | .slice elems spare => uptoBulkAll elems + uptoBulkAll spare + 1
  | .agg parts => uptoBulkAll parts + 1
  | .iface _ d => uptoBulk d + 1
  | .map entries => uptoBulkEntries entries + 1
  | .held _ => 1
def uptoBulkAll {H : Type} : List (DataW H) → Nat
  | [] => 0
  | d :: r => uptoBulk d + uptoBulkAll r
def uptoBulkEntries {H : Type} : List (Lit × DataW H) → Nat
  | [] => 0
  | x :: r => uptoBulkEntry x + uptoBulkEntries r
def uptoBulkEntry {H : Type} : Lit × DataW H → Nat
  | (.string bytes, d) => bytes.length + uptoBulk d + 1
  | (_, d) => uptoBulk d + 1
 end
def uptoSmall : (H : Type) → List (DataW H) → Bool := fun _ ds => decide (uptoBulkAll ds ≤ 1048576)
def OpenSpec.upto (s : _root_.Go.ChangeSpec) : _root_.Go.OpenSpec := { _root_.Go.OpenSpec.ofChange s with cond := some uptoSmall }

/-- 'handfastlaw15.ConnsTells', WHERE WHAT IT READS IS OF BULK AT MOST 1048576: true; the input reads as it did. -/
def connsTellsUptoRow : OpenClaim := { program := "ytookffaojlkfaaa", sum := "b2ed883ddad96499f6c48c7a343a813d7437f52feae98f72e67b82ddc3c2e6ec", func := "handfast/handfastlaw15.ConnsTells", spec := "connsTells", inPlace := ["slices.overlaps[handfast/api.Conn]"], unfollowed := true, recurses := true, apart := false, narrowed := true }
def ConnsTellsUptoSaid : Prop := connsTellsUptoRow.holds Try.pinned (OpenSpec.upto connsTellsSpec)

/-- 'handfastlaw15.ConnsAdds', WHERE WHAT IT READS IS OF BULK AT MOST 1048576: true; the input reads as it did. -/
def connsAddsUptoRow : OpenClaim := { program := "ytookffaojlkfaaa", sum := "b2ed883ddad96499f6c48c7a343a813d7437f52feae98f72e67b82ddc3c2e6ec", func := "handfast/handfastlaw15.ConnsAdds", spec := "connsAdds", inPlace := ["slices.overlaps[handfast/api.Conn]"], unfollowed := true, recurses := true, apart := false, narrowed := true }
def ConnsAddsUptoSaid : Prop := connsAddsUptoRow.holds Try.pinned (OpenSpec.upto connsAddsSpec)

/-- 'handfastlaw15.ConnsTouch', WHERE WHAT IT READS IS OF BULK AT MOST 1048576: true; the input reads as it did. -/
def connsTouchUptoRow : OpenClaim := { program := "ytookffaojlkfaaa", sum := "b2ed883ddad96499f6c48c7a343a813d7437f52feae98f72e67b82ddc3c2e6ec", func := "handfast/handfastlaw15.ConnsTouch", spec := "connsTouch", inPlace := ["slices.overlaps[handfast/api.Conn]"], unfollowed := true, recurses := true, apart := false, narrowed := true }
def ConnsTouchUptoSaid : Prop := connsTouchUptoRow.holds Try.pinned (OpenSpec.upto connsTouchSpec)

/-- 'handfastlaw15.ConnsParts', WHERE WHAT IT READS IS OF BULK AT MOST 1048576: true; the input reads as it did. -/
def connsPartsUptoRow : OpenClaim := { program := "ytookffaojlkfaaa", sum := "b2ed883ddad96499f6c48c7a343a813d7437f52feae98f72e67b82ddc3c2e6ec", func := "handfast/handfastlaw15.ConnsParts", spec := "connsParts", inPlace := ["slices.overlaps[handfast/api.Conn]"], unfollowed := true, recurses := true, apart := false, narrowed := true }
def ConnsPartsUptoSaid : Prop := connsPartsUptoRow.holds Try.pinned (OpenSpec.upto connsPartsSpec)

/-- 'handfastlaw15.ConnsOwn', WHERE WHAT IT READS IS OF BULK AT MOST 1048576: true; the input reads as it did. -/
def connsOwnUptoRow : OpenClaim := { program := "ytookffaojlkfaaa", sum := "b2ed883ddad96499f6c48c7a343a813d7437f52feae98f72e67b82ddc3c2e6ec", func := "handfast/handfastlaw15.ConnsOwn", spec := "connsOwn", inPlace := ["slices.overlaps[handfast/api.Conn]"], unfollowed := true, recurses := true, apart := false, narrowed := true }
def ConnsOwnUptoSaid : Prop := connsOwnUptoRow.holds Try.pinned (OpenSpec.upto connsOwnSpec)

/-- 'handfastlaw26.IdealTells', WHERE WHAT IT READS IS OF BULK AT MOST 1048576: true; the input reads as it did. -/
def idealTellsUptoRow : OpenClaim := { program := "ytookffaojlkfaaa", sum := "b2ed883ddad96499f6c48c7a343a813d7437f52feae98f72e67b82ddc3c2e6ec", func := "handfast/handfastlaw26.IdealTells", spec := "idealTells", inPlace := ["slices.overlaps[handfast/api.Holder]"], unfollowed := true, recurses := true, apart := false, narrowed := true }
def IdealTellsUptoSaid : Prop := idealTellsUptoRow.holds Try.pinned (OpenSpec.upto idealTellsSpec)

/-- 'handfastlaw26.IdealOne', WHERE WHAT IT READS IS OF BULK AT MOST 1048576: true; the input reads as it did. -/
def idealOneUptoRow : OpenClaim := { program := "ytookffaojlkfaaa", sum := "b2ed883ddad96499f6c48c7a343a813d7437f52feae98f72e67b82ddc3c2e6ec", func := "handfast/handfastlaw26.IdealOne", spec := "idealOne", inPlace := ["slices.overlaps[handfast/api.Holder]"], unfollowed := true, recurses := true, apart := false, narrowed := true }
def IdealOneUptoSaid : Prop := idealOneUptoRow.holds Try.pinned (OpenSpec.upto idealOneSpec)

/-- 'handfastlaw26.IdealParts', WHERE WHAT IT READS IS OF BULK AT MOST 1048576: true; the input reads as it did. -/
def idealPartsUptoRow : OpenClaim := { program := "ytookffaojlkfaaa", sum := "b2ed883ddad96499f6c48c7a343a813d7437f52feae98f72e67b82ddc3c2e6ec", func := "handfast/handfastlaw26.IdealParts", spec := "idealParts", inPlace := ["slices.overlaps[handfast/api.Holder]"], unfollowed := true, recurses := true, apart := false, narrowed := true }
def IdealPartsUptoSaid : Prop := idealPartsUptoRow.holds Try.pinned (OpenSpec.upto idealPartsSpec)

/-- 'handfastlaw26.IdealOf', WHERE WHAT IT READS IS OF BULK AT MOST 1048576: true; the input reads as it did. -/
def idealOfUptoRow : OpenClaim := { program := "ytookffaojlkfaaa", sum := "b2ed883ddad96499f6c48c7a343a813d7437f52feae98f72e67b82ddc3c2e6ec", func := "handfast/handfastlaw26.IdealOf", spec := "idealOf", inPlace := ["slices.overlaps[handfast/api.Holder]"], unfollowed := true, recurses := true, apart := false, narrowed := true }
def IdealOfUptoSaid : Prop := idealOfUptoRow.holds Try.pinned (OpenSpec.upto idealOfSpec)

/-- 'handfastlaw26.IdealOwn', WHERE WHAT IT READS IS OF BULK AT MOST 1048576: true; the input reads as it did. -/
def idealOwnUptoRow : OpenClaim := { program := "ytookffaojlkfaaa", sum := "b2ed883ddad96499f6c48c7a343a813d7437f52feae98f72e67b82ddc3c2e6ec", func := "handfast/handfastlaw26.IdealOwn", spec := "idealOwn", inPlace := ["slices.overlaps[handfast/api.Holder]"], unfollowed := true, recurses := true, apart := false, narrowed := true }
def IdealOwnUptoSaid : Prop := idealOwnUptoRow.holds Try.pinned (OpenSpec.upto idealOwnSpec)

end Rows
end Go.Proofs.Ytookffaojlkfaaa
