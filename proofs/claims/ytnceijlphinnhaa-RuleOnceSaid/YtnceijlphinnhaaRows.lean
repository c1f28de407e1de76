/-
  No cell of these rows narrows 'for every input' (looked for: loops, veiled, ifaces, maps, wideKeys, modest, calm, conditions, laid).
  DERIVED. THE GIVEN ROWS OF THIS SEAT. 9 by the template 'for every input the law returns true; each argument reads behind the call as it read before'; 0 by the template 'total and deterministic' (their statements: YtnceijlphinnhaaTotals.lean).
  GIVEN WITH THE SEED: the statements are not yours to turn. If you find one false, say at which input.
  Laid BY PROGRAM, IN A SANDBOX (cutbox-rows.mjs): the forced cells as the released guide's own fill.sh prints them over the translation 05bf87ae6fd8ebd6… (all of the seat's roots in one cut). By AI agents, Wed Nov 11 2026. No macro, syntax, notation, axiom, sorry.
-/
import Derived.Test.YtnceijlphinnhaaChecked
import GoSem.Claim
import GoSem.ClaimJoined
import GoSem.ClaimMapViews
import Derived.JoinedTies
import Derived.KernelRfl
namespace Go.Proofs.Ytnceijlphinnhaa
/- THE CELL 'sum', in the pinned program and in every row, IS THE sha256 OF THE DUMP (.gsa) THAT YtnceijlphinnhaaProg.lean LOADS. Nothing in Lean hashes anything: it is a label: what it is worth is what the hold of that sum in a sandbox is worth. -/
noncomputable def Try.pinned : Pinned := { name := "ytnceijlphinnhaa", sum := "05bf87ae6fd8ebd62c9e7562744bc35725d6a8f0a0bf52493dee1eed0fe5daff", checked := Try.checked }
namespace Rows
def none {H : Type} : Left H := { results := [], args := [] }

/-- 'handfastlaw16.ModeTells': WHATEVER THE INPUT: true; the input reads as it did. -/
def modeTellsSpec : ChangeSpec := { name := "modeTells", fn := fun _ => fun
  | [d1, d2, d3] => { results := [.lit (.bool true)], args := [d1, d2, d3] }
  | _ => none }
def modeTellsRow : OpenClaim := { program := "ytnceijlphinnhaa", sum := "05bf87ae6fd8ebd62c9e7562744bc35725d6a8f0a0bf52493dee1eed0fe5daff", func := "handfast/handfastlaw16.ModeTells", spec := "modeTells", unfollowed := true, recurses := true, plainKeys := false, apart := false }
def ModeTellsSaid : Prop := modeTellsRow.holds Try.pinned (OpenSpec.ofChange modeTellsSpec)

/-- ITS FALSE NEIGHBOUR: 'it returns false'. Refute it at one input. -/
def modeTellsWrong : ChangeSpec := { name := "modeTells", fn := fun _ => fun
  | [d1, d2, d3] => { results := [.lit (.bool false)], args := [d1, d2, d3] }
  | _ => none }
def ModeTellsWrongFalsely : Prop := modeTellsRow.holds Try.pinned (OpenSpec.ofChange modeTellsWrong)

/-- 'handfastlaw16.ModeRises': WHATEVER THE INPUT: true; the input reads as it did. -/
def modeRisesSpec : ChangeSpec := { name := "modeRises", fn := fun _ => fun
  | [d1, d2] => { results := [.lit (.bool true)], args := [d1, d2] }
  | _ => none }
def modeRisesRow : OpenClaim := { program := "ytnceijlphinnhaa", sum := "05bf87ae6fd8ebd62c9e7562744bc35725d6a8f0a0bf52493dee1eed0fe5daff", func := "handfast/handfastlaw16.ModeRises", spec := "modeRises", unfollowed := true, recurses := true, plainKeys := false, apart := false }
def ModeRisesSaid : Prop := modeRisesRow.holds Try.pinned (OpenSpec.ofChange modeRisesSpec)

/-- ITS FALSE NEIGHBOUR: 'it returns false'. Refute it at one input. -/
def modeRisesWrong : ChangeSpec := { name := "modeRises", fn := fun _ => fun
  | [d1, d2] => { results := [.lit (.bool false)], args := [d1, d2] }
  | _ => none }
def ModeRisesWrongFalsely : Prop := modeRisesRow.holds Try.pinned (OpenSpec.ofChange modeRisesWrong)

/-- 'handfastlaw16.ModeDrained': WHATEVER THE INPUT: true; the input reads as it did. -/
def modeDrainedSpec : ChangeSpec := { name := "modeDrained", fn := fun _ => fun
  | [d1, d2, d3, d4, d5] => { results := [.lit (.bool true)], args := [d1, d2, d3, d4, d5] }
  | _ => none }
def modeDrainedRow : OpenClaim := { program := "ytnceijlphinnhaa", sum := "05bf87ae6fd8ebd62c9e7562744bc35725d6a8f0a0bf52493dee1eed0fe5daff", func := "handfast/handfastlaw16.ModeDrained", spec := "modeDrained", unfollowed := true, recurses := true, plainKeys := false, apart := false }
def ModeDrainedSaid : Prop := modeDrainedRow.holds Try.pinned (OpenSpec.ofChange modeDrainedSpec)

/-- ITS FALSE NEIGHBOUR: 'it returns false'. Refute it at one input. -/
def modeDrainedWrong : ChangeSpec := { name := "modeDrained", fn := fun _ => fun
  | [d1, d2, d3, d4, d5] => { results := [.lit (.bool false)], args := [d1, d2, d3, d4, d5] }
  | _ => none }
def ModeDrainedWrongFalsely : Prop := modeDrainedRow.holds Try.pinned (OpenSpec.ofChange modeDrainedWrong)

/-- 'handfastlaw16.ModeGrants': WHATEVER THE INPUT: true; the input reads as it did. -/
def modeGrantsSpec : ChangeSpec := { name := "modeGrants", fn := fun _ => fun
  | [d1, d2, d3, d4] => { results := [.lit (.bool true)], args := [d1, d2, d3, d4] }
  | _ => none }
def modeGrantsRow : OpenClaim := { program := "ytnceijlphinnhaa", sum := "05bf87ae6fd8ebd62c9e7562744bc35725d6a8f0a0bf52493dee1eed0fe5daff", func := "handfast/handfastlaw16.ModeGrants", spec := "modeGrants", unfollowed := true, recurses := true, plainKeys := false, apart := false }
def ModeGrantsSaid : Prop := modeGrantsRow.holds Try.pinned (OpenSpec.ofChange modeGrantsSpec)

/-- ITS FALSE NEIGHBOUR: 'it returns false'. Refute it at one input. -/
def modeGrantsWrong : ChangeSpec := { name := "modeGrants", fn := fun _ => fun
  | [d1, d2, d3, d4] => { results := [.lit (.bool false)], args := [d1, d2, d3, d4] }
  | _ => none }
def ModeGrantsWrongFalsely : Prop := modeGrantsRow.holds Try.pinned (OpenSpec.ofChange modeGrantsWrong)

/-- 'handfastlaw17.RuleTells': WHATEVER THE INPUT: true; the input reads as it did. -/
def ruleTellsSpec : ChangeSpec := { name := "ruleTells", fn := fun _ => fun
  | [d1, d2, d3] => { results := [.lit (.bool true)], args := [d1, d2, d3] }
  | _ => none }
def ruleTellsRow : OpenClaim := { program := "ytnceijlphinnhaa", sum := "05bf87ae6fd8ebd62c9e7562744bc35725d6a8f0a0bf52493dee1eed0fe5daff", func := "handfast/handfastlaw17.RuleTells", spec := "ruleTells", unfollowed := true, recurses := true, plainKeys := false, apart := false }
def RuleTellsSaid : Prop := ruleTellsRow.holds Try.pinned (OpenSpec.ofChange ruleTellsSpec)

/-- ITS FALSE NEIGHBOUR: 'it returns false'. Refute it at one input. -/
def ruleTellsWrong : ChangeSpec := { name := "ruleTells", fn := fun _ => fun
  | [d1, d2, d3] => { results := [.lit (.bool false)], args := [d1, d2, d3] }
  | _ => none }
def RuleTellsWrongFalsely : Prop := ruleTellsRow.holds Try.pinned (OpenSpec.ofChange ruleTellsWrong)

/-- 'handfastlaw17.RuleOnce': WHATEVER THE INPUT: true; the input reads as it did. -/
def ruleOnceSpec : ChangeSpec := { name := "ruleOnce", fn := fun _ => fun
  | [d1, d2, d3, d4] => { results := [.lit (.bool true)], args := [d1, d2, d3, d4] }
  | _ => none }
def ruleOnceRow : OpenClaim := { program := "ytnceijlphinnhaa", sum := "05bf87ae6fd8ebd62c9e7562744bc35725d6a8f0a0bf52493dee1eed0fe5daff", func := "handfast/handfastlaw17.RuleOnce", spec := "ruleOnce", unfollowed := true, recurses := true, plainKeys := false, apart := false }
def RuleOnceSaid : Prop := ruleOnceRow.holds Try.pinned (OpenSpec.ofChange ruleOnceSpec)

/-- ITS FALSE NEIGHBOUR: 'it returns false'. Refute it at one input. -/
def ruleOnceWrong : ChangeSpec := { name := "ruleOnce", fn := fun _ => fun
  | [d1, d2, d3, d4] => { results := [.lit (.bool false)], args := [d1, d2, d3, d4] }
  | _ => none }
def RuleOnceWrongFalsely : Prop := ruleOnceRow.holds Try.pinned (OpenSpec.ofChange ruleOnceWrong)

/-- 'handfastlaw17.RuleAccepts': WHATEVER THE INPUT: true; the input reads as it did. -/
def ruleAcceptsSpec : ChangeSpec := { name := "ruleAccepts", fn := fun _ => fun
  | [d1, d2] => { results := [.lit (.bool true)], args := [d1, d2] }
  | _ => none }
def ruleAcceptsRow : OpenClaim := { program := "ytnceijlphinnhaa", sum := "05bf87ae6fd8ebd62c9e7562744bc35725d6a8f0a0bf52493dee1eed0fe5daff", func := "handfast/handfastlaw17.RuleAccepts", spec := "ruleAccepts", unfollowed := true, recurses := true, plainKeys := false, apart := false }
def RuleAcceptsSaid : Prop := ruleAcceptsRow.holds Try.pinned (OpenSpec.ofChange ruleAcceptsSpec)

/-- ITS FALSE NEIGHBOUR: 'it returns false'. Refute it at one input. -/
def ruleAcceptsWrong : ChangeSpec := { name := "ruleAccepts", fn := fun _ => fun
  | [d1, d2] => { results := [.lit (.bool false)], args := [d1, d2] }
  | _ => none }
def RuleAcceptsWrongFalsely : Prop := ruleAcceptsRow.holds Try.pinned (OpenSpec.ofChange ruleAcceptsWrong)

/-- 'handfastlaw17.RuleStill': WHATEVER THE INPUT: true; the input reads as it did. -/
def ruleStillSpec : ChangeSpec := { name := "ruleStill", fn := fun _ => fun
  | [d1, d2, d3] => { results := [.lit (.bool true)], args := [d1, d2, d3] }
  | _ => none }
def ruleStillRow : OpenClaim := { program := "ytnceijlphinnhaa", sum := "05bf87ae6fd8ebd62c9e7562744bc35725d6a8f0a0bf52493dee1eed0fe5daff", func := "handfast/handfastlaw17.RuleStill", spec := "ruleStill", unfollowed := true, recurses := true, plainKeys := false, apart := false }
def RuleStillSaid : Prop := ruleStillRow.holds Try.pinned (OpenSpec.ofChange ruleStillSpec)

/-- ITS FALSE NEIGHBOUR: 'it returns false'. Refute it at one input. -/
def ruleStillWrong : ChangeSpec := { name := "ruleStill", fn := fun _ => fun
  | [d1, d2, d3] => { results := [.lit (.bool false)], args := [d1, d2, d3] }
  | _ => none }
def RuleStillWrongFalsely : Prop := ruleStillRow.holds Try.pinned (OpenSpec.ofChange ruleStillWrong)

/-- 'handfastlaw17.RuleWords': WHATEVER THE INPUT: true; the input reads as it did. -/
def ruleWordsSpec : ChangeSpec := { name := "ruleWords", fn := fun _ => fun
  | [d1, d2, d3] => { results := [.lit (.bool true)], args := [d1, d2, d3] }
  | _ => none }
def ruleWordsRow : OpenClaim := { program := "ytnceijlphinnhaa", sum := "05bf87ae6fd8ebd62c9e7562744bc35725d6a8f0a0bf52493dee1eed0fe5daff", func := "handfast/handfastlaw17.RuleWords", spec := "ruleWords", unfollowed := true, recurses := true, plainKeys := false, apart := false }
def RuleWordsSaid : Prop := ruleWordsRow.holds Try.pinned (OpenSpec.ofChange ruleWordsSpec)

/-- ITS FALSE NEIGHBOUR: 'it returns false'. Refute it at one input. -/
def ruleWordsWrong : ChangeSpec := { name := "ruleWords", fn := fun _ => fun
  | [d1, d2, d3] => { results := [.lit (.bool false)], args := [d1, d2, d3] }
  | _ => none }
def RuleWordsWrongFalsely : Prop := ruleWordsRow.holds Try.pinned (OpenSpec.ofChange ruleWordsWrong)

/- THE SECOND FORM. 'bulk': how many values and letters a reading holds, each counted each time it is reached (what is shared counts as often as it is met; a slice's spare places count too). A statement '..UptoSaid' is the law's where the arguments, and the package variables that the reading takes, are together of bulk at most 1048576: NARROWER than '..Said'. Prove '..Said' where nothing that the law and all that it calls make is longer than what came in: it says more and counts as full. Else prove '..UptoSaid'. A law counts once. -/
mutual
def uptoBulk {H : Type} : DataW H → Nat
  | .lit (.string bytes) => bytes.length + 1
  | .lit _ => 1
  | .nil => 1
  | .ptr d => uptoBulk d + 1
  | .slice elems spare => uptoBulkAll elems + uptoBulkAll spare + 1
  | .agg parts => uptoBulkAll parts + 1
  | .iface _ d => uptoBulk d + 1
  | .map entries => uptoBulkEntries entries + 1
  | .held _ => 1
def uptoBulkAll {H : Type} : List (DataW H) → Nat
  | [] => 0
  | d :: r => uptoBulk d + uptoBulkAll r
def uptoBulkEntries {H : Type} : List (Lit × DataW H) → Nat
  | [] => 0
  | x :: r => uptoBulkEntry x + uptoBulkEntries r
def uptoBulkEntry {H : Type} : Lit × DataW H → Nat
  | (.string bytes, d) => bytes.length + uptoBulk d + 1
  | (_, d) => uptoBulk d + 1
 end
def uptoSmall : (H : Type) → List (DataW H) → Bool := fun _ ds => decide (uptoBulkAll ds ≤ 1048576)
def OpenSpec.upto (s : _root_.Go.ChangeSpec) : _root_.Go.OpenSpec := { _root_.Go.OpenSpec.ofChange s with cond := some uptoSmall }

/-- 'handfastlaw16.ModeTells', WHERE WHAT IT READS IS OF BULK AT MOST 1048576: true; the input reads as it did. -/
def modeTellsUptoRow : OpenClaim := { program := "ytnceijlphinnhaa", sum := "05bf87ae6fd8ebd62c9e7562744bc35725d6a8f0a0bf52493dee1eed0fe5daff", func := "handfast/handfastlaw16.ModeTells", spec := "modeTells", unfollowed := true, recurses := true, plainKeys := false, apart := false, narrowed := true }
def ModeTellsUptoSaid : Prop := modeTellsUptoRow.holds Try.pinned (OpenSpec.upto modeTellsSpec)

/-- 'handfastlaw16.ModeRises', WHERE WHAT IT READS IS OF BULK AT MOST 1048576: true; the input reads as it did. -/
def modeRisesUptoRow : OpenClaim := { program := "ytnceijlphinnhaa", sum := "05bf87ae6fd8ebd62c9e7562744bc35725d6a8f0a0bf52493dee1eed0fe5daff", func := "handfast/handfastlaw16.ModeRises", spec := "modeRises", unfollowed := true, recurses := true, plainKeys := false, apart := false, narrowed := true }
def ModeRisesUptoSaid : Prop := modeRisesUptoRow.holds Try.pinned (OpenSpec.upto modeRisesSpec)

/-- 'handfastlaw16.ModeDrained', WHERE WHAT IT READS IS OF BULK AT MOST 1048576: true; the input reads as it did. -/
def modeDrainedUptoRow : OpenClaim := { program := "ytnceijlphinnhaa", sum := "05bf87ae6fd8ebd62c9e7562744bc35725d6a8f0a0bf52493dee1eed0fe5daff", func := "handfast/handfastlaw16.ModeDrained", spec := "modeDrained", unfollowed := true, recurses := true, plainKeys := false, apart := false, narrowed := true }
def ModeDrainedUptoSaid : Prop := modeDrainedUptoRow.holds Try.pinned (OpenSpec.upto modeDrainedSpec)

/-- 'handfastlaw16.ModeGrants', WHERE WHAT IT READS IS OF BULK AT MOST 1048576: true; the input reads as it did. -/
def modeGrantsUptoRow : OpenClaim := { program := "ytnceijlphinnhaa", sum := "05bf87ae6fd8ebd62c9e7562744bc35725d6a8f0a0bf52493dee1eed0fe5daff", func := "handfast/handfastlaw16.ModeGrants", spec := "modeGrants", unfollowed := true, recurses := true, plainKeys := false, apart := false, narrowed := true }
def ModeGrantsUptoSaid : Prop := modeGrantsUptoRow.holds Try.pinned (OpenSpec.upto modeGrantsSpec)

/-- 'handfastlaw17.RuleTells', WHERE WHAT IT READS IS OF BULK AT MOST 1048576: true; the input reads as it did. -/
def ruleTellsUptoRow : OpenClaim := { program := "ytnceijlphinnhaa", sum := "05bf87ae6fd8ebd62c9e7562744bc35725d6a8f0a0bf52493dee1eed0fe5daff", func := "handfast/handfastlaw17.RuleTells", spec := "ruleTells", unfollowed := true, recurses := true, plainKeys := false, apart := false, narrowed := true }
def RuleTellsUptoSaid : Prop := ruleTellsUptoRow.holds Try.pinned (OpenSpec.upto ruleTellsSpec)

/-- 'handfastlaw17.RuleOnce', WHERE WHAT IT READS IS OF BULK AT MOST 1048576: true; the input reads as it did. -/
def ruleOnceUptoRow : OpenClaim := { program := "ytnceijlphinnhaa", sum := "05bf87ae6fd8ebd62c9e7562744bc35725d6a8f0a0bf52493dee1eed0fe5daff", func := "handfast/handfastlaw17.RuleOnce", spec := "ruleOnce", unfollowed := true, recurses := true, plainKeys := false, apart := false, narrowed := true }
def RuleOnceUptoSaid : Prop := ruleOnceUptoRow.holds Try.pinned (OpenSpec.upto ruleOnceSpec)

/-- 'handfastlaw17.RuleAccepts', WHERE WHAT IT READS IS OF BULK AT MOST 1048576: true; the input reads as it did. -/
def ruleAcceptsUptoRow : OpenClaim := { program := "ytnceijlphinnhaa", sum := "05bf87ae6fd8ebd62c9e7562744bc35725d6a8f0a0bf52493dee1eed0fe5daff", func := "handfast/handfastlaw17.RuleAccepts", spec := "ruleAccepts", unfollowed := true, recurses := true, plainKeys := false, apart := false, narrowed := true }
def RuleAcceptsUptoSaid : Prop := ruleAcceptsUptoRow.holds Try.pinned (OpenSpec.upto ruleAcceptsSpec)

/-- 'handfastlaw17.RuleStill', WHERE WHAT IT READS IS OF BULK AT MOST 1048576: true; the input reads as it did. -/
def ruleStillUptoRow : OpenClaim := { program := "ytnceijlphinnhaa", sum := "05bf87ae6fd8ebd62c9e7562744bc35725d6a8f0a0bf52493dee1eed0fe5daff", func := "handfast/handfastlaw17.RuleStill", spec := "ruleStill", unfollowed := true, recurses := true, plainKeys := false, apart := false, narrowed := true }
def RuleStillUptoSaid : Prop := ruleStillUptoRow.holds Try.pinned (OpenSpec.upto ruleStillSpec)

/-- 'handfastlaw17.RuleWords', WHERE WHAT IT READS IS OF BULK AT MOST 1048576: true; the input reads as it did. -/
def ruleWordsUptoRow : OpenClaim := { program := "ytnceijlphinnhaa", sum := "05bf87ae6fd8ebd62c9e7562744bc35725d6a8f0a0bf52493dee1eed0fe5daff", func := "handfast/handfastlaw17.RuleWords", spec := "ruleWords", unfollowed := true, recurses := true, plainKeys := false, apart := false, narrowed := true }
def RuleWordsUptoSaid : Prop := ruleWordsUptoRow.holds Try.pinned (OpenSpec.upto ruleWordsSpec)

end Rows
end Go.Proofs.Ytnceijlphinnhaa
