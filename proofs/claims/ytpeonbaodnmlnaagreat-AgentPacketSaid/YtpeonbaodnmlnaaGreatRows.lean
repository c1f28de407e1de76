/-
  No cell of these rows narrows 'for every input' (looked for: loops, veiled, ifaces, maps, wideKeys, modest, calm, conditions, laid).
  DERIVED. THE GIVEN ROWS OF THIS SEAT. 5 by the template 'for every input the law returns true; each argument reads behind the call as it read before'; 0 by the template 'total and deterministic' (their statements: YtpeonbaodnmlnaaGreatTotals.lean).
  GIVEN WITH THE SEED: the statements are not yours to turn. If you find one false, say at which input.
  Laid BY PROGRAM, IN A SANDBOX (cutbox-rows.mjs): the forced cells as the released guide's own fill.sh prints them over the translation aaaef43d6b00555c… (all of the seat's roots in one cut). By AI agents, Wed Nov 11 2026. No macro, syntax, notation, axiom, sorry.
-/
import Derived.Test.YtpeonbaodnmlnaaGreatChecked
import GoSem.Claim
import GoSem.ClaimJoined
import GoSem.ClaimMapViews
import Derived.JoinedTies
import Derived.KernelRfl
namespace Go.Proofs.YtpeonbaodnmlnaaGreat
/- THE CELL 'sum', in the pinned program and in every row, IS THE sha256 OF THE DUMP (.gsa) THAT YtpeonbaodnmlnaaGreatProg.lean LOADS. Nothing in Lean hashes anything: it is a label: what it is worth is what the hold of that sum in a sandbox is worth. -/
noncomputable def Tryz.pinned : Pinned := { name := "ytpeonbaodnmlnaagreat", sum := "aaaef43d6b00555c41b8bfdf5ebbe44368026bd5a90f72ba3731975777a1c50a", checked := Tryz.checked }
namespace Rows
def none {H : Type} : Left H := { results := [], args := [] }

/-- 'handfastlaw18.AgentTells': WHATEVER THE INPUT: true; the input reads as it did. -/
def agentTellsSpec : ChangeSpec := { name := "agentTells", fn := fun _ => fun
  | [d1, d2, d3, d4, d5, d6, d7] => { results := [.lit (.bool true)], args := [d1, d2, d3, d4, d5, d6, d7] }
  | _ => none }
def agentTellsRow : OpenClaim := { program := "ytpeonbaodnmlnaagreat", sum := "aaaef43d6b00555c41b8bfdf5ebbe44368026bd5a90f72ba3731975777a1c50a", func := "handfast/handfastlaw18.AgentTells", spec := "agentTells", inPlace := ["slices.overlaps[handfast/api.Conn]"], unfollowed := true, recurses := true, plainKeys := false, apart := false }
def AgentTellsSaid : Prop := agentTellsRow.holds Tryz.pinned (OpenSpec.ofChange agentTellsSpec)

/-- ITS FALSE NEIGHBOUR: 'it returns false'. Refute it at one input. -/
def agentTellsWrong : ChangeSpec := { name := "agentTells", fn := fun _ => fun
  | [d1, d2, d3, d4, d5, d6, d7] => { results := [.lit (.bool false)], args := [d1, d2, d3, d4, d5, d6, d7] }
  | _ => none }
def AgentTellsWrongFalsely : Prop := agentTellsRow.holds Tryz.pinned (OpenSpec.ofChange agentTellsWrong)

/-- 'handfastlaw18.AgentOne': WHATEVER THE INPUT: true; the input reads as it did. -/
def agentOneSpec : ChangeSpec := { name := "agentOne", fn := fun _ => fun
  | [d1, d2] => { results := [.lit (.bool true)], args := [d1, d2] }
  | _ => none }
def agentOneRow : OpenClaim := { program := "ytpeonbaodnmlnaagreat", sum := "aaaef43d6b00555c41b8bfdf5ebbe44368026bd5a90f72ba3731975777a1c50a", func := "handfast/handfastlaw18.AgentOne", spec := "agentOne", inPlace := ["slices.overlaps[handfast/api.Conn]"], unfollowed := true, recurses := true, plainKeys := false, apart := false }
def AgentOneSaid : Prop := agentOneRow.holds Tryz.pinned (OpenSpec.ofChange agentOneSpec)

/-- ITS FALSE NEIGHBOUR: 'it returns false'. Refute it at one input. -/
def agentOneWrong : ChangeSpec := { name := "agentOne", fn := fun _ => fun
  | [d1, d2] => { results := [.lit (.bool false)], args := [d1, d2] }
  | _ => none }
def AgentOneWrongFalsely : Prop := agentOneRow.holds Tryz.pinned (OpenSpec.ofChange agentOneWrong)

/-- 'handfastlaw18.AgentPacket': WHATEVER THE INPUT: true; the input reads as it did. -/
def agentPacketSpec : ChangeSpec := { name := "agentPacket", fn := fun _ => fun
  | [d1, d2, d3] => { results := [.lit (.bool true)], args := [d1, d2, d3] }
  | _ => none }
def agentPacketRow : OpenClaim := { program := "ytpeonbaodnmlnaagreat", sum := "aaaef43d6b00555c41b8bfdf5ebbe44368026bd5a90f72ba3731975777a1c50a", func := "handfast/handfastlaw18.AgentPacket", spec := "agentPacket", inPlace := ["slices.overlaps[handfast/api.Conn]"], unfollowed := true, recurses := true, plainKeys := false, apart := false }
def AgentPacketSaid : Prop := agentPacketRow.holds Tryz.pinned (OpenSpec.ofChange agentPacketSpec)

/-- ITS FALSE NEIGHBOUR: 'it returns false'. Refute it at one input. -/
def agentPacketWrong : ChangeSpec := { name := "agentPacket", fn := fun _ => fun
  | [d1, d2, d3] => { results := [.lit (.bool false)], args := [d1, d2, d3] }
  | _ => none }
def AgentPacketWrongFalsely : Prop := agentPacketRow.holds Tryz.pinned (OpenSpec.ofChange agentPacketWrong)

/-- 'handfastlaw18.AgentTold': WHATEVER THE INPUT: true; the input reads as it did. -/
def agentToldSpec : ChangeSpec := { name := "agentTold", fn := fun _ => fun
  | [d1, d2] => { results := [.lit (.bool true)], args := [d1, d2] }
  | _ => none }
def agentToldRow : OpenClaim := { program := "ytpeonbaodnmlnaagreat", sum := "aaaef43d6b00555c41b8bfdf5ebbe44368026bd5a90f72ba3731975777a1c50a", func := "handfast/handfastlaw18.AgentTold", spec := "agentTold", inPlace := ["slices.overlaps[handfast/api.Conn]"], unfollowed := true, recurses := true, plainKeys := false, apart := false }
def AgentToldSaid : Prop := agentToldRow.holds Tryz.pinned (OpenSpec.ofChange agentToldSpec)

/-- ITS FALSE NEIGHBOUR: 'it returns false'. Refute it at one input. -/
def agentToldWrong : ChangeSpec := { name := "agentTold", fn := fun _ => fun
  | [d1, d2] => { results := [.lit (.bool false)], args := [d1, d2] }
  | _ => none }
def AgentToldWrongFalsely : Prop := agentToldRow.holds Tryz.pinned (OpenSpec.ofChange agentToldWrong)

/-- 'handfastlaw18.AgentIdle': WHATEVER THE INPUT: true; the input reads as it did. -/
def agentIdleSpec : ChangeSpec := { name := "agentIdle", fn := fun _ => fun
  | [d1, d2] => { results := [.lit (.bool true)], args := [d1, d2] }
  | _ => none }
def agentIdleRow : OpenClaim := { program := "ytpeonbaodnmlnaagreat", sum := "aaaef43d6b00555c41b8bfdf5ebbe44368026bd5a90f72ba3731975777a1c50a", func := "handfast/handfastlaw18.AgentIdle", spec := "agentIdle", inPlace := ["slices.overlaps[handfast/api.Conn]"], unfollowed := true, recurses := true, plainKeys := false, apart := false }
def AgentIdleSaid : Prop := agentIdleRow.holds Tryz.pinned (OpenSpec.ofChange agentIdleSpec)

/-- ITS FALSE NEIGHBOUR: 'it returns false'. Refute it at one input. -/
def agentIdleWrong : ChangeSpec := { name := "agentIdle", fn := fun _ => fun
  | [d1, d2] => { results := [.lit (.bool false)], args := [d1, d2] }
  | _ => none }
def AgentIdleWrongFalsely : Prop := agentIdleRow.holds Tryz.pinned (OpenSpec.ofChange agentIdleWrong)

/- THE SECOND FORM. 'bulk': how many values and letters a reading holds, each counted each time it is reached (what is shared counts as often as it is met; a slice's spare places count too). A statement '..UptoSaid' is the law's where the arguments, and the package variables that the reading takes, are together of bulk at most 1048576: NARROWER than '..Said'. Prove '..Said' where nothing that the law and all that it calls make is longer than what came in: it says more and counts as full. Else prove '..UptoSaid'. A law counts once. -/
mutual
def uptoBulk {H : Type} : DataW H → Nat
  | .lit (.string bytes) => bytes.length + 1
  | .lit _ => 1
  | .nil => 1
  | .ptr d => uptoBulk d + 1
  | .slice elems spare => uptoBulkAll elems + uptoBulkAll spare + 1
  | .agg parts => uptoBulkAll parts + 1
  | .iface _ d => uptoBulk d + 1
  | .map entries => uptoBulkEntries entries + 1
  | .held _ => 1
def uptoBulkAll {H : Type} : List (DataW H) → Nat
  | [] => 0
  | d :: r => uptoBulk d + uptoBulkAll r
def uptoBulkEntries {H : Type} : List (Lit × DataW H) → Nat
  | [] => 0
  | x :: r => uptoBulkEntry x + uptoBulkEntries r
def uptoBulkEntry {H : Type} : Lit × DataW H → Nat
  | (.string bytes, d) => bytes.length + uptoBulk d + 1
  | (_, d) => uptoBulk d + 1
 end
def uptoSmall : (H : Type) → List (DataW H) → Bool := fun _ ds => decide (uptoBulkAll ds ≤ 1048576)
def OpenSpec.upto (s : _root_.Go.ChangeSpec) : _root_.Go.OpenSpec := { _root_.Go.OpenSpec.ofChange s with cond := some uptoSmall }

/-- 'handfastlaw18.AgentTells', WHERE WHAT IT READS IS OF BULK AT MOST 1048576: true; the input reads as it did. -/
def agentTellsUptoRow : OpenClaim := { program := "ytpeonbaodnmlnaagreat", sum := "aaaef43d6b00555c41b8bfdf5ebbe44368026bd5a90f72ba3731975777a1c50a", func := "handfast/handfastlaw18.AgentTells", spec := "agentTells", inPlace := ["slices.overlaps[handfast/api.Conn]"], unfollowed := true, recurses := true, plainKeys := false, apart := false, narrowed := true }
def AgentTellsUptoSaid : Prop := agentTellsUptoRow.holds Tryz.pinned (OpenSpec.upto agentTellsSpec)

/-- 'handfastlaw18.AgentOne', WHERE WHAT IT READS IS OF BULK AT MOST 1048576: true; the input reads as it did. -/
def agentOneUptoRow : OpenClaim := { program := "ytpeonbaodnmlnaagreat", sum := "aaaef43d6b00555c41b8bfdf5ebbe44368026bd5a90f72ba3731975777a1c50a", func := "handfast/handfastlaw18.AgentOne", spec := "agentOne", inPlace := ["slices.overlaps[handfast/api.Conn]"], unfollowed := true, recurses := true, plainKeys := false, apart := false, narrowed := true }
def AgentOneUptoSaid : Prop := agentOneUptoRow.holds Tryz.pinned (OpenSpec.upto agentOneSpec)

/-- 'handfastlaw18.AgentPacket', WHERE WHAT IT READS IS OF BULK AT MOST 1048576: true; the input reads as it did. -/
def agentPacketUptoRow : OpenClaim := { program := "ytpeonbaodnmlnaagreat", sum := "aaaef43d6b00555c41b8bfdf5ebbe44368026bd5a90f72ba3731975777a1c50a", func := "handfast/handfastlaw18.AgentPacket", spec := "agentPacket", inPlace := ["slices.overlaps[handfast/api.Conn]"], unfollowed := true, recurses := true, plainKeys := false, apart := false, narrowed := true }
def AgentPacketUptoSaid : Prop := agentPacketUptoRow.holds Tryz.pinned (OpenSpec.upto agentPacketSpec)

/-- 'handfastlaw18.AgentTold', WHERE WHAT IT READS IS OF BULK AT MOST 1048576: true; the input reads as it did. -/
def agentToldUptoRow : OpenClaim := { program := "ytpeonbaodnmlnaagreat", sum := "aaaef43d6b00555c41b8bfdf5ebbe44368026bd5a90f72ba3731975777a1c50a", func := "handfast/handfastlaw18.AgentTold", spec := "agentTold", inPlace := ["slices.overlaps[handfast/api.Conn]"], unfollowed := true, recurses := true, plainKeys := false, apart := false, narrowed := true }
def AgentToldUptoSaid : Prop := agentToldUptoRow.holds Tryz.pinned (OpenSpec.upto agentToldSpec)

/-- 'handfastlaw18.AgentIdle', WHERE WHAT IT READS IS OF BULK AT MOST 1048576: true; the input reads as it did. -/
def agentIdleUptoRow : OpenClaim := { program := "ytpeonbaodnmlnaagreat", sum := "aaaef43d6b00555c41b8bfdf5ebbe44368026bd5a90f72ba3731975777a1c50a", func := "handfast/handfastlaw18.AgentIdle", spec := "agentIdle", inPlace := ["slices.overlaps[handfast/api.Conn]"], unfollowed := true, recurses := true, plainKeys := false, apart := false, narrowed := true }
def AgentIdleUptoSaid : Prop := agentIdleUptoRow.holds Tryz.pinned (OpenSpec.upto agentIdleSpec)

end Rows
end Go.Proofs.YtpeonbaodnmlnaaGreat
