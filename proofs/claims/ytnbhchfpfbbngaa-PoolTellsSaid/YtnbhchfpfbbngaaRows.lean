/-
  No cell of these rows narrows 'for every input' (looked for: loops, veiled, ifaces, maps, wideKeys, modest, calm, conditions, laid).
  DERIVED. THE GIVEN ROWS OF THIS SEAT. 7 by the template 'for every input the law returns true; each argument reads behind the call as it read before'; 0 by the template 'total and deterministic' (their statements: YtnbhchfpfbbngaaTotals.lean).
  GIVEN WITH THE SEED: the statements are not yours to turn. If you find one false, say at which input.
  Laid BY PROGRAM, IN A SANDBOX (cutbox-rows.mjs): the forced cells as the released guide's own fill.sh prints them over the translation 6c83b4e1247e5577… (all of the seat's roots in one cut). By AI agents, Wed Nov 11 2026. No macro, syntax, notation, axiom, sorry.
-/
import Derived.Test.YtnbhchfpfbbngaaChecked
import GoSem.Claim
import GoSem.ClaimJoined
import GoSem.ClaimMapViews
import Derived.JoinedTies
import Derived.KernelRfl
namespace Go.Proofs.Ytnbhchfpfbbngaa
/- THE CELL 'sum', in the pinned program and in every row, IS THE sha256 OF THE DUMP (.gsa) THAT YtnbhchfpfbbngaaProg.lean LOADS. Nothing in Lean hashes anything: it is a label: what it is worth is what the hold of that sum in a sandbox is worth. -/
noncomputable def Try.pinned : Pinned := { name := "ytnbhchfpfbbngaa", sum := "6c83b4e1247e557773da81d3a03bf8a04b55e624f2612e5eea94c9b24d66bd00", checked := Try.checked }
namespace Rows
def none {H : Type} : Left H := { results := [], args := [] }

/-- 'framewardenkeep.BuddyBack': WHATEVER THE INPUT: true; the input reads as it did. -/
def buddyBackSpec : ChangeSpec := { name := "buddyBack", fn := fun _ => fun
  | [d1, d2] => { results := [.lit (.bool true)], args := [d1, d2] }
  | _ => none }
def buddyBackRow : OpenClaim := { program := "ytnbhchfpfbbngaa", sum := "6c83b4e1247e557773da81d3a03bf8a04b55e624f2612e5eea94c9b24d66bd00", func := "framewarden/framewardenkeep.BuddyBack", spec := "buddyBack", unfollowed := true, recurses := true, apart := false }
def BuddyBackSaid : Prop := buddyBackRow.holds Try.pinned (OpenSpec.ofChange buddyBackSpec)

/-- ITS FALSE NEIGHBOUR: 'it returns false'. Refute it at one input. -/
def buddyBackWrong : ChangeSpec := { name := "buddyBack", fn := fun _ => fun
  | [d1, d2] => { results := [.lit (.bool false)], args := [d1, d2] }
  | _ => none }
def BuddyBackWrongFalsely : Prop := buddyBackRow.holds Try.pinned (OpenSpec.ofChange buddyBackWrong)

/-- 'framewardenkeep.BuddyApart': WHATEVER THE INPUT: true; the input reads as it did. -/
def buddyApartSpec : ChangeSpec := { name := "buddyApart", fn := fun _ => fun
  | [d] => { results := [.lit (.bool true)], args := [d] }
  | _ => none }
def buddyApartRow : OpenClaim := { program := "ytnbhchfpfbbngaa", sum := "6c83b4e1247e557773da81d3a03bf8a04b55e624f2612e5eea94c9b24d66bd00", func := "framewarden/framewardenkeep.BuddyApart", spec := "buddyApart", unfollowed := true, recurses := true, apart := false }
def BuddyApartSaid : Prop := buddyApartRow.holds Try.pinned (OpenSpec.ofChange buddyApartSpec)

/-- ITS FALSE NEIGHBOUR: 'it returns false'. Refute it at one input. -/
def buddyApartWrong : ChangeSpec := { name := "buddyApart", fn := fun _ => fun
  | [d] => { results := [.lit (.bool false)], args := [d] }
  | _ => none }
def BuddyApartWrongFalsely : Prop := buddyApartRow.holds Try.pinned (OpenSpec.ofChange buddyApartWrong)

/-- 'framewardenkeep.BuddyOrder': WHATEVER THE INPUT: true; the input reads as it did. -/
def buddyOrderSpec : ChangeSpec := { name := "buddyOrder", fn := fun _ => fun
  | [d1, d2, d3] => { results := [.lit (.bool true)], args := [d1, d2, d3] }
  | _ => none }
def buddyOrderRow : OpenClaim := { program := "ytnbhchfpfbbngaa", sum := "6c83b4e1247e557773da81d3a03bf8a04b55e624f2612e5eea94c9b24d66bd00", func := "framewarden/framewardenkeep.BuddyOrder", spec := "buddyOrder", unfollowed := true, recurses := true, apart := false }
def BuddyOrderSaid : Prop := buddyOrderRow.holds Try.pinned (OpenSpec.ofChange buddyOrderSpec)

/-- ITS FALSE NEIGHBOUR: 'it returns false'. Refute it at one input. -/
def buddyOrderWrong : ChangeSpec := { name := "buddyOrder", fn := fun _ => fun
  | [d1, d2, d3] => { results := [.lit (.bool false)], args := [d1, d2, d3] }
  | _ => none }
def BuddyOrderWrongFalsely : Prop := buddyOrderRow.holds Try.pinned (OpenSpec.ofChange buddyOrderWrong)

/-- 'framewardenlaw.BuddyTells': WHATEVER THE INPUT: true; the input reads as it did. -/
def buddyTellsSpec : ChangeSpec := { name := "buddyTells", fn := fun _ => fun
  | [d1, d2, d3] => { results := [.lit (.bool true)], args := [d1, d2, d3] }
  | _ => none }
def buddyTellsRow : OpenClaim := { program := "ytnbhchfpfbbngaa", sum := "6c83b4e1247e557773da81d3a03bf8a04b55e624f2612e5eea94c9b24d66bd00", func := "framewarden/framewardenlaw.BuddyTells", spec := "buddyTells", unfollowed := true, recurses := true, apart := false }
def BuddyTellsSaid : Prop := buddyTellsRow.holds Try.pinned (OpenSpec.ofChange buddyTellsSpec)

/-- ITS FALSE NEIGHBOUR: 'it returns false'. Refute it at one input. -/
def buddyTellsWrong : ChangeSpec := { name := "buddyTells", fn := fun _ => fun
  | [d1, d2, d3] => { results := [.lit (.bool false)], args := [d1, d2, d3] }
  | _ => none }
def BuddyTellsWrongFalsely : Prop := buddyTellsRow.holds Try.pinned (OpenSpec.ofChange buddyTellsWrong)

/-- 'framewardenkeep.PoolBack': WHATEVER THE INPUT: true; the input reads as it did. -/
def poolBackSpec : ChangeSpec := { name := "poolBack", fn := fun _ => fun
  | [d] => { results := [.lit (.bool true)], args := [d] }
  | _ => none }
def poolBackRow : OpenClaim := { program := "ytnbhchfpfbbngaa", sum := "6c83b4e1247e557773da81d3a03bf8a04b55e624f2612e5eea94c9b24d66bd00", func := "framewarden/framewardenkeep.PoolBack", spec := "poolBack", unfollowed := true, recurses := true, apart := false }
def PoolBackSaid : Prop := poolBackRow.holds Try.pinned (OpenSpec.ofChange poolBackSpec)

/-- ITS FALSE NEIGHBOUR: 'it returns false'. Refute it at one input. -/
def poolBackWrong : ChangeSpec := { name := "poolBack", fn := fun _ => fun
  | [d] => { results := [.lit (.bool false)], args := [d] }
  | _ => none }
def PoolBackWrongFalsely : Prop := poolBackRow.holds Try.pinned (OpenSpec.ofChange poolBackWrong)

/-- 'framewardenkeep.PoolAll': WHATEVER THE INPUT: true; the input reads as it did. -/
def poolAllSpec : ChangeSpec := { name := "poolAll", fn := fun _ => fun
  | [d] => { results := [.lit (.bool true)], args := [d] }
  | _ => none }
def poolAllRow : OpenClaim := { program := "ytnbhchfpfbbngaa", sum := "6c83b4e1247e557773da81d3a03bf8a04b55e624f2612e5eea94c9b24d66bd00", func := "framewarden/framewardenkeep.PoolAll", spec := "poolAll", unfollowed := true, recurses := true, apart := false }
def PoolAllSaid : Prop := poolAllRow.holds Try.pinned (OpenSpec.ofChange poolAllSpec)

/-- ITS FALSE NEIGHBOUR: 'it returns false'. Refute it at one input. -/
def poolAllWrong : ChangeSpec := { name := "poolAll", fn := fun _ => fun
  | [d] => { results := [.lit (.bool false)], args := [d] }
  | _ => none }
def PoolAllWrongFalsely : Prop := poolAllRow.holds Try.pinned (OpenSpec.ofChange poolAllWrong)

/-- 'framewardenlaw.PoolTells': WHATEVER THE INPUT: true; the input reads as it did. -/
def poolTellsSpec : ChangeSpec := { name := "poolTells", fn := fun _ => fun
  | [d1, d2] => { results := [.lit (.bool true)], args := [d1, d2] }
  | _ => none }
def poolTellsRow : OpenClaim := { program := "ytnbhchfpfbbngaa", sum := "6c83b4e1247e557773da81d3a03bf8a04b55e624f2612e5eea94c9b24d66bd00", func := "framewarden/framewardenlaw.PoolTells", spec := "poolTells", unfollowed := true, recurses := true, apart := false }
def PoolTellsSaid : Prop := poolTellsRow.holds Try.pinned (OpenSpec.ofChange poolTellsSpec)

/-- ITS FALSE NEIGHBOUR: 'it returns false'. Refute it at one input. -/
def poolTellsWrong : ChangeSpec := { name := "poolTells", fn := fun _ => fun
  | [d1, d2] => { results := [.lit (.bool false)], args := [d1, d2] }
  | _ => none }
def PoolTellsWrongFalsely : Prop := poolTellsRow.holds Try.pinned (OpenSpec.ofChange poolTellsWrong)

/- THE SECOND FORM. 'bulk': how many values and letters a reading holds, each counted each time it is reached (what is shared counts as often as it is met; a slice's spare places count too). A statement '..UptoSaid' is the law's where the arguments, and the package variables that the reading takes, are together of bulk at most 1048576: NARROWER than '..Said'. Prove '..Said' where nothing that the law and all that it calls make is longer than what came in: it says more and counts as full. Else prove '..UptoSaid'. A law counts once. -/
mutual
def uptoBulk {H : Type} : DataW H → Nat
  | .lit (.string bytes) => bytes.length + 1
  | .lit _ => 1
  | .nil => 1
  | .ptr d => uptoBulk d + 1
  | .slice elems spare => uptoBulkAll elems + uptoBulkAll spare + 1
  | .agg parts => uptoBulkAll parts + 1
  | .iface _ d => uptoBulk d + 1
  | .map entries => uptoBulkEntries entries + 1
  | .held _ => 1
def uptoBulkAll {H : Type} : List (DataW H) → Nat
  | [] => 0
  | d :: r => uptoBulk d + uptoBulkAll r
def uptoBulkEntries {H : Type} : List (Lit × DataW H) → Nat
  | [] => 0
  | x :: r => uptoBulkEntry x + uptoBulkEntries r
def uptoBulkEntry {H : Type} : Lit × DataW H → Nat
  | (.string bytes, d) => bytes.length + uptoBulk d + 1
  | (_, d) => uptoBulk d + 1
 end
def uptoSmall : (H : Type) → List (DataW H) → Bool := fun _ ds => decide (uptoBulkAll ds ≤ 1048576)
def OpenSpec.upto (s : _root_.Go.ChangeSpec) : _root_.Go.OpenSpec := { _root_.Go.OpenSpec.ofChange s with cond := some uptoSmall }

/-- 'framewardenkeep.BuddyBack', WHERE WHAT IT READS IS OF BULK AT MOST 1048576: true; the input reads as it did. -/
def buddyBackUptoRow : OpenClaim := { program := "ytnbhchfpfbbngaa", sum := "6c83b4e1247e557773da81d3a03bf8a04b55e624f2612e5eea94c9b24d66bd00", func := "framewarden/framewardenkeep.BuddyBack", spec := "buddyBack", unfollowed := true, recurses := true, apart := false, narrowed := true }
def BuddyBackUptoSaid : Prop := buddyBackUptoRow.holds Try.pinned (OpenSpec.upto buddyBackSpec)

/-- 'framewardenkeep.BuddyApart', WHERE WHAT IT READS IS OF BULK AT MOST 1048576: true; the input reads as it did. -/
def buddyApartUptoRow : OpenClaim := { program := "ytnbhchfpfbbngaa", sum := "6c83b4e1247e557773da81d3a03bf8a04b55e624f2612e5eea94c9b24d66bd00", func := "framewarden/framewardenkeep.BuddyApart", spec := "buddyApart", unfollowed := true, recurses := true, apart := false, narrowed := true }
def BuddyApartUptoSaid : Prop := buddyApartUptoRow.holds Try.pinned (OpenSpec.upto buddyApartSpec)

/-- 'framewardenkeep.BuddyOrder', WHERE WHAT IT READS IS OF BULK AT MOST 1048576: true; the input reads as it did. -/
def buddyOrderUptoRow : OpenClaim := { program := "ytnbhchfpfbbngaa", sum := "6c83b4e1247e557773da81d3a03bf8a04b55e624f2612e5eea94c9b24d66bd00", func := "framewarden/framewardenkeep.BuddyOrder", spec := "buddyOrder", unfollowed := true, recurses := true, apart := false, narrowed := true }
def BuddyOrderUptoSaid : Prop := buddyOrderUptoRow.holds Try.pinned (OpenSpec.upto buddyOrderSpec)

/-- 'framewardenlaw.BuddyTells', WHERE WHAT IT READS IS OF BULK AT MOST 1048576: true; the input reads as it did. -/
def buddyTellsUptoRow : OpenClaim := { program := "ytnbhchfpfbbngaa", sum := "6c83b4e1247e557773da81d3a03bf8a04b55e624f2612e5eea94c9b24d66bd00", func := "framewarden/framewardenlaw.BuddyTells", spec := "buddyTells", unfollowed := true, recurses := true, apart := false, narrowed := true }
def BuddyTellsUptoSaid : Prop := buddyTellsUptoRow.holds Try.pinned (OpenSpec.upto buddyTellsSpec)

/-- 'framewardenkeep.PoolBack', WHERE WHAT IT READS IS OF BULK AT MOST 1048576: true; the input reads as it did. -/
def poolBackUptoRow : OpenClaim := { program := "ytnbhchfpfbbngaa", sum := "6c83b4e1247e557773da81d3a03bf8a04b55e624f2612e5eea94c9b24d66bd00", func := "framewarden/framewardenkeep.PoolBack", spec := "poolBack", unfollowed := true, recurses := true, apart := false, narrowed := true }
def PoolBackUptoSaid : Prop := poolBackUptoRow.holds Try.pinned (OpenSpec.upto poolBackSpec)

/-- 'framewardenkeep.PoolAll', WHERE WHAT IT READS IS OF BULK AT MOST 1048576: true; the input reads as it did. -/
def poolAllUptoRow : OpenClaim := { program := "ytnbhchfpfbbngaa", sum := "6c83b4e1247e557773da81d3a03bf8a04b55e624f2612e5eea94c9b24d66bd00", func := "framewarden/framewardenkeep.PoolAll", spec := "poolAll", unfollowed := true, recurses := true, apart := false, narrowed := true }
def PoolAllUptoSaid : Prop := poolAllUptoRow.holds Try.pinned (OpenSpec.upto poolAllSpec)

/-- 'framewardenlaw.PoolTells', WHERE WHAT IT READS IS OF BULK AT MOST 1048576: true; the input reads as it did. -/
def poolTellsUptoRow : OpenClaim := { program := "ytnbhchfpfbbngaa", sum := "6c83b4e1247e557773da81d3a03bf8a04b55e624f2612e5eea94c9b24d66bd00", func := "framewarden/framewardenlaw.PoolTells", spec := "poolTells", unfollowed := true, recurses := true, apart := false, narrowed := true }
def PoolTellsUptoSaid : Prop := poolTellsUptoRow.holds Try.pinned (OpenSpec.upto poolTellsSpec)

end Rows
end Go.Proofs.Ytnbhchfpfbbngaa
