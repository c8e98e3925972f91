/-
  No cell of these rows narrows 'for every input' (looked for: loops, veiled, ifaces, maps, wideKeys, modest, calm, conditions, laid).
  DERIVED. THE GIVEN ROWS OF THIS SEAT. 11 by the template 'for every input the law returns true; each argument reads behind the call as it read before'; 0 by the template 'total and deterministic' (their statements: YtidfngplhjegpaaTotals.lean).
  GIVEN WITH THE SEED: the statements are not yours to turn. If you find one false, say at which input.
  Laid BY PROGRAM, IN A SANDBOX (cutbox-rows.mjs): the forced cells as the released guide's own fill.sh prints them over the translation 5c33870dd0a57642… (all of the seat's roots in one cut). By AI agents, Wed Nov 11 2026. No macro, syntax, notation, axiom, sorry.
-/
import Derived.Test.YtidfngplhjegpaaChecked
import GoSem.Claim
import GoSem.ClaimJoined
import GoSem.ClaimMapViews
import Derived.JoinedTies
import Derived.KernelRfl
namespace Go.Proofs.Ytidfngplhjegpaa
/- THE CELL 'sum', in the pinned program and in every row, IS THE sha256 OF THE DUMP (.gsa) THAT YtidfngplhjegpaaProg.lean LOADS. Nothing in Lean hashes anything: it is a label: what it is worth is what the hold of that sum in a sandbox is worth. -/
noncomputable def Try.pinned : Pinned := { name := "ytidfngplhjegpaa", sum := "5c33870dd0a57642e9c7a46f4cdb3ff4f41d0cc5105061b19e599278b85bbd56", checked := Try.checked }
namespace Rows
def none {H : Type} : Left H := { results := [], args := [] }

/-- 'framewardenkeep.RamBack': WHATEVER THE INPUT: true; the input reads as it did. -/
def ramBackSpec : ChangeSpec := { name := "ramBack", fn := fun _ => fun
  | [d1, d2, d3, d4, d5, d6] => { results := [.lit (.bool true)], args := [d1, d2, d3, d4, d5, d6] }
  | _ => none }
def ramBackRow : OpenClaim := { program := "ytidfngplhjegpaa", sum := "5c33870dd0a57642e9c7a46f4cdb3ff4f41d0cc5105061b19e599278b85bbd56", func := "framewarden/framewardenkeep.RamBack", spec := "ramBack", apart := false }
def RamBackSaid : Prop := ramBackRow.holds Try.pinned (OpenSpec.ofChange ramBackSpec)

/-- ITS FALSE NEIGHBOUR: 'it returns false'. Refute it at one input. -/
def ramBackWrong : ChangeSpec := { name := "ramBack", fn := fun _ => fun
  | [d1, d2, d3, d4, d5, d6] => { results := [.lit (.bool false)], args := [d1, d2, d3, d4, d5, d6] }
  | _ => none }
def RamBackWrongFalsely : Prop := ramBackRow.holds Try.pinned (OpenSpec.ofChange ramBackWrong)

/-- 'framewardenkeep.RamOver': WHATEVER THE INPUT: true; the input reads as it did. -/
def ramOverSpec : ChangeSpec := { name := "ramOver", fn := fun _ => fun
  | [d1, d2, d3, d4, d5, d6, d7] => { results := [.lit (.bool true)], args := [d1, d2, d3, d4, d5, d6, d7] }
  | _ => none }
def ramOverRow : OpenClaim := { program := "ytidfngplhjegpaa", sum := "5c33870dd0a57642e9c7a46f4cdb3ff4f41d0cc5105061b19e599278b85bbd56", func := "framewarden/framewardenkeep.RamOver", spec := "ramOver", apart := false }
def RamOverSaid : Prop := ramOverRow.holds Try.pinned (OpenSpec.ofChange ramOverSpec)

/-- ITS FALSE NEIGHBOUR: 'it returns false'. Refute it at one input. -/
def ramOverWrong : ChangeSpec := { name := "ramOver", fn := fun _ => fun
  | [d1, d2, d3, d4, d5, d6, d7] => { results := [.lit (.bool false)], args := [d1, d2, d3, d4, d5, d6, d7] }
  | _ => none }
def RamOverWrongFalsely : Prop := ramOverRow.holds Try.pinned (OpenSpec.ofChange ramOverWrong)

/-- 'framewardenlaw.RamTells': WHATEVER THE INPUT: true; the input reads as it did. -/
def ramTellsSpec : ChangeSpec := { name := "ramTells", fn := fun _ => fun
  | [d1, d2, d3, d4] => { results := [.lit (.bool true)], args := [d1, d2, d3, d4] }
  | _ => none }
def ramTellsRow : OpenClaim := { program := "ytidfngplhjegpaa", sum := "5c33870dd0a57642e9c7a46f4cdb3ff4f41d0cc5105061b19e599278b85bbd56", func := "framewarden/framewardenlaw.RamTells", spec := "ramTells", apart := false }
def RamTellsSaid : Prop := ramTellsRow.holds Try.pinned (OpenSpec.ofChange ramTellsSpec)

/-- ITS FALSE NEIGHBOUR: 'it returns false'. Refute it at one input. -/
def ramTellsWrong : ChangeSpec := { name := "ramTells", fn := fun _ => fun
  | [d1, d2, d3, d4] => { results := [.lit (.bool false)], args := [d1, d2, d3, d4] }
  | _ => none }
def RamTellsWrongFalsely : Prop := ramTellsRow.holds Try.pinned (OpenSpec.ofChange ramTellsWrong)

/-- 'framewardenlaw.TableReads': WHATEVER THE INPUT: true; the input reads as it did. -/
def tableReadsSpec : ChangeSpec := { name := "tableReads", fn := fun _ => fun
  | [d1, d2, d3] => { results := [.lit (.bool true)], args := [d1, d2, d3] }
  | _ => none }
def tableReadsRow : OpenClaim := { program := "ytidfngplhjegpaa", sum := "5c33870dd0a57642e9c7a46f4cdb3ff4f41d0cc5105061b19e599278b85bbd56", func := "framewarden/framewardenlaw.TableReads", spec := "tableReads", apart := false }
def TableReadsSaid : Prop := tableReadsRow.holds Try.pinned (OpenSpec.ofChange tableReadsSpec)

/-- ITS FALSE NEIGHBOUR: 'it returns false'. Refute it at one input. -/
def tableReadsWrong : ChangeSpec := { name := "tableReads", fn := fun _ => fun
  | [d1, d2, d3] => { results := [.lit (.bool false)], args := [d1, d2, d3] }
  | _ => none }
def TableReadsWrongFalsely : Prop := tableReadsRow.holds Try.pinned (OpenSpec.ofChange tableReadsWrong)

/-- 'framewardenlaw.TableWrites': WHATEVER THE INPUT: true; the input reads as it did. -/
def tableWritesSpec : ChangeSpec := { name := "tableWrites", fn := fun _ => fun
  | [d1, d2, d3, d4, d5] => { results := [.lit (.bool true)], args := [d1, d2, d3, d4, d5] }
  | _ => none }
def tableWritesRow : OpenClaim := { program := "ytidfngplhjegpaa", sum := "5c33870dd0a57642e9c7a46f4cdb3ff4f41d0cc5105061b19e599278b85bbd56", func := "framewarden/framewardenlaw.TableWrites", spec := "tableWrites", apart := false }
def TableWritesSaid : Prop := tableWritesRow.holds Try.pinned (OpenSpec.ofChange tableWritesSpec)

/-- ITS FALSE NEIGHBOUR: 'it returns false'. Refute it at one input. -/
def tableWritesWrong : ChangeSpec := { name := "tableWrites", fn := fun _ => fun
  | [d1, d2, d3, d4, d5] => { results := [.lit (.bool false)], args := [d1, d2, d3, d4, d5] }
  | _ => none }
def TableWritesWrongFalsely : Prop := tableWritesRow.holds Try.pinned (OpenSpec.ofChange tableWritesWrong)

/-- 'framewardenkeep.TableBack': WHATEVER THE INPUT: true; the input reads as it did. -/
def tableBackSpec : ChangeSpec := { name := "tableBack", fn := fun _ => fun
  | [d1, d2, d3, d4, d5] => { results := [.lit (.bool true)], args := [d1, d2, d3, d4, d5] }
  | _ => none }
def tableBackRow : OpenClaim := { program := "ytidfngplhjegpaa", sum := "5c33870dd0a57642e9c7a46f4cdb3ff4f41d0cc5105061b19e599278b85bbd56", func := "framewarden/framewardenkeep.TableBack", spec := "tableBack", apart := false }
def TableBackSaid : Prop := tableBackRow.holds Try.pinned (OpenSpec.ofChange tableBackSpec)

/-- ITS FALSE NEIGHBOUR: 'it returns false'. Refute it at one input. -/
def tableBackWrong : ChangeSpec := { name := "tableBack", fn := fun _ => fun
  | [d1, d2, d3, d4, d5] => { results := [.lit (.bool false)], args := [d1, d2, d3, d4, d5] }
  | _ => none }
def TableBackWrongFalsely : Prop := tableBackRow.holds Try.pinned (OpenSpec.ofChange tableBackWrong)

/-- 'framewardenkeep.TableLink': WHATEVER THE INPUT: true; the input reads as it did. -/
def tableLinkSpec : ChangeSpec := { name := "tableLink", fn := fun _ => fun
  | [d1, d2, d3, d4, d5] => { results := [.lit (.bool true)], args := [d1, d2, d3, d4, d5] }
  | _ => none }
def tableLinkRow : OpenClaim := { program := "ytidfngplhjegpaa", sum := "5c33870dd0a57642e9c7a46f4cdb3ff4f41d0cc5105061b19e599278b85bbd56", func := "framewarden/framewardenkeep.TableLink", spec := "tableLink", apart := false }
def TableLinkSaid : Prop := tableLinkRow.holds Try.pinned (OpenSpec.ofChange tableLinkSpec)

/-- ITS FALSE NEIGHBOUR: 'it returns false'. Refute it at one input. -/
def tableLinkWrong : ChangeSpec := { name := "tableLink", fn := fun _ => fun
  | [d1, d2, d3, d4, d5] => { results := [.lit (.bool false)], args := [d1, d2, d3, d4, d5] }
  | _ => none }
def TableLinkWrongFalsely : Prop := tableLinkRow.holds Try.pinned (OpenSpec.ofChange tableLinkWrong)

/-- 'framewardentop.Names': WHATEVER THE INPUT: true; the input reads as it did. -/
def namesSpec : ChangeSpec := { name := "names", fn := fun _ => fun
  | [] => { results := [.lit (.bool true)], args := [] }
  | _ => none }
def namesRow : OpenClaim := { program := "ytidfngplhjegpaa", sum := "5c33870dd0a57642e9c7a46f4cdb3ff4f41d0cc5105061b19e599278b85bbd56", func := "framewarden/framewardentop.Names", spec := "names", apart := false }
def NamesSaid : Prop := namesRow.holds Try.pinned (OpenSpec.ofChange namesSpec)

/-- ITS FALSE NEIGHBOUR: 'it returns false'. Refute it at one input. -/
def namesWrong : ChangeSpec := { name := "names", fn := fun _ => fun
  | [] => { results := [.lit (.bool false)], args := [] }
  | _ => none }
def NamesWrongFalsely : Prop := namesRow.holds Try.pinned (OpenSpec.ofChange namesWrong)

/-- 'framewardenlaw.ClockTells': WHATEVER THE INPUT: true; the input reads as it did. -/
def clockTellsSpec : ChangeSpec := { name := "clockTells", fn := fun _ => fun
  | [d1, d2, d3] => { results := [.lit (.bool true)], args := [d1, d2, d3] }
  | _ => none }
def clockTellsRow : OpenClaim := { program := "ytidfngplhjegpaa", sum := "5c33870dd0a57642e9c7a46f4cdb3ff4f41d0cc5105061b19e599278b85bbd56", func := "framewarden/framewardenlaw.ClockTells", spec := "clockTells", apart := false }
def ClockTellsSaid : Prop := clockTellsRow.holds Try.pinned (OpenSpec.ofChange clockTellsSpec)

/-- ITS FALSE NEIGHBOUR: 'it returns false'. Refute it at one input. -/
def clockTellsWrong : ChangeSpec := { name := "clockTells", fn := fun _ => fun
  | [d1, d2, d3] => { results := [.lit (.bool false)], args := [d1, d2, d3] }
  | _ => none }
def ClockTellsWrongFalsely : Prop := clockTellsRow.holds Try.pinned (OpenSpec.ofChange clockTellsWrong)

/-- 'framewardenkeep.ClockSpares': WHATEVER THE INPUT: true; the input reads as it did. -/
def clockSparesSpec : ChangeSpec := { name := "clockSpares", fn := fun _ => fun
  | [d1, d2, d3] => { results := [.lit (.bool true)], args := [d1, d2, d3] }
  | _ => none }
def clockSparesRow : OpenClaim := { program := "ytidfngplhjegpaa", sum := "5c33870dd0a57642e9c7a46f4cdb3ff4f41d0cc5105061b19e599278b85bbd56", func := "framewarden/framewardenkeep.ClockSpares", spec := "clockSpares", apart := false }
def ClockSparesSaid : Prop := clockSparesRow.holds Try.pinned (OpenSpec.ofChange clockSparesSpec)

/-- ITS FALSE NEIGHBOUR: 'it returns false'. Refute it at one input. -/
def clockSparesWrong : ChangeSpec := { name := "clockSpares", fn := fun _ => fun
  | [d1, d2, d3] => { results := [.lit (.bool false)], args := [d1, d2, d3] }
  | _ => none }
def ClockSparesWrongFalsely : Prop := clockSparesRow.holds Try.pinned (OpenSpec.ofChange clockSparesWrong)

/-- 'framewardenkeep.ClockRound': WHATEVER THE INPUT: true; the input reads as it did. -/
def clockRoundSpec : ChangeSpec := { name := "clockRound", fn := fun _ => fun
  | [d1, d2, d3] => { results := [.lit (.bool true)], args := [d1, d2, d3] }
  | _ => none }
def clockRoundRow : OpenClaim := { program := "ytidfngplhjegpaa", sum := "5c33870dd0a57642e9c7a46f4cdb3ff4f41d0cc5105061b19e599278b85bbd56", func := "framewarden/framewardenkeep.ClockRound", spec := "clockRound", apart := false }
def ClockRoundSaid : Prop := clockRoundRow.holds Try.pinned (OpenSpec.ofChange clockRoundSpec)

/-- ITS FALSE NEIGHBOUR: 'it returns false'. Refute it at one input. -/
def clockRoundWrong : ChangeSpec := { name := "clockRound", fn := fun _ => fun
  | [d1, d2, d3] => { results := [.lit (.bool false)], args := [d1, d2, d3] }
  | _ => none }
def ClockRoundWrongFalsely : Prop := clockRoundRow.holds Try.pinned (OpenSpec.ofChange clockRoundWrong)

/- THE SECOND FORM. 'bulk': how many values and letters a reading holds, each counted each time it is reached (what is shared counts as often as it is met; a slice's spare places count too). A statement '..UptoSaid' is the law's where the arguments, and the package variables that the reading takes, are together of bulk at most 1048576: NARROWER than '..Said'. Prove '..Said' where nothing that the law and all that it calls make is longer than what came in: it says more and counts as full. Else prove '..UptoSaid'. A law counts once. -/
mutual
def uptoBulk {H : Type} : DataW H → Nat
  | .lit (.string bytes) => bytes.length + 1
  | .lit _ => 1
  | .nil => 1
  | .ptr d => uptoBulk d + 1
  | .slice elems spare => uptoBulkAll elems + uptoBulkAll spare + 1
  | .agg parts => uptoBulkAll parts + 1
  | .iface _ d => uptoBulk d + 1
  | .map entries => uptoBulkEntries entries + 1
  | .held _ => 1
def uptoBulkAll {H : Type} : List (DataW H) → Nat
  | [] => 0
  | d :: r => uptoBulk d + uptoBulkAll r
def uptoBulkEntries {H : Type} : List (Lit × DataW H) → Nat
  | [] => 0
  | x :: r => uptoBulkEntry x + uptoBulkEntries r
def uptoBulkEntry {H : Type} : Lit × DataW H → Nat
  | (.string bytes, d) => bytes.length + uptoBulk d + 1
  | (_, d) => uptoBulk d + 1
 end
def uptoSmall : (H : Type) → List (DataW H) → Bool := fun _ ds => decide (uptoBulkAll ds ≤ 1048576)
def OpenSpec.upto (s : _root_.Go.ChangeSpec) : _root_.Go.OpenSpec := { _root_.Go.OpenSpec.ofChange s with cond := some uptoSmall }

/-- 'framewardenkeep.RamBack', WHERE WHAT IT READS IS OF BULK AT MOST 1048576: true; the input reads as it did. -/
def ramBackUptoRow : OpenClaim := { program := "ytidfngplhjegpaa", sum := "5c33870dd0a57642e9c7a46f4cdb3ff4f41d0cc5105061b19e599278b85bbd56", func := "framewarden/framewardenkeep.RamBack", spec := "ramBack", apart := false, narrowed := true }
def RamBackUptoSaid : Prop := ramBackUptoRow.holds Try.pinned (OpenSpec.upto ramBackSpec)

/-- 'framewardenkeep.RamOver', WHERE WHAT IT READS IS OF BULK AT MOST 1048576: true; the input reads as it did. -/
def ramOverUptoRow : OpenClaim := { program := "ytidfngplhjegpaa", sum := "5c33870dd0a57642e9c7a46f4cdb3ff4f41d0cc5105061b19e599278b85bbd56", func := "framewarden/framewardenkeep.RamOver", spec := "ramOver", apart := false, narrowed := true }
def RamOverUptoSaid : Prop := ramOverUptoRow.holds Try.pinned (OpenSpec.upto ramOverSpec)

/-- 'framewardenlaw.RamTells', WHERE WHAT IT READS IS OF BULK AT MOST 1048576: true; the input reads as it did. -/
def ramTellsUptoRow : OpenClaim := { program := "ytidfngplhjegpaa", sum := "5c33870dd0a57642e9c7a46f4cdb3ff4f41d0cc5105061b19e599278b85bbd56", func := "framewarden/framewardenlaw.RamTells", spec := "ramTells", apart := false, narrowed := true }
def RamTellsUptoSaid : Prop := ramTellsUptoRow.holds Try.pinned (OpenSpec.upto ramTellsSpec)

/-- 'framewardenlaw.TableReads', WHERE WHAT IT READS IS OF BULK AT MOST 1048576: true; the input reads as it did. -/
def tableReadsUptoRow : OpenClaim := { program := "ytidfngplhjegpaa", sum := "5c33870dd0a57642e9c7a46f4cdb3ff4f41d0cc5105061b19e599278b85bbd56", func := "framewarden/framewardenlaw.TableReads", spec := "tableReads", apart := false, narrowed := true }
def TableReadsUptoSaid : Prop := tableReadsUptoRow.holds Try.pinned (OpenSpec.upto tableReadsSpec)

/-- 'framewardenlaw.TableWrites', WHERE WHAT IT READS IS OF BULK AT MOST 1048576: true; the input reads as it did. -/
def tableWritesUptoRow : OpenClaim := { program := "ytidfngplhjegpaa", sum := "5c33870dd0a57642e9c7a46f4cdb3ff4f41d0cc5105061b19e599278b85bbd56", func := "framewarden/framewardenlaw.TableWrites", spec := "tableWrites", apart := false, narrowed := true }
def TableWritesUptoSaid : Prop := tableWritesUptoRow.holds Try.pinned (OpenSpec.upto tableWritesSpec)

/-- 'framewardenkeep.TableBack', WHERE WHAT IT READS IS OF BULK AT MOST 1048576: true; the input reads as it did. -/
def tableBackUptoRow : OpenClaim := { program := "ytidfngplhjegpaa", sum := "5c33870dd0a57642e9c7a46f4cdb3ff4f41d0cc5105061b19e599278b85bbd56", func := "framewarden/framewardenkeep.TableBack", spec := "tableBack", apart := false, narrowed := true }
def TableBackUptoSaid : Prop := tableBackUptoRow.holds Try.pinned (OpenSpec.upto tableBackSpec)

/-- 'framewardenkeep.TableLink', WHERE WHAT IT READS IS OF BULK AT MOST 1048576: true; the input reads as it did. -/
def tableLinkUptoRow : OpenClaim := { program := "ytidfngplhjegpaa", sum := "5c33870dd0a57642e9c7a46f4cdb3ff4f41d0cc5105061b19e599278b85bbd56", func := "framewarden/framewardenkeep.TableLink", spec := "tableLink", apart := false, narrowed := true }
def TableLinkUptoSaid : Prop := tableLinkUptoRow.holds Try.pinned (OpenSpec.upto tableLinkSpec)

/-- 'framewardentop.Names', WHERE WHAT IT READS IS OF BULK AT MOST 1048576: true; the input reads as it did. -/
def namesUptoRow : OpenClaim := { program := "ytidfngplhjegpaa", sum := "5c33870dd0a57642e9c7a46f4cdb3ff4f41d0cc5105061b19e599278b85bbd56", func := "framewarden/framewardentop.Names", spec := "names", apart := false, narrowed := true }
def NamesUptoSaid : Prop := namesUptoRow.holds Try.pinned (OpenSpec.upto namesSpec)

/-- 'framewardenlaw.ClockTells', WHERE WHAT IT READS IS OF BULK AT MOST 1048576: true; the input reads as it did. -/
def clockTellsUptoRow : OpenClaim := { program := "ytidfngplhjegpaa", sum := "5c33870dd0a57642e9c7a46f4cdb3ff4f41d0cc5105061b19e599278b85bbd56", func := "framewarden/framewardenlaw.ClockTells", spec := "clockTells", apart := false, narrowed := true }
def ClockTellsUptoSaid : Prop := clockTellsUptoRow.holds Try.pinned (OpenSpec.upto clockTellsSpec)

/-- 'framewardenkeep.ClockSpares', WHERE WHAT IT READS IS OF BULK AT MOST 1048576: true; the input reads as it did. -/
def clockSparesUptoRow : OpenClaim := { program := "ytidfngplhjegpaa", sum := "5c33870dd0a57642e9c7a46f4cdb3ff4f41d0cc5105061b19e599278b85bbd56", func := "framewarden/framewardenkeep.ClockSpares", spec := "clockSpares", apart := false, narrowed := true }
def ClockSparesUptoSaid : Prop := clockSparesUptoRow.holds Try.pinned (OpenSpec.upto clockSparesSpec)

/-- 'framewardenkeep.ClockRound', WHERE WHAT IT READS IS OF BULK AT MOST 1048576: true; the input reads as it did. -/
def clockRoundUptoRow : OpenClaim := { program := "ytidfngplhjegpaa", sum := "5c33870dd0a57642e9c7a46f4cdb3ff4f41d0cc5105061b19e599278b85bbd56", func := "framewarden/framewardenkeep.ClockRound", spec := "clockRound", apart := false, narrowed := true }
def ClockRoundUptoSaid : Prop := clockRoundUptoRow.holds Try.pinned (OpenSpec.upto clockRoundSpec)

end Rows
end Go.Proofs.Ytidfngplhjegpaa
