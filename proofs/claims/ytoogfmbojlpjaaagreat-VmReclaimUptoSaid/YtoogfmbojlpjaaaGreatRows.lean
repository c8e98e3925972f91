/-
  No cell of these rows narrows 'for every input' (looked for: loops, veiled, ifaces, maps, wideKeys, modest, calm, conditions, laid).
  DERIVED. THE GIVEN ROWS OF THIS SEAT. 7 by the template 'for every input the law returns true; each argument reads behind the call as it read before'; 0 by the template 'total and deterministic' (their statements: YtoogfmbojlpjaaaGreatTotals.lean).
  GIVEN WITH THE SEED: the statements are not yours to turn. If you find one false, say at which input.
  Laid BY PROGRAM, IN A SANDBOX (cutbox-rows.mjs): the forced cells as the released guide's own fill.sh prints them over the translation 8311a6d685c33686… (all of the seat's roots in one cut). By AI agents, Wed Nov 11 2026. No macro, syntax, notation, axiom, sorry.
-/
import Derived.Test.YtoogfmbojlpjaaaGreatChecked
import GoSem.Claim
import GoSem.ClaimJoined
import GoSem.ClaimMapViews
import Derived.JoinedTies
import Derived.KernelRfl
namespace Go.Proofs.YtoogfmbojlpjaaaGreat
/- THE CELL 'sum', in the pinned program and in every row, IS THE sha256 OF THE DUMP (.gsa) THAT YtoogfmbojlpjaaaGreatProg.lean LOADS. Nothing in Lean hashes anything: it is a label: what it is worth is what the hold of that sum in a sandbox is worth. -/
noncomputable def Tryz.pinned : Pinned := { name := "ytoogfmbojlpjaaagreat", sum := "8311a6d685c336869fe7bcca56b60562cc73412de88b67cee87ea1651c8c15ff", checked := Tryz.checked }
namespace Rows
def none {H : Type} : Left H := { results := [], args := [] }

/-- 'framewardenkeep.VmClean': WHATEVER THE INPUT: true; the input reads as it did. -/
def vmCleanSpec : ChangeSpec := { name := "vmClean", fn := fun _ => fun
  | [d] => { results := [.lit (.bool true)], args := [d] }
  | _ => none }
def vmCleanRow : OpenClaim := { program := "ytoogfmbojlpjaaagreat", sum := "8311a6d685c336869fe7bcca56b60562cc73412de88b67cee87ea1651c8c15ff", func := "framewarden/framewardenkeep.VmClean", spec := "vmClean", unfollowed := true, recurses := true, apart := false }
def VmCleanSaid : Prop := vmCleanRow.holds Tryz.pinned (OpenSpec.ofChange vmCleanSpec)

/-- ITS FALSE NEIGHBOUR: 'it returns false'. Refute it at one input. -/
def vmCleanWrong : ChangeSpec := { name := "vmClean", fn := fun _ => fun
  | [d] => { results := [.lit (.bool false)], args := [d] }
  | _ => none }
def VmCleanWrongFalsely : Prop := vmCleanRow.holds Tryz.pinned (OpenSpec.ofChange vmCleanWrong)

/-- 'framewardenkeep.VmShares': WHATEVER THE INPUT: true; the input reads as it did. -/
def vmSharesSpec : ChangeSpec := { name := "vmShares", fn := fun _ => fun
  | [d1, d2] => { results := [.lit (.bool true)], args := [d1, d2] }
  | _ => none }
def vmSharesRow : OpenClaim := { program := "ytoogfmbojlpjaaagreat", sum := "8311a6d685c336869fe7bcca56b60562cc73412de88b67cee87ea1651c8c15ff", func := "framewarden/framewardenkeep.VmShares", spec := "vmShares", unfollowed := true, recurses := true, apart := false }
def VmSharesSaid : Prop := vmSharesRow.holds Tryz.pinned (OpenSpec.ofChange vmSharesSpec)

/-- ITS FALSE NEIGHBOUR: 'it returns false'. Refute it at one input. -/
def vmSharesWrong : ChangeSpec := { name := "vmShares", fn := fun _ => fun
  | [d1, d2] => { results := [.lit (.bool false)], args := [d1, d2] }
  | _ => none }
def VmSharesWrongFalsely : Prop := vmSharesRow.holds Tryz.pinned (OpenSpec.ofChange vmSharesWrong)

/-- 'framewardenlaw.VmRuns': WHATEVER THE INPUT: true; the input reads as it did. -/
def vmRunsSpec : ChangeSpec := { name := "vmRuns", fn := fun _ => fun
  | [d] => { results := [.lit (.bool true)], args := [d] }
  | _ => none }
def vmRunsRow : OpenClaim := { program := "ytoogfmbojlpjaaagreat", sum := "8311a6d685c336869fe7bcca56b60562cc73412de88b67cee87ea1651c8c15ff", func := "framewarden/framewardenlaw.VmRuns", spec := "vmRuns", unfollowed := true, recurses := true, apart := false }
def VmRunsSaid : Prop := vmRunsRow.holds Tryz.pinned (OpenSpec.ofChange vmRunsSpec)

/-- ITS FALSE NEIGHBOUR: 'it returns false'. Refute it at one input. -/
def vmRunsWrong : ChangeSpec := { name := "vmRuns", fn := fun _ => fun
  | [d] => { results := [.lit (.bool false)], args := [d] }
  | _ => none }
def VmRunsWrongFalsely : Prop := vmRunsRow.holds Tryz.pinned (OpenSpec.ofChange vmRunsWrong)

/-- 'framewardenlaw.VmUses': WHATEVER THE INPUT: true; the input reads as it did. -/
def vmUsesSpec : ChangeSpec := { name := "vmUses", fn := fun _ => fun
  | [d] => { results := [.lit (.bool true)], args := [d] }
  | _ => none }
def vmUsesRow : OpenClaim := { program := "ytoogfmbojlpjaaagreat", sum := "8311a6d685c336869fe7bcca56b60562cc73412de88b67cee87ea1651c8c15ff", func := "framewarden/framewardenlaw.VmUses", spec := "vmUses", unfollowed := true, recurses := true, apart := false }
def VmUsesSaid : Prop := vmUsesRow.holds Tryz.pinned (OpenSpec.ofChange vmUsesSpec)

/-- ITS FALSE NEIGHBOUR: 'it returns false'. Refute it at one input. -/
def vmUsesWrong : ChangeSpec := { name := "vmUses", fn := fun _ => fun
  | [d] => { results := [.lit (.bool false)], args := [d] }
  | _ => none }
def VmUsesWrongFalsely : Prop := vmUsesRow.holds Tryz.pinned (OpenSpec.ofChange vmUsesWrong)

/-- 'framewardenkeep.VmReclaim': WHATEVER THE INPUT: true; the input reads as it did. -/
def vmReclaimSpec : ChangeSpec := { name := "vmReclaim", fn := fun _ => fun
  | [d1, d2, d3] => { results := [.lit (.bool true)], args := [d1, d2, d3] }
  | _ => none }
def vmReclaimRow : OpenClaim := { program := "ytoogfmbojlpjaaagreat", sum := "8311a6d685c336869fe7bcca56b60562cc73412de88b67cee87ea1651c8c15ff", func := "framewarden/framewardenkeep.VmReclaim", spec := "vmReclaim", unfollowed := true, recurses := true, apart := false }
def VmReclaimSaid : Prop := vmReclaimRow.holds Tryz.pinned (OpenSpec.ofChange vmReclaimSpec)

/-- ITS FALSE NEIGHBOUR: 'it returns false'. Refute it at one input. -/
def vmReclaimWrong : ChangeSpec := { name := "vmReclaim", fn := fun _ => fun
  | [d1, d2, d3] => { results := [.lit (.bool false)], args := [d1, d2, d3] }
  | _ => none }
def VmReclaimWrongFalsely : Prop := vmReclaimRow.holds Tryz.pinned (OpenSpec.ofChange vmReclaimWrong)

/-- 'framewardenkeep.VmFlat': WHATEVER THE INPUT: true; the input reads as it did. -/
def vmFlatSpec : ChangeSpec := { name := "vmFlat", fn := fun _ => fun
  | [d] => { results := [.lit (.bool true)], args := [d] }
  | _ => none }
def vmFlatRow : OpenClaim := { program := "ytoogfmbojlpjaaagreat", sum := "8311a6d685c336869fe7bcca56b60562cc73412de88b67cee87ea1651c8c15ff", func := "framewarden/framewardenkeep.VmFlat", spec := "vmFlat", unfollowed := true, recurses := true, apart := false }
def VmFlatSaid : Prop := vmFlatRow.holds Tryz.pinned (OpenSpec.ofChange vmFlatSpec)

/-- ITS FALSE NEIGHBOUR: 'it returns false'. Refute it at one input. -/
def vmFlatWrong : ChangeSpec := { name := "vmFlat", fn := fun _ => fun
  | [d] => { results := [.lit (.bool false)], args := [d] }
  | _ => none }
def VmFlatWrongFalsely : Prop := vmFlatRow.holds Tryz.pinned (OpenSpec.ofChange vmFlatWrong)

/-- 'framewardenlaw.FlatRuns': WHATEVER THE INPUT: true; the input reads as it did. -/
def flatRunsSpec : ChangeSpec := { name := "flatRuns", fn := fun _ => fun
  | [d] => { results := [.lit (.bool true)], args := [d] }
  | _ => none }
def flatRunsRow : OpenClaim := { program := "ytoogfmbojlpjaaagreat", sum := "8311a6d685c336869fe7bcca56b60562cc73412de88b67cee87ea1651c8c15ff", func := "framewarden/framewardenlaw.FlatRuns", spec := "flatRuns", unfollowed := true, recurses := true, apart := false }
def FlatRunsSaid : Prop := flatRunsRow.holds Tryz.pinned (OpenSpec.ofChange flatRunsSpec)

/-- ITS FALSE NEIGHBOUR: 'it returns false'. Refute it at one input. -/
def flatRunsWrong : ChangeSpec := { name := "flatRuns", fn := fun _ => fun
  | [d] => { results := [.lit (.bool false)], args := [d] }
  | _ => none }
def FlatRunsWrongFalsely : Prop := flatRunsRow.holds Tryz.pinned (OpenSpec.ofChange flatRunsWrong)

/- THE SECOND FORM. 'bulk': how many values and letters a reading holds, each counted each time it is reached (what is shared counts as often as it is met; a slice's spare places count too). A statement '..UptoSaid' is the law's where the arguments, and the package variables that the reading takes, are together of bulk at most 1048576: NARROWER than '..Said'. Prove '..Said' where nothing that the law and all that it calls make is longer than what came in: it says more and counts as full. Else prove '..UptoSaid'. A law counts once. -/
mutual
def uptoBulk {H : Type} : DataW H → Nat
  | .lit (.string bytes) => bytes.length + 1
  | .lit _ => 1
  | .nil => 1
  | .ptr d => uptoBulk d + 1
  | .slice elems spare => uptoBulkAll elems + uptoBulkAll spare + 1
  | .agg parts => uptoBulkAll parts + 1
  | .iface _ d => uptoBulk d + 1
  | .map entries => uptoBulkEntries entries + 1
  | .held _ => 1
def uptoBulkAll {H : Type} : List (DataW H) → Nat
  | [] => 0
  | d :: r => uptoBulk d + uptoBulkAll r
def uptoBulkEntries {H : Type} : List (Lit × DataW H) → Nat
  | [] => 0
  | x :: r => uptoBulkEntry x + uptoBulkEntries r
def uptoBulkEntry {H : Type} : Lit × DataW H → Nat
  | (.string bytes, d) => bytes.length + uptoBulk d + 1
  | (_, d) => uptoBulk d + 1
 end
def uptoSmall : (H : Type) → List (DataW H) → Bool := fun _ ds => decide (uptoBulkAll ds ≤ 1048576)
def OpenSpec.upto (s : _root_.Go.ChangeSpec) : _root_.Go.OpenSpec := { _root_.Go.OpenSpec.ofChange s with cond := some uptoSmall }

/-- 'framewardenkeep.VmClean', WHERE WHAT IT READS IS OF BULK AT MOST 1048576: true; the input reads as it did. -/
def vmCleanUptoRow : OpenClaim := { program := "ytoogfmbojlpjaaagreat", sum := "8311a6d685c336869fe7bcca56b60562cc73412de88b67cee87ea1651c8c15ff", func := "framewarden/framewardenkeep.VmClean", spec := "vmClean", unfollowed := true, recurses := true, apart := false, narrowed := true }
def VmCleanUptoSaid : Prop := vmCleanUptoRow.holds Tryz.pinned (OpenSpec.upto vmCleanSpec)

/-- 'framewardenkeep.VmShares', WHERE WHAT IT READS IS OF BULK AT MOST 1048576: true; the input reads as it did. -/
def vmSharesUptoRow : OpenClaim := { program := "ytoogfmbojlpjaaagreat", sum := "8311a6d685c336869fe7bcca56b60562cc73412de88b67cee87ea1651c8c15ff", func := "framewarden/framewardenkeep.VmShares", spec := "vmShares", unfollowed := true, recurses := true, apart := false, narrowed := true }
def VmSharesUptoSaid : Prop := vmSharesUptoRow.holds Tryz.pinned (OpenSpec.upto vmSharesSpec)

/-- 'framewardenlaw.VmRuns', WHERE WHAT IT READS IS OF BULK AT MOST 1048576: true; the input reads as it did. -/
def vmRunsUptoRow : OpenClaim := { program := "ytoogfmbojlpjaaagreat", sum := "8311a6d685c336869fe7bcca56b60562cc73412de88b67cee87ea1651c8c15ff", func := "framewarden/framewardenlaw.VmRuns", spec := "vmRuns", unfollowed := true, recurses := true, apart := false, narrowed := true }
def VmRunsUptoSaid : Prop := vmRunsUptoRow.holds Tryz.pinned (OpenSpec.upto vmRunsSpec)

/-- 'framewardenlaw.VmUses', WHERE WHAT IT READS IS OF BULK AT MOST 1048576: true; the input reads as it did. -/
def vmUsesUptoRow : OpenClaim := { program := "ytoogfmbojlpjaaagreat", sum := "8311a6d685c336869fe7bcca56b60562cc73412de88b67cee87ea1651c8c15ff", func := "framewarden/framewardenlaw.VmUses", spec := "vmUses", unfollowed := true, recurses := true, apart := false, narrowed := true }
def VmUsesUptoSaid : Prop := vmUsesUptoRow.holds Tryz.pinned (OpenSpec.upto vmUsesSpec)

/-- 'framewardenkeep.VmReclaim', WHERE WHAT IT READS IS OF BULK AT MOST 1048576: true; the input reads as it did. -/
def vmReclaimUptoRow : OpenClaim := { program := "ytoogfmbojlpjaaagreat", sum := "8311a6d685c336869fe7bcca56b60562cc73412de88b67cee87ea1651c8c15ff", func := "framewarden/framewardenkeep.VmReclaim", spec := "vmReclaim", unfollowed := true, recurses := true, apart := false, narrowed := true }
def VmReclaimUptoSaid : Prop := vmReclaimUptoRow.holds Tryz.pinned (OpenSpec.upto vmReclaimSpec)

/-- 'framewardenkeep.VmFlat', WHERE WHAT IT READS IS OF BULK AT MOST 1048576: true; the input reads as it did. -/
def vmFlatUptoRow : OpenClaim := { program := "ytoogfmbojlpjaaagreat", sum := "8311a6d685c336869fe7bcca56b60562cc73412de88b67cee87ea1651c8c15ff", func := "framewarden/framewardenkeep.VmFlat", spec := "vmFlat", unfollowed := true, recurses := true, apart := false, narrowed := true }
def VmFlatUptoSaid : Prop := vmFlatUptoRow.holds Tryz.pinned (OpenSpec.upto vmFlatSpec)

/-- 'framewardenlaw.FlatRuns', WHERE WHAT IT READS IS OF BULK AT MOST 1048576: true; the input reads as it did. -/
def flatRunsUptoRow : OpenClaim := { program := "ytoogfmbojlpjaaagreat", sum := "8311a6d685c336869fe7bcca56b60562cc73412de88b67cee87ea1651c8c15ff", func := "framewarden/framewardenlaw.FlatRuns", spec := "flatRuns", unfollowed := true, recurses := true, apart := false, narrowed := true }
def FlatRunsUptoSaid : Prop := flatRunsUptoRow.holds Tryz.pinned (OpenSpec.upto flatRunsSpec)

end Rows
end Go.Proofs.YtoogfmbojlpjaaaGreat
