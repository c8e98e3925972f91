/-
  No cell of these rows narrows 'for every input' (looked for: loops, veiled, ifaces, maps, wideKeys, modest, calm, conditions, laid).
  DERIVED. THE GIVEN ROWS OF THIS SEAT. 5 by the template 'for every input the law returns true; each argument reads behind the call as it read before'; 0 by the template 'total and deterministic' (their statements: YtglnnplijienbaaTotals.lean).
  GIVEN WITH THE SEED: the statements are not yours to turn. If you find one false, say at which input.
  Laid BY PROGRAM, IN A SANDBOX (cutbox-rows.mjs): the forced cells as the released guide's own fill.sh prints them over the translation e983e30ddd651eed… (all of the seat's roots in one cut). By AI agents, Wed Nov 11 2026. No macro, syntax, notation, axiom, sorry.
-/
import Derived.Test.YtglnnplijienbaaChecked
import GoSem.Claim
import GoSem.ClaimJoined
import GoSem.ClaimMapViews
import Derived.JoinedTies
import Derived.KernelRfl
namespace Go.Proofs.Ytglnnplijienbaa
/- THE CELL 'sum', in the pinned program and in every row, IS THE sha256 OF THE DUMP (.gsa) THAT YtglnnplijienbaaProg.lean LOADS. Nothing in Lean hashes anything: it is a label: what it is worth is what the hold of that sum in a sandbox is worth. -/
noncomputable def Try.pinned : Pinned := { name := "ytglnnplijienbaa", sum := "e983e30ddd651eede2b1736f846a4151b06f72d8729ace69205a1ff6a37a4721", checked := Try.checked }
namespace Rows
def none {H : Type} : Left H := { results := [], args := [] }

/-- 'framewardenkeep.FlatRight': WHATEVER THE INPUT: true; the input reads as it did. -/
def flatRightSpec : ChangeSpec := { name := "flatRight", fn := fun _ => fun
  | [d] => { results := [.lit (.bool true)], args := [d] }
  | _ => none }
def flatRightRow : OpenClaim := { program := "ytglnnplijienbaa", sum := "e983e30ddd651eede2b1736f846a4151b06f72d8729ace69205a1ff6a37a4721", func := "framewarden/framewardenkeep.FlatRight", spec := "flatRight", unfollowed := true, recurses := true, apart := false }
def FlatRightSaid : Prop := flatRightRow.holds Try.pinned (OpenSpec.ofChange flatRightSpec)

/-- ITS FALSE NEIGHBOUR: 'it returns false'. Refute it at one input. -/
def flatRightWrong : ChangeSpec := { name := "flatRight", fn := fun _ => fun
  | [d] => { results := [.lit (.bool false)], args := [d] }
  | _ => none }
def FlatRightWrongFalsely : Prop := flatRightRow.holds Try.pinned (OpenSpec.ofChange flatRightWrong)

/-- 'framewardenkeep.FlatBack': WHATEVER THE INPUT: true; the input reads as it did. -/
def flatBackSpec : ChangeSpec := { name := "flatBack", fn := fun _ => fun
  | [d1, d2] => { results := [.lit (.bool true)], args := [d1, d2] }
  | _ => none }
def flatBackRow : OpenClaim := { program := "ytglnnplijienbaa", sum := "e983e30ddd651eede2b1736f846a4151b06f72d8729ace69205a1ff6a37a4721", func := "framewarden/framewardenkeep.FlatBack", spec := "flatBack", unfollowed := true, recurses := true, apart := false }
def FlatBackSaid : Prop := flatBackRow.holds Try.pinned (OpenSpec.ofChange flatBackSpec)

/-- ITS FALSE NEIGHBOUR: 'it returns false'. Refute it at one input. -/
def flatBackWrong : ChangeSpec := { name := "flatBack", fn := fun _ => fun
  | [d1, d2] => { results := [.lit (.bool false)], args := [d1, d2] }
  | _ => none }
def FlatBackWrongFalsely : Prop := flatBackRow.holds Try.pinned (OpenSpec.ofChange flatBackWrong)

/-- 'framewardenkeep.FlatApart': WHATEVER THE INPUT: true; the input reads as it did. -/
def flatApartSpec : ChangeSpec := { name := "flatApart", fn := fun _ => fun
  | [d1, d2] => { results := [.lit (.bool true)], args := [d1, d2] }
  | _ => none }
def flatApartRow : OpenClaim := { program := "ytglnnplijienbaa", sum := "e983e30ddd651eede2b1736f846a4151b06f72d8729ace69205a1ff6a37a4721", func := "framewarden/framewardenkeep.FlatApart", spec := "flatApart", unfollowed := true, recurses := true, apart := false }
def FlatApartSaid : Prop := flatApartRow.holds Try.pinned (OpenSpec.ofChange flatApartSpec)

/-- ITS FALSE NEIGHBOUR: 'it returns false'. Refute it at one input. -/
def flatApartWrong : ChangeSpec := { name := "flatApart", fn := fun _ => fun
  | [d1, d2] => { results := [.lit (.bool false)], args := [d1, d2] }
  | _ => none }
def FlatApartWrongFalsely : Prop := flatApartRow.holds Try.pinned (OpenSpec.ofChange flatApartWrong)

/-- 'framewardenkeep.FlatFork': WHATEVER THE INPUT: true; the input reads as it did. -/
def flatForkSpec : ChangeSpec := { name := "flatFork", fn := fun _ => fun
  | [d1, d2] => { results := [.lit (.bool true)], args := [d1, d2] }
  | _ => none }
def flatForkRow : OpenClaim := { program := "ytglnnplijienbaa", sum := "e983e30ddd651eede2b1736f846a4151b06f72d8729ace69205a1ff6a37a4721", func := "framewarden/framewardenkeep.FlatFork", spec := "flatFork", unfollowed := true, recurses := true, apart := false }
def FlatForkSaid : Prop := flatForkRow.holds Try.pinned (OpenSpec.ofChange flatForkSpec)

/-- ITS FALSE NEIGHBOUR: 'it returns false'. Refute it at one input. -/
def flatForkWrong : ChangeSpec := { name := "flatFork", fn := fun _ => fun
  | [d1, d2] => { results := [.lit (.bool false)], args := [d1, d2] }
  | _ => none }
def FlatForkWrongFalsely : Prop := flatForkRow.holds Try.pinned (OpenSpec.ofChange flatForkWrong)

/-- 'framewardenkeep.FlatSealed': WHATEVER THE INPUT: true; the input reads as it did. -/
def flatSealedSpec : ChangeSpec := { name := "flatSealed", fn := fun _ => fun
  | [d1, d2, d3, d4] => { results := [.lit (.bool true)], args := [d1, d2, d3, d4] }
  | _ => none }
def flatSealedRow : OpenClaim := { program := "ytglnnplijienbaa", sum := "e983e30ddd651eede2b1736f846a4151b06f72d8729ace69205a1ff6a37a4721", func := "framewarden/framewardenkeep.FlatSealed", spec := "flatSealed", unfollowed := true, recurses := true, apart := false }
def FlatSealedSaid : Prop := flatSealedRow.holds Try.pinned (OpenSpec.ofChange flatSealedSpec)

/-- ITS FALSE NEIGHBOUR: 'it returns false'. Refute it at one input. -/
def flatSealedWrong : ChangeSpec := { name := "flatSealed", fn := fun _ => fun
  | [d1, d2, d3, d4] => { results := [.lit (.bool false)], args := [d1, d2, d3, d4] }
  | _ => none }
def FlatSealedWrongFalsely : Prop := flatSealedRow.holds Try.pinned (OpenSpec.ofChange flatSealedWrong)

/- THE SECOND FORM. 'bulk': how many values and letters a reading holds, each counted each time it is reached (what is shared counts as often as it is met; a slice's spare places count too). A statement '..UptoSaid' is the law's where the arguments, and the package variables that the reading takes, are together of bulk at most 1048576: NARROWER than '..Said'. Prove '..Said' where nothing that the law and all that it calls make is longer than what came in: it says more and counts as full. Else prove '..UptoSaid'. A law counts once. -/
mutual
def uptoBulk {H : Type} : DataW H → Nat
  | .lit (.string bytes) => bytes.length + 1
  | .lit _ => 1
  | .nil => 1
  | .ptr d => uptoBulk d + 1
  | .slice elems spare => uptoBulkAll elems + uptoBulkAll spare + 1
  | .agg parts => uptoBulkAll parts + 1
  | .iface _ d => uptoBulk d + 1
  | .map entries => uptoBulkEntries entries + 1
  | .held _ => 1
def uptoBulkAll {H : Type} : List (DataW H) → Nat
  | [] => 0
  | d :: r => uptoBulk d + uptoBulkAll r
def uptoBulkEntries {H : Type} : List (Lit × DataW H) → Nat
  | [] => 0
  | x :: r => uptoBulkEntry x + uptoBulkEntries r
def uptoBulkEntry {H : Type} : Lit × DataW H → Nat
  | (.string bytes, d) => bytes.length + uptoBulk d + 1
  | (_, d) => uptoBulk d + 1
 end
def uptoSmall : (H : Type) → List (DataW H) → Bool := fun _ ds => decide (uptoBulkAll ds ≤ 1048576)
def OpenSpec.upto (s : _root_.Go.ChangeSpec) : _root_.Go.OpenSpec := { _root_.Go.OpenSpec.ofChange s with cond := some uptoSmall }

/-- 'framewardenkeep.FlatRight', WHERE WHAT IT READS IS OF BULK AT MOST 1048576: true; the input reads as it did. -/
def flatRightUptoRow : OpenClaim := { program := "ytglnnplijienbaa", sum := "e983e30ddd651eede2b1736f846a4151b06f72d8729ace69205a1ff6a37a4721", func := "framewarden/framewardenkeep.FlatRight", spec := "flatRight", unfollowed := true, recurses := true, apart := false, narrowed := true }
def FlatRightUptoSaid : Prop := flatRightUptoRow.holds Try.pinned (OpenSpec.upto flatRightSpec)

/-- 'framewardenkeep.FlatBack', WHERE WHAT IT READS IS OF BULK AT MOST 1048576: true; the input reads as it did. -/
def flatBackUptoRow : OpenClaim := { program := "ytglnnplijienbaa", sum := "e983e30ddd651eede2b1736f846a4151b06f72d8729ace69205a1ff6a37a4721", func := "framewarden/framewardenkeep.FlatBack", spec := "flatBack", unfollowed := true, recurses := true, apart := false, narrowed := true }
def FlatBackUptoSaid : Prop := flatBackUptoRow.holds Try.pinned (OpenSpec.upto flatBackSpec)

/-- 'framewardenkeep.FlatApart', WHERE WHAT IT READS IS OF BULK AT MOST 1048576: true; the input reads as it did. -/
def flatApartUptoRow : OpenClaim := { program := "ytglnnplijienbaa", sum := "e983e30ddd651eede2b1736f846a4151b06f72d8729ace69205a1ff6a37a4721", func := "framewarden/framewardenkeep.FlatApart", spec := "flatApart", unfollowed := true, recurses := true, apart := false, narrowed := true }
def FlatApartUptoSaid : Prop := flatApartUptoRow.holds Try.pinned (OpenSpec.upto flatApartSpec)

/-- 'framewardenkeep.FlatFork', WHERE WHAT IT READS IS OF BULK AT MOST 1048576: true; the input reads as it did. -/
def flatForkUptoRow : OpenClaim := { program := "ytglnnplijienbaa", sum := "e983e30ddd651eede2b1736f846a4151b06f72d8729ace69205a1ff6a37a4721", func := "framewarden/framewardenkeep.FlatFork", spec := "flatFork", unfollowed := true, recurses := true, apart := false, narrowed := true }
def FlatForkUptoSaid : Prop := flatForkUptoRow.holds Try.pinned (OpenSpec.upto flatForkSpec)

/-- 'framewardenkeep.FlatSealed', WHERE WHAT IT READS IS OF BULK AT MOST 1048576: true; the input reads as it did. -/
def flatSealedUptoRow : OpenClaim := { program := "ytglnnplijienbaa", sum := "e983e30ddd651eede2b1736f846a4151b06f72d8729ace69205a1ff6a37a4721", func := "framewarden/framewardenkeep.FlatSealed", spec := "flatSealed", unfollowed := true, recurses := true, apart := false, narrowed := true }
def FlatSealedUptoSaid : Prop := flatSealedUptoRow.holds Try.pinned (OpenSpec.upto flatSealedSpec)

end Rows
end Go.Proofs.Ytglnnplijienbaa
