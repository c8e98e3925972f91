/-
  No cell of these rows narrows 'for every input' (looked for: loops, veiled, ifaces, maps, wideKeys, modest, calm, conditions, laid).
  DERIVED. THE GIVEN ROWS OF THIS SEAT. 7 by the template 'for every input the law returns true; each argument reads behind the call as it read before'; 0 by the template 'total and deterministic' (their statements: YtfhcjainhpjdfaaTotals.lean).
  GIVEN WITH THE SEED: the statements are not yours to turn. If you find one false, say at which input.
  Laid BY PROGRAM, IN A SANDBOX (cutbox-rows.mjs): the forced cells as the released guide's own fill.sh prints them over the translation 812f0f5ea15c2476… (all of the seat's roots in one cut). By AI agents, Wed Nov 11 2026. No macro, syntax, notation, axiom, sorry.
-/
import Derived.Test.YtfhcjainhpjdfaaChecked
import GoSem.Claim
import GoSem.ClaimJoined
import GoSem.ClaimMapViews
import Derived.JoinedTies
import Derived.KernelRfl
namespace Go.Proofs.Ytfhcjainhpjdfaa
/- THE CELL 'sum', in the pinned program and in every row, IS THE sha256 OF THE DUMP (.gsa) THAT YtfhcjainhpjdfaaProg.lean LOADS. Nothing in Lean hashes anything: it is a label: what it is worth is what the hold of that sum in a sandbox is worth. -/
noncomputable def Try.pinned : Pinned := { name := "ytfhcjainhpjdfaa", sum := "812f0f5ea15c2476437a3fa90cbaaeb4d749d02eebd2f81edb429050551f5b15", checked := Try.checked }
namespace Rows
def none {H : Type} : Left H := { results := [], args := [] }

/-- 'framewardenlaw.TlbPlays': WHATEVER THE INPUT: true; the input reads as it did. -/
def tlbPlaysSpec : ChangeSpec := { name := "tlbPlays", fn := fun _ => fun
  | [d] => { results := [.lit (.bool true)], args := [d] }
  | _ => none }
def tlbPlaysRow : OpenClaim := { program := "ytfhcjainhpjdfaa", sum := "812f0f5ea15c2476437a3fa90cbaaeb4d749d02eebd2f81edb429050551f5b15", func := "framewarden/framewardenlaw.TlbPlays", spec := "tlbPlays", unfollowed := true, recurses := true, apart := false }
def TlbPlaysSaid : Prop := tlbPlaysRow.holds Try.pinned (OpenSpec.ofChange tlbPlaysSpec)

/-- ITS FALSE NEIGHBOUR: 'it returns false'. Refute it at one input. -/
def tlbPlaysWrong : ChangeSpec := { name := "tlbPlays", fn := fun _ => fun
  | [d] => { results := [.lit (.bool false)], args := [d] }
  | _ => none }
def TlbPlaysWrongFalsely : Prop := tlbPlaysRow.holds Try.pinned (OpenSpec.ofChange tlbPlaysWrong)

/-- 'framewardenkeep.TlbOther': WHATEVER THE INPUT: true; the input reads as it did. -/
def tlbOtherSpec : ChangeSpec := { name := "tlbOther", fn := fun _ => fun
  | [d1, d2] => { results := [.lit (.bool true)], args := [d1, d2] }
  | _ => none }
def tlbOtherRow : OpenClaim := { program := "ytfhcjainhpjdfaa", sum := "812f0f5ea15c2476437a3fa90cbaaeb4d749d02eebd2f81edb429050551f5b15", func := "framewarden/framewardenkeep.TlbOther", spec := "tlbOther", unfollowed := true, recurses := true, apart := false }
def TlbOtherSaid : Prop := tlbOtherRow.holds Try.pinned (OpenSpec.ofChange tlbOtherSpec)

/-- ITS FALSE NEIGHBOUR: 'it returns false'. Refute it at one input. -/
def tlbOtherWrong : ChangeSpec := { name := "tlbOther", fn := fun _ => fun
  | [d1, d2] => { results := [.lit (.bool false)], args := [d1, d2] }
  | _ => none }
def TlbOtherWrongFalsely : Prop := tlbOtherRow.holds Try.pinned (OpenSpec.ofChange tlbOtherWrong)

/-- 'framewardenkeep.TlbTrue': WHATEVER THE INPUT: true; the input reads as it did. -/
def tlbTrueSpec : ChangeSpec := { name := "tlbTrue", fn := fun _ => fun
  | [d] => { results := [.lit (.bool true)], args := [d] }
  | _ => none }
def tlbTrueRow : OpenClaim := { program := "ytfhcjainhpjdfaa", sum := "812f0f5ea15c2476437a3fa90cbaaeb4d749d02eebd2f81edb429050551f5b15", func := "framewarden/framewardenkeep.TlbTrue", spec := "tlbTrue", unfollowed := true, recurses := true, apart := false }
def TlbTrueSaid : Prop := tlbTrueRow.holds Try.pinned (OpenSpec.ofChange tlbTrueSpec)

/-- ITS FALSE NEIGHBOUR: 'it returns false'. Refute it at one input. -/
def tlbTrueWrong : ChangeSpec := { name := "tlbTrue", fn := fun _ => fun
  | [d] => { results := [.lit (.bool false)], args := [d] }
  | _ => none }
def TlbTrueWrongFalsely : Prop := tlbTrueRow.holds Try.pinned (OpenSpec.ofChange tlbTrueWrong)

/-- 'framewardenkeep.TlbLast': WHATEVER THE INPUT: true; the input reads as it did. -/
def tlbLastSpec : ChangeSpec := { name := "tlbLast", fn := fun _ => fun
  | [d1, d2] => { results := [.lit (.bool true)], args := [d1, d2] }
  | _ => none }
def tlbLastRow : OpenClaim := { program := "ytfhcjainhpjdfaa", sum := "812f0f5ea15c2476437a3fa90cbaaeb4d749d02eebd2f81edb429050551f5b15", func := "framewarden/framewardenkeep.TlbLast", spec := "tlbLast", unfollowed := true, recurses := true, apart := false }
def TlbLastSaid : Prop := tlbLastRow.holds Try.pinned (OpenSpec.ofChange tlbLastSpec)

/-- ITS FALSE NEIGHBOUR: 'it returns false'. Refute it at one input. -/
def tlbLastWrong : ChangeSpec := { name := "tlbLast", fn := fun _ => fun
  | [d1, d2] => { results := [.lit (.bool false)], args := [d1, d2] }
  | _ => none }
def TlbLastWrongFalsely : Prop := tlbLastRow.holds Try.pinned (OpenSpec.ofChange tlbLastWrong)

/-- 'framewardenkeep.SwapBack': WHATEVER THE INPUT: true; the input reads as it did. -/
def swapBackSpec : ChangeSpec := { name := "swapBack", fn := fun _ => fun
  | [d1, d2, d3, d4, d5] => { results := [.lit (.bool true)], args := [d1, d2, d3, d4, d5] }
  | _ => none }
def swapBackRow : OpenClaim := { program := "ytfhcjainhpjdfaa", sum := "812f0f5ea15c2476437a3fa90cbaaeb4d749d02eebd2f81edb429050551f5b15", func := "framewarden/framewardenkeep.SwapBack", spec := "swapBack", unfollowed := true, recurses := true, apart := false }
def SwapBackSaid : Prop := swapBackRow.holds Try.pinned (OpenSpec.ofChange swapBackSpec)

/-- ITS FALSE NEIGHBOUR: 'it returns false'. Refute it at one input. -/
def swapBackWrong : ChangeSpec := { name := "swapBack", fn := fun _ => fun
  | [d1, d2, d3, d4, d5] => { results := [.lit (.bool false)], args := [d1, d2, d3, d4, d5] }
  | _ => none }
def SwapBackWrongFalsely : Prop := swapBackRow.holds Try.pinned (OpenSpec.ofChange swapBackWrong)

/-- 'framewardenlaw.SwapTells': WHATEVER THE INPUT: true; the input reads as it did. -/
def swapTellsSpec : ChangeSpec := { name := "swapTells", fn := fun _ => fun
  | [d1, d2, d3, d4, d5] => { results := [.lit (.bool true)], args := [d1, d2, d3, d4, d5] }
  | _ => none }
def swapTellsRow : OpenClaim := { program := "ytfhcjainhpjdfaa", sum := "812f0f5ea15c2476437a3fa90cbaaeb4d749d02eebd2f81edb429050551f5b15", func := "framewarden/framewardenlaw.SwapTells", spec := "swapTells", unfollowed := true, recurses := true, apart := false }
def SwapTellsSaid : Prop := swapTellsRow.holds Try.pinned (OpenSpec.ofChange swapTellsSpec)

/-- ITS FALSE NEIGHBOUR: 'it returns false'. Refute it at one input. -/
def swapTellsWrong : ChangeSpec := { name := "swapTells", fn := fun _ => fun
  | [d1, d2, d3, d4, d5] => { results := [.lit (.bool false)], args := [d1, d2, d3, d4, d5] }
  | _ => none }
def SwapTellsWrongFalsely : Prop := swapTellsRow.holds Try.pinned (OpenSpec.ofChange swapTellsWrong)

/-- 'framewardenkeep.SwapShare': WHATEVER THE INPUT: true; the input reads as it did. -/
def swapShareSpec : ChangeSpec := { name := "swapShare", fn := fun _ => fun
  | [d1, d2] => { results := [.lit (.bool true)], args := [d1, d2] }
  | _ => none }
def swapShareRow : OpenClaim := { program := "ytfhcjainhpjdfaa", sum := "812f0f5ea15c2476437a3fa90cbaaeb4d749d02eebd2f81edb429050551f5b15", func := "framewarden/framewardenkeep.SwapShare", spec := "swapShare", unfollowed := true, recurses := true, apart := false }
def SwapShareSaid : Prop := swapShareRow.holds Try.pinned (OpenSpec.ofChange swapShareSpec)

/-- ITS FALSE NEIGHBOUR: 'it returns false'. Refute it at one input. -/
def swapShareWrong : ChangeSpec := { name := "swapShare", fn := fun _ => fun
  | [d1, d2] => { results := [.lit (.bool false)], args := [d1, d2] }
  | _ => none }
def SwapShareWrongFalsely : Prop := swapShareRow.holds Try.pinned (OpenSpec.ofChange swapShareWrong)

/- THE SECOND FORM. 'bulk': how many values and letters a reading holds, each counted each time it is reached (what is shared counts as often as it is met; a slice's spare places count too). A statement '..UptoSaid' is the law's where the arguments, and the package variables that the reading takes, are together of bulk at most 1048576: NARROWER than '..Said'. Prove '..Said' where nothing that the law and all that it calls make is longer than what came in: it says more and counts as full. Else prove '..UptoSaid'. A law counts once. -/
mutual
def uptoBulk {H : Type} : DataW H → Nat
  | .lit (.string bytes) => bytes.length + 1
  | .lit _ => 1
  | .nil => 1
  | .ptr d => uptoBulk d + 1
  | .slice elems spare => uptoBulkAll elems + uptoBulkAll spare + 1
  | .agg parts => uptoBulkAll parts + 1
  | .iface _ d => uptoBulk d + 1
  | .map entries => uptoBulkEntries entries + 1
  | .held _ => 1
def uptoBulkAll {H : Type} : List (DataW H) → Nat
  | [] => 0
  | d :: r => uptoBulk d + uptoBulkAll r
def uptoBulkEntries {H : Type} : List (Lit × DataW H) → Nat
  | [] => 0
  | x :: r => uptoBulkEntry x + uptoBulkEntries r
def uptoBulkEntry {H : Type} : Lit × DataW H → Nat
  | (.string bytes, d) => bytes.length + uptoBulk d + 1
  | (_, d) => uptoBulk d + 1
 end
def uptoSmall : (H : Type) → List (DataW H) → Bool := fun _ ds => decide (uptoBulkAll ds ≤ 1048576)
def OpenSpec.upto (s : _root_.Go.ChangeSpec) : _root_.Go.OpenSpec := { _root_.Go.OpenSpec.ofChange s with cond := some uptoSmall }

/-- 'framewardenlaw.TlbPlays', WHERE WHAT IT READS IS OF BULK AT MOST 1048576: true; the input reads as it did. -/
def tlbPlaysUptoRow : OpenClaim := { program := "ytfhcjainhpjdfaa", sum := "812f0f5ea15c2476437a3fa90cbaaeb4d749d02eebd2f81edb429050551f5b15", func := "framewarden/framewardenlaw.TlbPlays", spec := "tlbPlays", unfollowed := true, recurses := true, apart := false, narrowed := true }
def TlbPlaysUptoSaid : Prop := tlbPlaysUptoRow.holds Try.pinned (OpenSpec.upto tlbPlaysSpec)

/-- 'framewardenkeep.TlbOther', WHERE WHAT IT READS IS OF BULK AT MOST 1048576: true; the input reads as it did. -/
def tlbOtherUptoRow : OpenClaim := { program := "ytfhcjainhpjdfaa", sum := "812f0f5ea15c2476437a3fa90cbaaeb4d749d02eebd2f81edb429050551f5b15", func := "framewarden/framewardenkeep.TlbOther", spec := "tlbOther", unfollowed := true, recurses := true, apart := false, narrowed := true }
def TlbOtherUptoSaid : Prop := tlbOtherUptoRow.holds Try.pinned (OpenSpec.upto tlbOtherSpec)

/-- 'framewardenkeep.TlbTrue', WHERE WHAT IT READS IS OF BULK AT MOST 1048576: true; the input reads as it did. -/
def tlbTrueUptoRow : OpenClaim := { program := "ytfhcjainhpjdfaa", sum := "812f0f5ea15c2476437a3fa90cbaaeb4d749d02eebd2f81edb429050551f5b15", func := "framewarden/framewardenkeep.TlbTrue", spec := "tlbTrue", unfollowed := true, recurses := true, apart := false, narrowed := true }
def TlbTrueUptoSaid : Prop := tlbTrueUptoRow.holds Try.pinned (OpenSpec.upto tlbTrueSpec)

/-- 'framewardenkeep.TlbLast', WHERE WHAT IT READS IS OF BULK AT MOST 1048576: true; the input reads as it did. -/
def tlbLastUptoRow : OpenClaim := { program := "ytfhcjainhpjdfaa", sum := "812f0f5ea15c2476437a3fa90cbaaeb4d749d02eebd2f81edb429050551f5b15", func := "framewarden/framewardenkeep.TlbLast", spec := "tlbLast", unfollowed := true, recurses := true, apart := false, narrowed := true }
def TlbLastUptoSaid : Prop := tlbLastUptoRow.holds Try.pinned (OpenSpec.upto tlbLastSpec)

/-- 'framewardenkeep.SwapBack', WHERE WHAT IT READS IS OF BULK AT MOST 1048576: true; the input reads as it did. -/
def swapBackUptoRow : OpenClaim := { program := "ytfhcjainhpjdfaa", sum := "812f0f5ea15c2476437a3fa90cbaaeb4d749d02eebd2f81edb429050551f5b15", func := "framewarden/framewardenkeep.SwapBack", spec := "swapBack", unfollowed := true, recurses := true, apart := false, narrowed := true }
def SwapBackUptoSaid : Prop := swapBackUptoRow.holds Try.pinned (OpenSpec.upto swapBackSpec)

/-- 'framewardenlaw.SwapTells', WHERE WHAT IT READS IS OF BULK AT MOST 1048576: true; the input reads as it did. -/
def swapTellsUptoRow : OpenClaim := { program := "ytfhcjainhpjdfaa", sum := "812f0f5ea15c2476437a3fa90cbaaeb4d749d02eebd2f81edb429050551f5b15", func := "framewarden/framewardenlaw.SwapTells", spec := "swapTells", unfollowed := true, recurses := true, apart := false, narrowed := true }
def SwapTellsUptoSaid : Prop := swapTellsUptoRow.holds Try.pinned (OpenSpec.upto swapTellsSpec)

/-- 'framewardenkeep.SwapShare', WHERE WHAT IT READS IS OF BULK AT MOST 1048576: true; the input reads as it did. -/
def swapShareUptoRow : OpenClaim := { program := "ytfhcjainhpjdfaa", sum := "812f0f5ea15c2476437a3fa90cbaaeb4d749d02eebd2f81edb429050551f5b15", func := "framewarden/framewardenkeep.SwapShare", spec := "swapShare", unfollowed := true, recurses := true, apart := false, narrowed := true }
def SwapShareUptoSaid : Prop := swapShareUptoRow.holds Try.pinned (OpenSpec.upto swapShareSpec)

end Rows
end Go.Proofs.Ytfhcjainhpjdfaa
