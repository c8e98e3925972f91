/-
  No cell of these rows narrows 'for every input' (looked for: loops, veiled, ifaces, maps, wideKeys, modest, calm, conditions, laid).
  DERIVED. THE GIVEN ROWS OF THIS SEAT. 12 by the template 'for every input the law returns true; each argument reads behind the call as it read before'; 0 by the template 'total and deterministic' (their statements: YtokpodmefnmmcaaTotals.lean).
  GIVEN WITH THE SEED: the statements are not yours to turn. If you find one false, say at which input.
  Laid BY PROGRAM, IN A SANDBOX (cutbox-rows.mjs): the forced cells as the released guide's own fill.sh prints them over the translation d19a89a59b580f7f… (all of the seat's roots in one cut). By AI agents, Wed Nov 11 2026. No macro, syntax, notation, axiom, sorry.
-/
import Derived.Test.YtokpodmefnmmcaaChecked
import GoSem.Claim
import GoSem.ClaimJoined
import GoSem.ClaimMapViews
import Derived.JoinedTies
import Derived.KernelRfl
namespace Go.Proofs.Ytokpodmefnmmcaa
/- THE CELL 'sum', in the pinned program and in every row, IS THE sha256 OF THE DUMP (.gsa) THAT YtokpodmefnmmcaaProg.lean LOADS. Nothing in Lean hashes anything: it is a label: what it is worth is what the hold of that sum in a sandbox is worth. -/
noncomputable def Try.pinned : Pinned := { name := "ytokpodmefnmmcaa", sum := "d19a89a59b580f7fa452b3db8afef749c86ab874c524ce799ae02ba50be70181", checked := Try.checked }
namespace Rows
def none {H : Type} : Left H := { results := [], args := [] }

/-- 'framewardenlaw.EntryTells': WHATEVER THE INPUT: true; the input reads as it did. -/
def entryTellsSpec : ChangeSpec := { name := "entryTells", fn := fun _ => fun
  | [d1, d2] => { results := [.lit (.bool true)], args := [d1, d2] }
  | _ => none }
def entryTellsRow : OpenClaim := { program := "ytokpodmefnmmcaa", sum := "d19a89a59b580f7fa452b3db8afef749c86ab874c524ce799ae02ba50be70181", func := "framewarden/framewardenlaw.EntryTells", spec := "entryTells", apart := false }
def EntryTellsSaid : Prop := entryTellsRow.holds Try.pinned (OpenSpec.ofChange entryTellsSpec)

/-- ITS FALSE NEIGHBOUR: 'it returns false'. Refute it at one input. -/
def entryTellsWrong : ChangeSpec := { name := "entryTells", fn := fun _ => fun
  | [d1, d2] => { results := [.lit (.bool false)], args := [d1, d2] }
  | _ => none }
def EntryTellsWrongFalsely : Prop := entryTellsRow.holds Try.pinned (OpenSpec.ofChange entryTellsWrong)

/-- 'framewardenkeep.EntryBack': WHATEVER THE INPUT: true; the input reads as it did. -/
def entryBackSpec : ChangeSpec := { name := "entryBack", fn := fun _ => fun
  | [d1, d2] => { results := [.lit (.bool true)], args := [d1, d2] }
  | _ => none }
def entryBackRow : OpenClaim := { program := "ytokpodmefnmmcaa", sum := "d19a89a59b580f7fa452b3db8afef749c86ab874c524ce799ae02ba50be70181", func := "framewarden/framewardenkeep.EntryBack", spec := "entryBack", apart := false }
def EntryBackSaid : Prop := entryBackRow.holds Try.pinned (OpenSpec.ofChange entryBackSpec)

/-- ITS FALSE NEIGHBOUR: 'it returns false'. Refute it at one input. -/
def entryBackWrong : ChangeSpec := { name := "entryBack", fn := fun _ => fun
  | [d1, d2] => { results := [.lit (.bool false)], args := [d1, d2] }
  | _ => none }
def EntryBackWrongFalsely : Prop := entryBackRow.holds Try.pinned (OpenSpec.ofChange entryBackWrong)

/-- 'framewardenlaw.KeysTell': WHATEVER THE INPUT: true; the input reads as it did. -/
def keysTellSpec : ChangeSpec := { name := "keysTell", fn := fun _ => fun
  | [d1, d2, d3] => { results := [.lit (.bool true)], args := [d1, d2, d3] }
  | _ => none }
def keysTellRow : OpenClaim := { program := "ytokpodmefnmmcaa", sum := "d19a89a59b580f7fa452b3db8afef749c86ab874c524ce799ae02ba50be70181", func := "framewarden/framewardenlaw.KeysTell", spec := "keysTell", apart := false }
def KeysTellSaid : Prop := keysTellRow.holds Try.pinned (OpenSpec.ofChange keysTellSpec)

/-- ITS FALSE NEIGHBOUR: 'it returns false'. Refute it at one input. -/
def keysTellWrong : ChangeSpec := { name := "keysTell", fn := fun _ => fun
  | [d1, d2, d3] => { results := [.lit (.bool false)], args := [d1, d2, d3] }
  | _ => none }
def KeysTellWrongFalsely : Prop := keysTellRow.holds Try.pinned (OpenSpec.ofChange keysTellWrong)

/-- 'framewardenkeep.KeysBack': WHATEVER THE INPUT: true; the input reads as it did. -/
def keysBackSpec : ChangeSpec := { name := "keysBack", fn := fun _ => fun
  | [d] => { results := [.lit (.bool true)], args := [d] }
  | _ => none }
def keysBackRow : OpenClaim := { program := "ytokpodmefnmmcaa", sum := "d19a89a59b580f7fa452b3db8afef749c86ab874c524ce799ae02ba50be70181", func := "framewarden/framewardenkeep.KeysBack", spec := "keysBack", apart := false }
def KeysBackSaid : Prop := keysBackRow.holds Try.pinned (OpenSpec.ofChange keysBackSpec)

/-- ITS FALSE NEIGHBOUR: 'it returns false'. Refute it at one input. -/
def keysBackWrong : ChangeSpec := { name := "keysBack", fn := fun _ => fun
  | [d] => { results := [.lit (.bool false)], args := [d] }
  | _ => none }
def KeysBackWrongFalsely : Prop := keysBackRow.holds Try.pinned (OpenSpec.ofChange keysBackWrong)

/-- 'framewardenkeep.KeysApart': WHATEVER THE INPUT: true; the input reads as it did. -/
def keysApartSpec : ChangeSpec := { name := "keysApart", fn := fun _ => fun
  | [d1, d2, d3, d4, d5] => { results := [.lit (.bool true)], args := [d1, d2, d3, d4, d5] }
  | _ => none }
def keysApartRow : OpenClaim := { program := "ytokpodmefnmmcaa", sum := "d19a89a59b580f7fa452b3db8afef749c86ab874c524ce799ae02ba50be70181", func := "framewarden/framewardenkeep.KeysApart", spec := "keysApart", apart := false }
def KeysApartSaid : Prop := keysApartRow.holds Try.pinned (OpenSpec.ofChange keysApartSpec)

/-- ITS FALSE NEIGHBOUR: 'it returns false'. Refute it at one input. -/
def keysApartWrong : ChangeSpec := { name := "keysApart", fn := fun _ => fun
  | [d1, d2, d3, d4, d5] => { results := [.lit (.bool false)], args := [d1, d2, d3, d4, d5] }
  | _ => none }
def KeysApartWrongFalsely : Prop := keysApartRow.holds Try.pinned (OpenSpec.ofChange keysApartWrong)

/-- 'framewardenlaw.CheckTells': WHATEVER THE INPUT: true; the input reads as it did. -/
def checkTellsSpec : ChangeSpec := { name := "checkTells", fn := fun _ => fun
  | [d1, d2, d3, d4, d5] => { results := [.lit (.bool true)], args := [d1, d2, d3, d4, d5] }
  | _ => none }
def checkTellsRow : OpenClaim := { program := "ytokpodmefnmmcaa", sum := "d19a89a59b580f7fa452b3db8afef749c86ab874c524ce799ae02ba50be70181", func := "framewarden/framewardenlaw.CheckTells", spec := "checkTells", apart := false }
def CheckTellsSaid : Prop := checkTellsRow.holds Try.pinned (OpenSpec.ofChange checkTellsSpec)

/-- ITS FALSE NEIGHBOUR: 'it returns false'. Refute it at one input. -/
def checkTellsWrong : ChangeSpec := { name := "checkTells", fn := fun _ => fun
  | [d1, d2, d3, d4, d5] => { results := [.lit (.bool false)], args := [d1, d2, d3, d4, d5] }
  | _ => none }
def CheckTellsWrongFalsely : Prop := checkTellsRow.holds Try.pinned (OpenSpec.ofChange checkTellsWrong)

/-- 'framewardenkeep.CheckMore': WHATEVER THE INPUT: true; the input reads as it did. -/
def checkMoreSpec : ChangeSpec := { name := "checkMore", fn := fun _ => fun
  | [d1, d2, d3, d4, d5] => { results := [.lit (.bool true)], args := [d1, d2, d3, d4, d5] }
  | _ => none }
def checkMoreRow : OpenClaim := { program := "ytokpodmefnmmcaa", sum := "d19a89a59b580f7fa452b3db8afef749c86ab874c524ce799ae02ba50be70181", func := "framewarden/framewardenkeep.CheckMore", spec := "checkMore", apart := false }
def CheckMoreSaid : Prop := checkMoreRow.holds Try.pinned (OpenSpec.ofChange checkMoreSpec)

/-- ITS FALSE NEIGHBOUR: 'it returns false'. Refute it at one input. -/
def checkMoreWrong : ChangeSpec := { name := "checkMore", fn := fun _ => fun
  | [d1, d2, d3, d4, d5] => { results := [.lit (.bool false)], args := [d1, d2, d3, d4, d5] }
  | _ => none }
def CheckMoreWrongFalsely : Prop := checkMoreRow.holds Try.pinned (OpenSpec.ofChange checkMoreWrong)

/-- 'framewardenkeep.CheckWrite': WHATEVER THE INPUT: true; the input reads as it did. -/
def checkWriteSpec : ChangeSpec := { name := "checkWrite", fn := fun _ => fun
  | [d1, d2, d3] => { results := [.lit (.bool true)], args := [d1, d2, d3] }
  | _ => none }
def checkWriteRow : OpenClaim := { program := "ytokpodmefnmmcaa", sum := "d19a89a59b580f7fa452b3db8afef749c86ab874c524ce799ae02ba50be70181", func := "framewarden/framewardenkeep.CheckWrite", spec := "checkWrite", apart := false }
def CheckWriteSaid : Prop := checkWriteRow.holds Try.pinned (OpenSpec.ofChange checkWriteSpec)

/-- ITS FALSE NEIGHBOUR: 'it returns false'. Refute it at one input. -/
def checkWriteWrong : ChangeSpec := { name := "checkWrite", fn := fun _ => fun
  | [d1, d2, d3] => { results := [.lit (.bool false)], args := [d1, d2, d3] }
  | _ => none }
def CheckWriteWrongFalsely : Prop := checkWriteRow.holds Try.pinned (OpenSpec.ofChange checkWriteWrong)

/-- 'framewardenkeep.CheckTags': WHATEVER THE INPUT: true; the input reads as it did. -/
def checkTagsSpec : ChangeSpec := { name := "checkTags", fn := fun _ => fun
  | [d1, d2, d3, d4] => { results := [.lit (.bool true)], args := [d1, d2, d3, d4] }
  | _ => none }
def checkTagsRow : OpenClaim := { program := "ytokpodmefnmmcaa", sum := "d19a89a59b580f7fa452b3db8afef749c86ab874c524ce799ae02ba50be70181", func := "framewarden/framewardenkeep.CheckTags", spec := "checkTags", apart := false }
def CheckTagsSaid : Prop := checkTagsRow.holds Try.pinned (OpenSpec.ofChange checkTagsSpec)

/-- ITS FALSE NEIGHBOUR: 'it returns false'. Refute it at one input. -/
def checkTagsWrong : ChangeSpec := { name := "checkTags", fn := fun _ => fun
  | [d1, d2, d3, d4] => { results := [.lit (.bool false)], args := [d1, d2, d3, d4] }
  | _ => none }
def CheckTagsWrongFalsely : Prop := checkTagsRow.holds Try.pinned (OpenSpec.ofChange checkTagsWrong)

/-- 'framewardenlaw.TagsTell': WHATEVER THE INPUT: true; the input reads as it did. -/
def tagsTellSpec : ChangeSpec := { name := "tagsTell", fn := fun _ => fun
  | [d1, d2, d3, d4, d5] => { results := [.lit (.bool true)], args := [d1, d2, d3, d4, d5] }
  | _ => none }
def tagsTellRow : OpenClaim := { program := "ytokpodmefnmmcaa", sum := "d19a89a59b580f7fa452b3db8afef749c86ab874c524ce799ae02ba50be70181", func := "framewarden/framewardenlaw.TagsTell", spec := "tagsTell", apart := false }
def TagsTellSaid : Prop := tagsTellRow.holds Try.pinned (OpenSpec.ofChange tagsTellSpec)

/-- ITS FALSE NEIGHBOUR: 'it returns false'. Refute it at one input. -/
def tagsTellWrong : ChangeSpec := { name := "tagsTell", fn := fun _ => fun
  | [d1, d2, d3, d4, d5] => { results := [.lit (.bool false)], args := [d1, d2, d3, d4, d5] }
  | _ => none }
def TagsTellWrongFalsely : Prop := tagsTellRow.holds Try.pinned (OpenSpec.ofChange tagsTellWrong)

/-- 'framewardenkeep.TagsBack': WHATEVER THE INPUT: true; the input reads as it did. -/
def tagsBackSpec : ChangeSpec := { name := "tagsBack", fn := fun _ => fun
  | [d1, d2, d3, d4, d5] => { results := [.lit (.bool true)], args := [d1, d2, d3, d4, d5] }
  | _ => none }
def tagsBackRow : OpenClaim := { program := "ytokpodmefnmmcaa", sum := "d19a89a59b580f7fa452b3db8afef749c86ab874c524ce799ae02ba50be70181", func := "framewarden/framewardenkeep.TagsBack", spec := "tagsBack", apart := false }
def TagsBackSaid : Prop := tagsBackRow.holds Try.pinned (OpenSpec.ofChange tagsBackSpec)

/-- ITS FALSE NEIGHBOUR: 'it returns false'. Refute it at one input. -/
def tagsBackWrong : ChangeSpec := { name := "tagsBack", fn := fun _ => fun
  | [d1, d2, d3, d4, d5] => { results := [.lit (.bool false)], args := [d1, d2, d3, d4, d5] }
  | _ => none }
def TagsBackWrongFalsely : Prop := tagsBackRow.holds Try.pinned (OpenSpec.ofChange tagsBackWrong)

/-- 'framewardenkeep.TagsParts': WHATEVER THE INPUT: true; the input reads as it did. -/
def tagsPartsSpec : ChangeSpec := { name := "tagsParts", fn := fun _ => fun
  | [d1, d2, d3, d4, d5] => { results := [.lit (.bool true)], args := [d1, d2, d3, d4, d5] }
  | _ => none }
def tagsPartsRow : OpenClaim := { program := "ytokpodmefnmmcaa", sum := "d19a89a59b580f7fa452b3db8afef749c86ab874c524ce799ae02ba50be70181", func := "framewarden/framewardenkeep.TagsParts", spec := "tagsParts", apart := false }
def TagsPartsSaid : Prop := tagsPartsRow.holds Try.pinned (OpenSpec.ofChange tagsPartsSpec)

/-- ITS FALSE NEIGHBOUR: 'it returns false'. Refute it at one input. -/
def tagsPartsWrong : ChangeSpec := { name := "tagsParts", fn := fun _ => fun
  | [d1, d2, d3, d4, d5] => { results := [.lit (.bool false)], args := [d1, d2, d3, d4, d5] }
  | _ => none }
def TagsPartsWrongFalsely : Prop := tagsPartsRow.holds Try.pinned (OpenSpec.ofChange tagsPartsWrong)

/- THE SECOND FORM. 'bulk': how many values and letters a reading holds, each counted each time it is reached (what is shared counts as often as it is met; a slice's spare places count too). A statement '..UptoSaid' is the law's where the arguments, and the package variables that the reading takes, are together of bulk at most 1048576: NARROWER than '..Said'. Prove '..Said' where nothing that the law and all that it calls make is longer than what came in: it says more and counts as full. Else prove '..UptoSaid'. A law counts once. -/
mutual
def uptoBulk {H : Type} : DataW H → Nat
  | .lit (.string bytes) => bytes.length + 1
  | .lit _ => 1
  | .nil => 1
  | .ptr d => uptoBulk d + 1
  | .slice elems spare => uptoBulkAll elems + uptoBulkAll spare + 1
  | .agg parts => uptoBulkAll parts + 1
  | .iface _ d => uptoBulk d + 1
  | .map entries => uptoBulkEntries entries + 1
  | .held _ => 1
def uptoBulkAll {H : Type} : List (DataW H) → Nat
  | [] => 0
  | d :: r => uptoBulk d + uptoBulkAll r
def uptoBulkEntries {H : Type} : List (Lit × DataW H) → Nat
  | [] => 0
  | x :: r => uptoBulkEntry x + uptoBulkEntries r
def uptoBulkEntry {H : Type} : Lit × DataW H → Nat
  | (.string bytes, d) => bytes.length + uptoBulk d + 1
  | (_, d) => uptoBulk d + 1
 end
def uptoSmall : (H : Type) → List (DataW H) → Bool := fun _ ds => decide (uptoBulkAll ds ≤ 1048576)
def OpenSpec.upto (s : _root_.Go.ChangeSpec) : _root_.Go.OpenSpec := { _root_.Go.OpenSpec.ofChange s with cond := some uptoSmall }

/-- 'framewardenlaw.EntryTells', WHERE WHAT IT READS IS OF BULK AT MOST 1048576: true; the input reads as it did. -/
def entryTellsUptoRow : OpenClaim := { program := "ytokpodmefnmmcaa", sum := "d19a89a59b580f7fa452b3db8afef749c86ab874c524ce799ae02ba50be70181", func := "framewarden/framewardenlaw.EntryTells", spec := "entryTells", apart := false, narrowed := true }
def EntryTellsUptoSaid : Prop := entryTellsUptoRow.holds Try.pinned (OpenSpec.upto entryTellsSpec)

/-- 'framewardenkeep.EntryBack', WHERE WHAT IT READS IS OF BULK AT MOST 1048576: true; the input reads as it did. -/
def entryBackUptoRow : OpenClaim := { program := "ytokpodmefnmmcaa", sum := "d19a89a59b580f7fa452b3db8afef749c86ab874c524ce799ae02ba50be70181", func := "framewarden/framewardenkeep.EntryBack", spec := "entryBack", apart := false, narrowed := true }
def EntryBackUptoSaid : Prop := entryBackUptoRow.holds Try.pinned (OpenSpec.upto entryBackSpec)

/-- 'framewardenlaw.KeysTell', WHERE WHAT IT READS IS OF BULK AT MOST 1048576: true; the input reads as it did. -/
def keysTellUptoRow : OpenClaim := { program := "ytokpodmefnmmcaa", sum := "d19a89a59b580f7fa452b3db8afef749c86ab874c524ce799ae02ba50be70181", func := "framewarden/framewardenlaw.KeysTell", spec := "keysTell", apart := false, narrowed := true }
def KeysTellUptoSaid : Prop := keysTellUptoRow.holds Try.pinned (OpenSpec.upto keysTellSpec)

/-- 'framewardenkeep.KeysBack', WHERE WHAT IT READS IS OF BULK AT MOST 1048576: true; the input reads as it did. -/
def keysBackUptoRow : OpenClaim := { program := "ytokpodmefnmmcaa", sum := "d19a89a59b580f7fa452b3db8afef749c86ab874c524ce799ae02ba50be70181", func := "framewarden/framewardenkeep.KeysBack", spec := "keysBack", apart := false, narrowed := true }
def KeysBackUptoSaid : Prop := keysBackUptoRow.holds Try.pinned (OpenSpec.upto keysBackSpec)

/-- 'framewardenkeep.KeysApart', WHERE WHAT IT READS IS OF BULK AT MOST 1048576: true; the input reads as it did. -/
def keysApartUptoRow : OpenClaim := { program := "ytokpodmefnmmcaa", sum := "d19a89a59b580f7fa452b3db8afef749c86ab874c524ce799ae02ba50be70181", func := "framewarden/framewardenkeep.KeysApart", spec := "keysApart", apart := false, narrowed := true }
def KeysApartUptoSaid : Prop := keysApartUptoRow.holds Try.pinned (OpenSpec.upto keysApartSpec)

/-- 'framewardenlaw.CheckTells', WHERE WHAT IT READS IS OF BULK AT MOST 1048576: true; the input reads as it did. -/
def checkTellsUptoRow : OpenClaim := { program := "ytokpodmefnmmcaa", sum := "d19a89a59b580f7fa452b3db8afef749c86ab874c524ce799ae02ba50be70181", func := "framewarden/framewardenlaw.CheckTells", spec := "checkTells", apart := false, narrowed := true }
def CheckTellsUptoSaid : Prop := checkTellsUptoRow.holds Try.pinned (OpenSpec.upto checkTellsSpec)

/-- 'framewardenkeep.CheckMore', WHERE WHAT IT READS IS OF BULK AT MOST 1048576: true; the input reads as it did. -/
def checkMoreUptoRow : OpenClaim := { program := "ytokpodmefnmmcaa", sum := "d19a89a59b580f7fa452b3db8afef749c86ab874c524ce799ae02ba50be70181", func := "framewarden/framewardenkeep.CheckMore", spec := "checkMore", apart := false, narrowed := true }
def CheckMoreUptoSaid : Prop := checkMoreUptoRow.holds Try.pinned (OpenSpec.upto checkMoreSpec)

/-- 'framewardenkeep.CheckWrite', WHERE WHAT IT READS IS OF BULK AT MOST 1048576: true; the input reads as it did. -/
def checkWriteUptoRow : OpenClaim := { program := "ytokpodmefnmmcaa", sum := "d19a89a59b580f7fa452b3db8afef749c86ab874c524ce799ae02ba50be70181", func := "framewarden/framewardenkeep.CheckWrite", spec := "checkWrite", apart := false, narrowed := true }
def CheckWriteUptoSaid : Prop := checkWriteUptoRow.holds Try.pinned (OpenSpec.upto checkWriteSpec)

/-- 'framewardenkeep.CheckTags', WHERE WHAT IT READS IS OF BULK AT MOST 1048576: true; the input reads as it did. -/
def checkTagsUptoRow : OpenClaim := { program := "ytokpodmefnmmcaa", sum := "d19a89a59b580f7fa452b3db8afef749c86ab874c524ce799ae02ba50be70181", func := "framewarden/framewardenkeep.CheckTags", spec := "checkTags", apart := false, narrowed := true }
def CheckTagsUptoSaid : Prop := checkTagsUptoRow.holds Try.pinned (OpenSpec.upto checkTagsSpec)

/-- 'framewardenlaw.TagsTell', WHERE WHAT IT READS IS OF BULK AT MOST 1048576: true; the input reads as it did. -/
def tagsTellUptoRow : OpenClaim := { program := "ytokpodmefnmmcaa", sum := "d19a89a59b580f7fa452b3db8afef749c86ab874c524ce799ae02ba50be70181", func := "framewarden/framewardenlaw.TagsTell", spec := "tagsTell", apart := false, narrowed := true }
def TagsTellUptoSaid : Prop := tagsTellUptoRow.holds Try.pinned (OpenSpec.upto tagsTellSpec)

/-- 'framewardenkeep.TagsBack', WHERE WHAT IT READS IS OF BULK AT MOST 1048576: true; the input reads as it did. -/
def tagsBackUptoRow : OpenClaim := { program := "ytokpodmefnmmcaa", sum := "d19a89a59b580f7fa452b3db8afef749c86ab874c524ce799ae02ba50be70181", func := "framewarden/framewardenkeep.TagsBack", spec := "tagsBack", apart := false, narrowed := true }
def TagsBackUptoSaid : Prop := tagsBackUptoRow.holds Try.pinned (OpenSpec.upto tagsBackSpec)

/-- 'framewardenkeep.TagsParts', WHERE WHAT IT READS IS OF BULK AT MOST 1048576: true; the input reads as it did. -/
def tagsPartsUptoRow : OpenClaim := { program := "ytokpodmefnmmcaa", sum := "d19a89a59b580f7fa452b3db8afef749c86ab874c524ce799ae02ba50be70181", func := "framewarden/framewardenkeep.TagsParts", spec := "tagsParts", apart := false, narrowed := true }
def TagsPartsUptoSaid : Prop := tagsPartsUptoRow.holds Try.pinned (OpenSpec.upto tagsPartsSpec)

end Rows
end Go.Proofs.Ytokpodmefnmmcaa
