/-
  No cell of these rows narrows 'for every input' (looked for: loops, veiled, ifaces, maps, wideKeys, modest, calm, conditions, laid).
  DERIVED. THE GIVEN ROWS OF THIS SEAT. 8 by the template 'for every input the law returns true; each argument reads behind the call as it read before'; 0 by the template 'total and deterministic' (their statements: YtnpmbjplmollkaaTotals.lean).
  GIVEN WITH THE SEED: the statements are not yours to turn. If you find one false, say at which input.
  Laid BY PROGRAM, IN A SANDBOX (cutbox-rows.mjs): the forced cells as the released guide's own fill.sh prints them over the translation 9c0f7b830fadd05c… (all of the seat's roots in one cut). By AI agents, Wed Nov 11 2026. No macro, syntax, notation, axiom, sorry.
-/
import Derived.Test.YtnpmbjplmollkaaChecked
import GoSem.Claim
import GoSem.ClaimJoined
import GoSem.ClaimMapViews
import Derived.JoinedTies
import Derived.KernelRfl
namespace Go.Proofs.Ytnpmbjplmollkaa
/- THE CELL 'sum', in the pinned program and in every row, IS THE sha256 OF THE DUMP (.gsa) THAT YtnpmbjplmollkaaProg.lean LOADS. Nothing in Lean hashes anything: it is a label: what it is worth is what the hold of that sum in a sandbox is worth. -/
noncomputable def Try.pinned : Pinned := { name := "ytnpmbjplmollkaa", sum := "9c0f7b830fadd05cc50b00da77bf08759cb2a994094190f8eb958cd735b28f17", checked := Try.checked }
namespace Rows
def none {H : Type} : Left H := { results := [], args := [] }

/-- 'framewardenlaw.RegionAdds': WHATEVER THE INPUT: true; the input reads as it did. -/
def regionAddsSpec : ChangeSpec := { name := "regionAdds", fn := fun _ => fun
  | [d1, d2] => { results := [.lit (.bool true)], args := [d1, d2] }
  | _ => none }
def regionAddsRow : OpenClaim := { program := "ytnpmbjplmollkaa", sum := "9c0f7b830fadd05cc50b00da77bf08759cb2a994094190f8eb958cd735b28f17", func := "framewarden/framewardenlaw.RegionAdds", spec := "regionAdds", unfollowed := true, recurses := true, apart := false }
def RegionAddsSaid : Prop := regionAddsRow.holds Try.pinned (OpenSpec.ofChange regionAddsSpec)

/-- ITS FALSE NEIGHBOUR: 'it returns false'. Refute it at one input. -/
def regionAddsWrong : ChangeSpec := { name := "regionAdds", fn := fun _ => fun
  | [d1, d2] => { results := [.lit (.bool false)], args := [d1, d2] }
  | _ => none }
def RegionAddsWrongFalsely : Prop := regionAddsRow.holds Try.pinned (OpenSpec.ofChange regionAddsWrong)

/-- 'framewardenlaw.RegionTurns': WHATEVER THE INPUT: true; the input reads as it did. -/
def regionTurnsSpec : ChangeSpec := { name := "regionTurns", fn := fun _ => fun
  | [d1, d2, d3, d4] => { results := [.lit (.bool true)], args := [d1, d2, d3, d4] }
  | _ => none }
def regionTurnsRow : OpenClaim := { program := "ytnpmbjplmollkaa", sum := "9c0f7b830fadd05cc50b00da77bf08759cb2a994094190f8eb958cd735b28f17", func := "framewarden/framewardenlaw.RegionTurns", spec := "regionTurns", unfollowed := true, recurses := true, apart := false }
def RegionTurnsSaid : Prop := regionTurnsRow.holds Try.pinned (OpenSpec.ofChange regionTurnsSpec)

/-- ITS FALSE NEIGHBOUR: 'it returns false'. Refute it at one input. -/
def regionTurnsWrong : ChangeSpec := { name := "regionTurns", fn := fun _ => fun
  | [d1, d2, d3, d4] => { results := [.lit (.bool false)], args := [d1, d2, d3, d4] }
  | _ => none }
def RegionTurnsWrongFalsely : Prop := regionTurnsRow.holds Try.pinned (OpenSpec.ofChange regionTurnsWrong)

/-- 'framewardenkeep.RegionBack': WHATEVER THE INPUT: true; the input reads as it did. -/
def regionBackSpec : ChangeSpec := { name := "regionBack", fn := fun _ => fun
  | [d1, d2] => { results := [.lit (.bool true)], args := [d1, d2] }
  | _ => none }
def regionBackRow : OpenClaim := { program := "ytnpmbjplmollkaa", sum := "9c0f7b830fadd05cc50b00da77bf08759cb2a994094190f8eb958cd735b28f17", func := "framewarden/framewardenkeep.RegionBack", spec := "regionBack", unfollowed := true, recurses := true, apart := false }
def RegionBackSaid : Prop := regionBackRow.holds Try.pinned (OpenSpec.ofChange regionBackSpec)

/-- ITS FALSE NEIGHBOUR: 'it returns false'. Refute it at one input. -/
def regionBackWrong : ChangeSpec := { name := "regionBack", fn := fun _ => fun
  | [d1, d2] => { results := [.lit (.bool false)], args := [d1, d2] }
  | _ => none }
def RegionBackWrongFalsely : Prop := regionBackRow.holds Try.pinned (OpenSpec.ofChange regionBackWrong)

/-- 'framewardenkeep.RegionOnce': WHATEVER THE INPUT: true; the input reads as it did. -/
def regionOnceSpec : ChangeSpec := { name := "regionOnce", fn := fun _ => fun
  | [d1, d2, d3, d4, d5, d6] => { results := [.lit (.bool true)], args := [d1, d2, d3, d4, d5, d6] }
  | _ => none }
def regionOnceRow : OpenClaim := { program := "ytnpmbjplmollkaa", sum := "9c0f7b830fadd05cc50b00da77bf08759cb2a994094190f8eb958cd735b28f17", func := "framewarden/framewardenkeep.RegionOnce", spec := "regionOnce", unfollowed := true, recurses := true, apart := false }
def RegionOnceSaid : Prop := regionOnceRow.holds Try.pinned (OpenSpec.ofChange regionOnceSpec)

/-- ITS FALSE NEIGHBOUR: 'it returns false'. Refute it at one input. -/
def regionOnceWrong : ChangeSpec := { name := "regionOnce", fn := fun _ => fun
  | [d1, d2, d3, d4, d5, d6] => { results := [.lit (.bool false)], args := [d1, d2, d3, d4, d5, d6] }
  | _ => none }
def RegionOnceWrongFalsely : Prop := regionOnceRow.holds Try.pinned (OpenSpec.ofChange regionOnceWrong)

/-- 'framewardenkeep.RegionPages': WHATEVER THE INPUT: true; the input reads as it did. -/
def regionPagesSpec : ChangeSpec := { name := "regionPages", fn := fun _ => fun
  | [d1, d2, d3, d4, d5] => { results := [.lit (.bool true)], args := [d1, d2, d3, d4, d5] }
  | _ => none }
def regionPagesRow : OpenClaim := { program := "ytnpmbjplmollkaa", sum := "9c0f7b830fadd05cc50b00da77bf08759cb2a994094190f8eb958cd735b28f17", func := "framewarden/framewardenkeep.RegionPages", spec := "regionPages", unfollowed := true, recurses := true, apart := false }
def RegionPagesSaid : Prop := regionPagesRow.holds Try.pinned (OpenSpec.ofChange regionPagesSpec)

/-- ITS FALSE NEIGHBOUR: 'it returns false'. Refute it at one input. -/
def regionPagesWrong : ChangeSpec := { name := "regionPages", fn := fun _ => fun
  | [d1, d2, d3, d4, d5] => { results := [.lit (.bool false)], args := [d1, d2, d3, d4, d5] }
  | _ => none }
def RegionPagesWrongFalsely : Prop := regionPagesRow.holds Try.pinned (OpenSpec.ofChange regionPagesWrong)

/-- 'framewardenlaw.PlaceTells': WHATEVER THE INPUT: true; the input reads as it did. -/
def placeTellsSpec : ChangeSpec := { name := "placeTells", fn := fun _ => fun
  | [d1, d2, d3] => { results := [.lit (.bool true)], args := [d1, d2, d3] }
  | _ => none }
def placeTellsRow : OpenClaim := { program := "ytnpmbjplmollkaa", sum := "9c0f7b830fadd05cc50b00da77bf08759cb2a994094190f8eb958cd735b28f17", func := "framewarden/framewardenlaw.PlaceTells", spec := "placeTells", unfollowed := true, recurses := true, apart := false }
def PlaceTellsSaid : Prop := placeTellsRow.holds Try.pinned (OpenSpec.ofChange placeTellsSpec)

/-- ITS FALSE NEIGHBOUR: 'it returns false'. Refute it at one input. -/
def placeTellsWrong : ChangeSpec := { name := "placeTells", fn := fun _ => fun
  | [d1, d2, d3] => { results := [.lit (.bool false)], args := [d1, d2, d3] }
  | _ => none }
def PlaceTellsWrongFalsely : Prop := placeTellsRow.holds Try.pinned (OpenSpec.ofChange placeTellsWrong)

/-- 'framewardenkeep.PlaceLess': WHATEVER THE INPUT: true; the input reads as it did. -/
def placeLessSpec : ChangeSpec := { name := "placeLess", fn := fun _ => fun
  | [d1, d2, d3, d4] => { results := [.lit (.bool true)], args := [d1, d2, d3, d4] }
  | _ => none }
def placeLessRow : OpenClaim := { program := "ytnpmbjplmollkaa", sum := "9c0f7b830fadd05cc50b00da77bf08759cb2a994094190f8eb958cd735b28f17", func := "framewarden/framewardenkeep.PlaceLess", spec := "placeLess", unfollowed := true, recurses := true, apart := false }
def PlaceLessSaid : Prop := placeLessRow.holds Try.pinned (OpenSpec.ofChange placeLessSpec)

/-- ITS FALSE NEIGHBOUR: 'it returns false'. Refute it at one input. -/
def placeLessWrong : ChangeSpec := { name := "placeLess", fn := fun _ => fun
  | [d1, d2, d3, d4] => { results := [.lit (.bool false)], args := [d1, d2, d3, d4] }
  | _ => none }
def PlaceLessWrongFalsely : Prop := placeLessRow.holds Try.pinned (OpenSpec.ofChange placeLessWrong)

/-- 'framewardenkeep.PlaceGuard': WHATEVER THE INPUT: true; the input reads as it did. -/
def placeGuardSpec : ChangeSpec := { name := "placeGuard", fn := fun _ => fun
  | [d1, d2, d3, d4] => { results := [.lit (.bool true)], args := [d1, d2, d3, d4] }
  | _ => none }
def placeGuardRow : OpenClaim := { program := "ytnpmbjplmollkaa", sum := "9c0f7b830fadd05cc50b00da77bf08759cb2a994094190f8eb958cd735b28f17", func := "framewarden/framewardenkeep.PlaceGuard", spec := "placeGuard", unfollowed := true, recurses := true, apart := false }
def PlaceGuardSaid : Prop := placeGuardRow.holds Try.pinned (OpenSpec.ofChange placeGuardSpec)

/-- ITS FALSE NEIGHBOUR: 'it returns false'. Refute it at one input. -/
def placeGuardWrong : ChangeSpec := { name := "placeGuard", fn := fun _ => fun
  | [d1, d2, d3, d4] => { results := [.lit (.bool false)], args := [d1, d2, d3, d4] }
  | _ => none }
def PlaceGuardWrongFalsely : Prop := placeGuardRow.holds Try.pinned (OpenSpec.ofChange placeGuardWrong)

/- THE SECOND FORM. 'bulk': how many values and letters a reading holds, each counted each time it is reached (what is shared counts as often as it is met; a slice's spare places count too). A statement '..UptoSaid' is the law's where the arguments, and the package variables that the reading takes, are together of bulk at most 1048576: NARROWER than '..Said'. Prove '..Said' where nothing that the law and all that it calls make is longer than what came in: it says more and counts as full. Else prove '..UptoSaid'. A law counts once. -/
mutual
def uptoBulk {H : Type} : DataW H → Nat
  | .lit (.string bytes) => bytes.length + 1
  | .lit _ => 1
  | .nil => 1
  | .ptr d => uptoBulk d + 1
  | .slice elems spare => uptoBulkAll elems + uptoBulkAll spare + 1
  | .agg parts => uptoBulkAll parts + 1
  | .iface _ d => uptoBulk d + 1
  | .map entries => uptoBulkEntries entries + 1
  | .held _ => 1
def uptoBulkAll {H : Type} : List (DataW H) → Nat
  | [] => 0
  | d :: r => uptoBulk d + uptoBulkAll r
def uptoBulkEntries {H : Type} : List (Lit × DataW H) → Nat
  | [] => 0
  | x :: r => uptoBulkEntry x + uptoBulkEntries r
def uptoBulkEntry {H : Type} : Lit × DataW H → Nat
  | (.string bytes, d) => bytes.length + uptoBulk d + 1
  | (_, d) => uptoBulk d + 1
 end
def uptoSmall : (H : Type) → List (DataW H) → Bool := fun _ ds => decide (uptoBulkAll ds ≤ 1048576)
def OpenSpec.upto (s : _root_.Go.ChangeSpec) : _root_.Go.OpenSpec := { _root_.Go.OpenSpec.ofChange s with cond := some uptoSmall }

/-- 'framewardenlaw.RegionAdds', WHERE WHAT IT READS IS OF BULK AT MOST 1048576: true; the input reads as it did. -/
def regionAddsUptoRow : OpenClaim := { program := "ytnpmbjplmollkaa", sum := "9c0f7b830fadd05cc50b00da77bf08759cb2a994094190f8eb958cd735b28f17", func := "framewarden/framewardenlaw.RegionAdds", spec := "regionAdds", unfollowed := true, recurses := true, apart := false, narrowed := true }
def RegionAddsUptoSaid : Prop := regionAddsUptoRow.holds Try.pinned (OpenSpec.upto regionAddsSpec)

/-- 'framewardenlaw.RegionTurns', WHERE WHAT IT READS IS OF BULK AT MOST 1048576: true; the input reads as it did. -/
def regionTurnsUptoRow : OpenClaim := { program := "ytnpmbjplmollkaa", sum := "9c0f7b830fadd05cc50b00da77bf08759cb2a994094190f8eb958cd735b28f17", func := "framewarden/framewardenlaw.RegionTurns", spec := "regionTurns", unfollowed := true, recurses := true, apart := false, narrowed := true }
def RegionTurnsUptoSaid : Prop := regionTurnsUptoRow.holds Try.pinned (OpenSpec.upto regionTurnsSpec)

/-- 'framewardenkeep.RegionBack', WHERE WHAT IT READS IS OF BULK AT MOST 1048576: true; the input reads as it did. -/
def regionBackUptoRow : OpenClaim := { program := "ytnpmbjplmollkaa", sum := "9c0f7b830fadd05cc50b00da77bf08759cb2a994094190f8eb958cd735b28f17", func := "framewarden/framewardenkeep.RegionBack", spec := "regionBack", unfollowed := true, recurses := true, apart := false, narrowed := true }
def RegionBackUptoSaid : Prop := regionBackUptoRow.holds Try.pinned (OpenSpec.upto regionBackSpec)

/-- 'framewardenkeep.RegionOnce', WHERE WHAT IT READS IS OF BULK AT MOST 1048576: true; the input reads as it did. -/
def regionOnceUptoRow : OpenClaim := { program := "ytnpmbjplmollkaa", sum := "9c0f7b830fadd05cc50b00da77bf08759cb2a994094190f8eb958cd735b28f17", func := "framewarden/framewardenkeep.RegionOnce", spec := "regionOnce", unfollowed := true, recurses := true, apart := false, narrowed := true }
def RegionOnceUptoSaid : Prop := regionOnceUptoRow.holds Try.pinned (OpenSpec.upto regionOnceSpec)

/-- 'framewardenkeep.RegionPages', WHERE WHAT IT READS IS OF BULK AT MOST 1048576: true; the input reads as it did. -/
def regionPagesUptoRow : OpenClaim := { program := "ytnpmbjplmollkaa", sum := "9c0f7b830fadd05cc50b00da77bf08759cb2a994094190f8eb958cd735b28f17", func := "framewarden/framewardenkeep.RegionPages", spec := "regionPages", unfollowed := true, recurses := true, apart := false, narrowed := true }
def RegionPagesUptoSaid : Prop := regionPagesUptoRow.holds Try.pinned (OpenSpec.upto regionPagesSpec)

/-- 'framewardenlaw.PlaceTells', WHERE WHAT IT READS IS OF BULK AT MOST 1048576: true; the input reads as it did. -/
def placeTellsUptoRow : OpenClaim := { program := "ytnpmbjplmollkaa", sum := "9c0f7b830fadd05cc50b00da77bf08759cb2a994094190f8eb958cd735b28f17", func := "framewarden/framewardenlaw.PlaceTells", spec := "placeTells", unfollowed := true, recurses := true, apart := false, narrowed := true }
def PlaceTellsUptoSaid : Prop := placeTellsUptoRow.holds Try.pinned (OpenSpec.upto placeTellsSpec)

/-- 'framewardenkeep.PlaceLess', WHERE WHAT IT READS IS OF BULK AT MOST 1048576: true; the input reads as it did. -/
def placeLessUptoRow : OpenClaim := { program := "ytnpmbjplmollkaa", sum := "9c0f7b830fadd05cc50b00da77bf08759cb2a994094190f8eb958cd735b28f17", func := "framewarden/framewardenkeep.PlaceLess", spec := "placeLess", unfollowed := true, recurses := true, apart := false, narrowed := true }
def PlaceLessUptoSaid : Prop := placeLessUptoRow.holds Try.pinned (OpenSpec.upto placeLessSpec)

/-- 'framewardenkeep.PlaceGuard', WHERE WHAT IT READS IS OF BULK AT MOST 1048576: true; the input reads as it did. -/
def placeGuardUptoRow : OpenClaim := { program := "ytnpmbjplmollkaa", sum := "9c0f7b830fadd05cc50b00da77bf08759cb2a994094190f8eb958cd735b28f17", func := "framewarden/framewardenkeep.PlaceGuard", spec := "placeGuard", unfollowed := true, recurses := true, apart := false, narrowed := true }
def PlaceGuardUptoSaid : Prop := placeGuardUptoRow.holds Try.pinned (OpenSpec.upto placeGuardSpec)

end Rows
end Go.Proofs.Ytnpmbjplmollkaa
