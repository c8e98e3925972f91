/- string of bytes: Bytes as text, and slices of bytes that are made. -/
import Derived.Test.YtglnnplijienbaaCOwn
import Derived.Laws.BytesArg
import Derived.Laws.MakeOwn
namespace Go.Proofs.Ytglnnplijienbaa
open Go.RowKit

theorem conv_row {w : World} {B : Nat} {A : Option Addr} {n c : Nat} {zs : List Int} (h : Row .u8 w B A n zs) : (convert 50 9 (.slice A n c)).run Try.prog w = .ok (.string (strOfNums zs)) w := by
  rcases Nat.eq_zero_or_pos n with h0 | h0
  · subst h0
    have hl : zs = [] := List.eq_nil_of_length_eq_zero h.1
    subst hl
    cases A with
    | none => exact run_convert_bytes_nil w _ _ Try.underlying50 Try.underlying5 0 c _ Try.underlying9
    | some x =>
      have hl : (loadCells x 0).run Try.prog w = .ok (([] : List Int).map (Value.int .u8)).toArray w := by
        simpa using run_loadCells_list (P := Try.prog) w x [] (fun j v hj => by simp at hj)
      rw [run_convert_bytes_string w _ _ _ _ 0 c Try.underlying50 Try.underlying5 Try.underlying9, run_bytesToString w _ 0 c [] hl]
      rfl
  · obtain ⟨b, off, rfl, _, hc⟩ := h.2.2 h0
    exact run_convert_bytes_arg w _ _ Try.underlying50 Try.underlying5 b off n c zs h.1 hc _ Try.underlying9

/-- So many noughts, as cells. -/
def zcells (k : Nat) : Array Value := madeCells (Value.int .u8 0).cells (k * 1)
end Go.Proofs.Ytglnnplijienbaa
