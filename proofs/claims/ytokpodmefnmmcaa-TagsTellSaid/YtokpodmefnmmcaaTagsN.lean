/- tags.New, and bytes as text. -/
import Derived.Test.YtokpodmefnmmcaaTagsC
import Derived.Laws.BytesArg
import Derived.Laws.MakeOwn
namespace Go.Proofs.Ytokpodmefnmmcaa
open Go.RowKit

theorem conv_row {w : World} {B : Nat} {A : Option Addr} {n c : Nat} {zs : List Int} (h : Row .u8 w B A n zs) : (convert 55 9 (.slice A n c)).run Try.prog w = .ok (.string (strOfNums zs)) w := by
  rcases Nat.eq_zero_or_pos n with h0 | h0
  · subst h0
    have hl : zs = [] := List.eq_nil_of_length_eq_zero h.1
    subst hl
    cases A with
    | none => exact run_convert_bytes_nil w _ _ Try.underlying55 Try.underlying5 0 c _ Try.underlying9
    | some x =>
      have hl : (loadCells x 0).run Try.prog w = .ok (([] : List Int).map (Value.int .u8)).toArray w := by
        simpa using run_loadCells_list (P := Try.prog) w x [] (fun j v hj => by simp at hj)
      rw [run_convert_bytes_string w _ _ _ _ 0 c Try.underlying55 Try.underlying5 Try.underlying9, run_bytesToString w _ 0 c [] hl]
      rfl
  · obtain ⟨b, off, rfl, _, hc⟩ := h.2.2 h0
    exact run_convert_bytes_arg w _ _ Try.underlying55 Try.underlying5 b off n c zs h.1 hc _ Try.underlying9

/-- How many bytes hold the tags of so many granules. -/
def newLen (n : Int) : Nat := ((min (max n 0) 256 + 1) / 2).toNat
/-- So many noughts, as cells. -/
def zcells (k : Nat) : Array Value := madeCells (Value.int .u8 0).cells (k * 1)
theorem make_u8 (k : Nat) (hk : k ≤ 281474976710656) (w : World) :
    (Instr.makeSlice 55 (.int .i64 (k : Int)) (.int .i64 (k : Int))).run Try.prog w = .ok (.slice (some ⟨w.heap.size, 0, none⟩) k k) (w.alloc (.cells (zcells k) 5)) := by
  obtain ⟨i0, hi, hz0, hz1, hz2⟩ := info_parts u8info
  have hr := run_make (P := Try.prog) w 55 5 i0 (.int .u8 0) Try.underlying55 hi hz0 .i64 .i64 (k : Int) (k : Int) (by omega) (by omega) (by rw [hz2]; omega) (by omega)
  simp only [Int.toNat_natCast, hz1] at hr
  exact hr
theorem made_at (k i : Nat) (hi : i < k) : (zcells k)[i]? = some (.int .u8 0) := by
  simp [zcells, madeCells, Value.cells]
  exact ⟨i, by simp [hi], by simp [Nat.mod_one]⟩

theorem tnew_any (n : Int) (w : World) :
    Calls Try.prog 38 #[.int .i64 n] w fun e w' => e = .returned (.slice (some ⟨w.heap.size, 0, none⟩) (newLen n) (newLen n)) ∧ w' = w.alloc (.cells (zcells (newLen n)) 5) := by
  by_cases h1 : n < 0
  · have e : newLen n = 0 := by unfold newLen; omega
    have hm : ∀ w, (Instr.makeSlice 55 (.int .i64 0) (.int .i64 0)).run Try.prog w = .ok (.slice (some ⟨w.heap.size, 0, none⟩) 0 0) (w.alloc (.cells (zcells 0) 5)) := fun w => make_u8 0 (by omega) w
    rw [e]
    go_enter Try.func38, Try.ntmps38
    go_wp2
    go_ret
    exact ⟨rfl, rfl⟩
  · by_cases h2 : 256 < n
    · have e : newLen n = 128 := by unfold newLen; omega
      have hm : ∀ w, (Instr.makeSlice 55 (.int .i64 128) (.int .i64 128)).run Try.prog w = .ok (.slice (some ⟨w.heap.size, 0, none⟩) 128 128) (w.alloc (.cells (zcells 128) 5)) := fun w => make_u8 128 (by omega) w
      rw [e]
      go_enter Try.func38, Try.ntmps38
      go_wp2
      go_ret
      exact ⟨rfl, rfl⟩
    · obtain ⟨m, rfl⟩ := Int.eq_ofNat_of_zero_le (show 0 ≤ n by omega)
      have e : newLen (m : Int) = (m + 1) / 2 := by unfold newLen; omega
      have hm : ∀ w, (Instr.makeSlice 55 (.int .i64 (((m : Int) + 1) / 2)) (.int .i64 (((m : Int) + 1) / 2))).run Try.prog w = .ok (.slice (some ⟨w.heap.size, 0, none⟩) ((m + 1) / 2) ((m + 1) / 2)) (w.alloc (.cells (zcells ((m + 1) / 2)) 5)) := fun w => by
        have := make_u8 ((m + 1) / 2) (by omega) w
        rwa [show (((m + 1) / 2 : Nat) : Int) = ((m : Int) + 1) / 2 by omega] at this
      rw [e]
      go_enter Try.func38, Try.ntmps38
      go_wp2
      go_ret
      exact ⟨rfl, rfl⟩

theorem tnew_row (n : Int) (w : World) : Row .u8 (w.alloc (.cells (zcells (newLen n)) 5)) (w.heap.size + 1) (some ⟨w.heap.size, 0, none⟩) (newLen n) (List.replicate (newLen n) 0) :=
  ⟨by simp, by unfold newLen maxLen; omega, fun _ => ⟨_, _, rfl, by omega, fun i hi => by
    rw [Nat.zero_add, World.cell?_alloc_at _ _ _ _ rfl, made_at _ _ hi]
    simp [List.getD, hi]⟩⟩
end Go.Proofs.Ytokpodmefnmmcaa
