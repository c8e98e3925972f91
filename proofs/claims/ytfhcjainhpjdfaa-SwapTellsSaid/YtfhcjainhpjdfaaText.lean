/- Bytes as text, and slices of bytes that are made. -/
import Derived.Test.YtfhcjainhpjdfaaOwn
import Derived.Laws.BytesArg
import Derived.Laws.MakeOwn
namespace Go.Proofs.Ytfhcjainhpjdfaa
open Go.RowKit

theorem conv_row {w : World} {B : Nat} {A : Option Addr} {n c : Nat} {zs : List Int} (h : Row .u8 w B A n zs) : (convert 37 9 (.slice A n c)).run Try.prog w = .ok (.string (strOfNums zs)) w := by
  rcases Nat.eq_zero_or_pos n with h0 | h0
  · subst h0
    have hl : zs = [] := List.eq_nil_of_length_eq_zero h.1
    subst hl
    cases A with
    | none => exact run_convert_bytes_nil w _ _ Try.underlying37 Try.underlying5 0 c _ Try.underlying9
    | some x =>
      have hl : (loadCells x 0).run Try.prog w = .ok (([] : List Int).map (Value.int .u8)).toArray w := by
        simpa using run_loadCells_list (P := Try.prog) w x [] (fun j v hj => by simp at hj)
      rw [run_convert_bytes_string w _ _ _ _ 0 c Try.underlying37 Try.underlying5 Try.underlying9, run_bytesToString w _ 0 c [] hl]
      rfl
  · obtain ⟨b, off, rfl, _, hc⟩ := h.2.2 h0
    exact run_convert_bytes_arg w _ _ Try.underlying37 Try.underlying5 b off n c zs h.1 hc _ Try.underlying9

/-- So many noughts, as cells. -/
def zcells (k : Nat) : Array Value := madeCells (Value.int .u8 0).cells (k * 1)
theorem make_u8 (k : Nat) (hk : k ≤ 281474976710656) (w : World) :
    (Instr.makeSlice 37 (.int .i64 (k : Int)) (.int .i64 (k : Int))).run Try.prog w = .ok (.slice (some ⟨w.heap.size, 0, none⟩) k k) (w.alloc (.cells (zcells k) 5)) := by
  obtain ⟨i0, hi, hz0, hz1, hz2⟩ := info_parts u8info
  have hr := run_make (P := Try.prog) w 37 5 i0 (.int .u8 0) Try.underlying37 hi hz0 .i64 .i64 (k : Int) (k : Int) (by omega) (by omega) (by rw [hz2]; omega) (by omega)
  simp only [Int.toNat_natCast, hz1] at hr
  exact hr
theorem made_at (k i : Nat) (hi : i < k) : (zcells k)[i]? = some (.int .u8 0) := by
  simp [zcells, madeCells, Value.cells]
  exact ⟨i, by simp [hi], by simp [Nat.mod_one]⟩
theorem zcells_size (k : Nat) : (zcells k).size = k := by simp [zcells, madeCells, Value.cells]
theorem getD_rep (k i : Nat) : (List.replicate k (0 : Int)).getD i 0 = 0 := by
  rcases Nat.lt_or_ge i k with h | h
  · simp [List.getD, h]
  · simp [List.getD, Nat.not_lt.2 h]
/-- A slice of noughts that was made. -/
theorem made_own (k : Nat) (hk : k ≤ 140737488355328) (w : World) : Own .u8 5 (w.alloc (.cells (zcells k) 5)) w.heap.size (some ⟨w.heap.size, 0, none⟩) k k (List.replicate k 0) :=
  ⟨by simp, Nat.le_refl _, by unfold maxLen; omega, fun _ => ⟨w.heap.size, zcells k, rfl, Nat.le_refl _, heap_alloc_new _ _, fun i hi => by rw [made_at _ _ hi, getD_rep]⟩⟩
theorem own_from {w : World} {base : Nat} {e : TypeId} {size n : Nat} {v : Value} {xs : List Value} (h : w.ownsRow base e size v n xs) : ∀ k, v.ownBlock = some k → base ≤ k := by
  intro k hk
  rcases h.2 with ⟨rfl, _⟩ | ⟨g, cap, cur, rfl, hg, _⟩
  · simp [Value.ownBlock] at hk
  · simp [Value.ownBlock] at hk; omega
theorem Addr.add_zero_lit (b : Nat) : (Addr.add ⟨b, 0, none⟩ 0) = ⟨b, 0, none⟩ := by rw [Addr.add_lit]
theorem take_next {zs : List Int} {k : Nat} (h : k < zs.length) : zs.take (k + 1) = zs.take k ++ [zs.getD k 0] := by
  rw [List.take_succ_eq_append_getElem h, getD_get0 h]
theorem bytes_of_wf {zs : List Int} (h : ∀ z ∈ zs, (Lit.int .u8 z).wf = true) : ∀ i, 0 ≤ zs.getD i 0 ∧ zs.getD i 0 < 256 := by
  intro i
  by_cases hi : i < zs.length
  · rw [getD_get0 hi]
    have := h _ (List.getElem_mem hi)
    simp [Lit.wf, IntKind.min, IntKind.max, IntKind.signed, IntKind.bits] at this
    omega
  · have : zs.getD i 0 = 0 := by simp [List.getD, List.getElem?_eq_none (show zs.length ≤ i by omega)]
    rw [this]; omega
end Go.Proofs.Ytfhcjainhpjdfaa
