/- Arguments opened: slices of bools; what the bound of the second form gives. -/
import Derived.Test.YtidfngplhjegpaaRw
import Derived.Test.YtidfngplhjegpaaBoo
import Derived.Test.YtidfngplhjegpaaBig
import Derived.Deep.Grids
import Derived.JoinedCond
namespace Go.Proofs.Ytidfngplhjegpaa
open Go.ChangeShapes Go.WideShapes Go.ChangeAt Go.RowKit Go.Joins
set_option linter.unusedVariables false
section
variable {H : Type} {enc : TypeId × Value → H} {P : Program} {w : World} {base : Nat} {held : Bool}
theorem row_of_bool {t e : TypeId} {A : Option Addr} {n c : Nat} {d : DataW H} {p : List MemPlace} (ht : P.underlying t = some (.slice e)) (he : P.underlying e = some .bool) (hC : P.cellsOf e = 1)
    (h : DataW.Trod enc P w base (fun _ => true) held t (.slice A n c) d p) : ∃ xs, Rw fB 1 w w.heap.size A n xs ∧ n ≤ c ∧ c ≤ maxLen := by
  obtain ⟨fuel, hf⟩ := h
  rcases Go.Deep.open_bools ht he hC hf with ⟨hcs, _⟩ | ⟨a, len, cap, B, hcs, _, hl, hm, _, hcell⟩
  · simp [Value.cells] at hcs
    obtain ⟨rfl, rfl, rfl⟩ := hcs
    exact ⟨[], Rw.nil, by omega, by simp⟩
  · simp [Value.cells] at hcs
    obtain ⟨rfl, rfl, rfl⟩ := hcs
    refine ⟨(List.range n).map B, ⟨by simp, by omega, fun hn => ?_⟩, hl, hm⟩
    obtain ⟨b, off, spot⟩ := a
    have hc0 := hcell 0 (by omega)
    have hspot : spot = none := by simpa [Addr.add] using World.cell?_spot hc0
    subst hspot
    have hc0' : w.cell? ⟨b, off, none⟩ = some (.bool (B 0)) := by simpa [Addr.add] using hc0
    refine ⟨b, off, rfl, lt_of_cell hc0', fun i x hx j v hv => ?_⟩
    have hi : i < n := by have := (List.getElem?_eq_some_iff.1 hx).1; simpa using this
    have hj : j = 0 := by have := (List.getElem?_eq_some_iff.1 hv).1; simpa [fB] using this
    subst hj
    have hci := hcell i (by omega)
    have e1 : (Addr.add ⟨b, off, none⟩ i) = ⟨b, off + i, none⟩ := by
      unfold Addr.add; split <;> simp_all
    rw [e1] at hci
    simp only [Nat.mul_one, Nat.add_zero]
    rw [hci]
    simp [hi] at hx
    simp [fB] at hv
    rw [hx, hv]
end
theorem bulk_one {H : Type} (d : DataW H) : 1 ≤ Rows.uptoBulk d := by
  cases d with
  | lit l => cases l <;> simp [Rows.uptoBulk]
  | nil => simp [Rows.uptoBulk]
  | ptr d => simp [Rows.uptoBulk]
  | slice elems spare => simp [Rows.uptoBulk]
  | agg parts => simp [Rows.uptoBulk]
  | iface t d => simp [Rows.uptoBulk]
  | map entries => simp [Rows.uptoBulk]
  | held h => simp [Rows.uptoBulk]
theorem bulk_part {H : Type} {d : DataW H} {l : List (DataW H)} (h : d ∈ l) : Rows.uptoBulk d ≤ Rows.uptoBulkAll l := by
  induction l with
  | nil => cases h
  | cons x r ih =>
    simp only [Rows.uptoBulkAll]
    cases List.mem_cons.1 h with
    | inl e => subst e; omega
    | inr e => have := ih e; omega
theorem bulk_len {H : Type} (l : List (DataW H)) : l.length ≤ Rows.uptoBulkAll l := by
  induction l with
  | nil => simp [Rows.uptoBulkAll]
  | cons x r ih => have := bulk_one x; simp only [Rows.uptoBulkAll, List.length_cons]; omega
theorem small_all {H : Type} {l : List (DataW H)} (hk : Rows.uptoSmall H l = true) : Rows.uptoBulkAll l ≤ 1048576 := of_decide_eq_true hk
theorem small_of {H : Type} {l : List (DataW H)} {d : DataW H} {c : Nat} (hk : Rows.uptoSmall H l = true) (hm : d ∈ l) (hd : DBig c d) : c ≤ 1048576 := by
  have h1 := small_all hk
  have h2 := bulk_part hm
  rcases hd with ⟨_, rfl⟩ | ⟨elems, spare, rfl, rfl⟩
  · exact Nat.zero_le _
  · have h3 := bulk_len elems
    have h4 := bulk_len spare
    simp only [Rows.uptoBulk] at h2
    omega
end Go.Proofs.Ytidfngplhjegpaa
