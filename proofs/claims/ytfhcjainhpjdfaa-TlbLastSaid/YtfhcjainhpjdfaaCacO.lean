/- Arguments opened: slices of api.Cached. -/
import Derived.Test.YtfhcjainhpjdfaaCacE
import Derived.Test.YtfhcjainhpjdfaaOpen
namespace Go.Proofs.Ytfhcjainhpjdfaa
open Go.ChangeShapes Go.WideShapes Go.ChangeAt Go.RowKit Go.Joins
set_option linter.unusedVariables false
def Cac.fits (x : Cac) : Prop := I64 x.p ∧ I64 x.g ∧ I64 x.k ∧ I64 x.n
section
variable {H : Type} {enc : TypeId × Value → H} {w : World} {base : Nat} {held : Bool}
theorem ent_cells {fuel : Nat} {cs : List Value} {x : DataW H × List MemPlace} (h : DataW.trod enc Try.prog w base (fun _ => true) held fuel 25 cs = some x) (hl : cs.length = 2) : ∃ a b, cs = [.int .i64 a, .int .i64 b] ∧ I64 a ∧ I64 b := by
  match cs, hl with
  | [v0, v1], _ =>
    obtain ⟨ys, n, _, _, _, hyl, hf⟩ := DataW.trod_struct Try.underlying25 h
    match ys, hyl with
    | [y0, y1], _ =>
      have f0 := hf 0 _ rfl
      have f1 := hf 1 _ rfl
      simp only [List.getElem?_cons_zero] at f0
      simp only [List.getElem?_cons_succ, List.getElem?_cons_zero] at f1
      obtain ⟨a, e0, _, w0⟩ := DataW.trod_int Try.underlying3 f0
      obtain ⟨b, e1, _, w1⟩ := DataW.trod_int Try.underlying3 f1
      cases e0; cases e1
      exact ⟨a, b, rfl, i64_of_wf w0, i64_of_wf w1⟩
theorem cac_cells {fuel : Nat} {cs : List Value} {x : DataW H × List MemPlace} (h : DataW.trod enc Try.prog w base (fun _ => true) held fuel 27 cs = some x) (hl : cs.length = 4) : ∃ a : Cac, cs = fC a ∧ a.fits := by
  match cs, hl with
  | [v0, v1, v2, v3], _ =>
    obtain ⟨ys, n, _, _, _, hyl, hf⟩ := DataW.trod_struct Try.underlying27 h
    match ys, hyl with
    | [y0, y1, y2], _ =>
      have f0 := hf 0 _ rfl
      have f1 := hf 1 _ rfl
      have f2 := hf 2 _ rfl
      simp only [List.getElem?_cons_zero] at f0
      simp only [List.getElem?_cons_succ, List.getElem?_cons_zero] at f1
      simp only [List.getElem?_cons_succ, List.getElem?_cons_zero] at f2
      obtain ⟨a, e0, _, w0⟩ := DataW.trod_int Try.underlying3 f0
      obtain ⟨b, e1, _, w1⟩ := DataW.trod_int Try.underlying3 f1
      obtain ⟨k, m, e2, w2, w3⟩ := ent_cells f2 rfl
      cases e0; cases e1; cases e2
      exact ⟨⟨a, b, k, m⟩, rfl, i64_of_wf w0, i64_of_wf w1, w2, w3⟩
theorem cac_of {A : Option Addr} {n c : Nat} {d : DataW H} {p : List MemPlace} (h : DataW.Trod enc Try.prog w base (fun _ => true) held 22 (.slice A n c) d p) : ∃ xs, Rw fC 4 w w.heap.size A n xs ∧ (∀ x ∈ xs, x.fits) ∧ n ≤ c ∧ c ≤ maxLen :=
  row_of_structs fC Cac.fits Try.underlying22 (by kernel_rfl) (by decide) (fun _ _ _ h hl => cac_cells h hl) fC_len h
theorem cac_val {r : Reach} {b0 : Nat} {v : Value} {d : DataW H} {p : List MemPlace} (hv : Value.okWide Try.prog w r b0 27 v) (h : DataW.Trod enc Try.prog w base (fun _ => true) held 27 v d p) : ∃ x : Cac, v = .agg #[.int .i64 x.p, .int .i64 x.g, .int .i64 x.k, .int .i64 x.n] ∧ x.fits := by
  obtain ⟨cs, rfl, hsz⟩ := okWide_struct Try.underlying27 hv
  obtain ⟨fuel, hf⟩ := h
  obtain ⟨x, e, hx⟩ := cac_cells hf (by simpa [Value.cells] using hsz.trans (by kernel_rfl : Try.prog.cellsOf 27 = 4))
  refine ⟨x, ?_, hx⟩
  have : cs = (fC x).toArray := by
    apply Array.ext'
    simpa [Value.cells] using e
  rw [this]; rfl
end
end Go.Proofs.Ytfhcjainhpjdfaa
