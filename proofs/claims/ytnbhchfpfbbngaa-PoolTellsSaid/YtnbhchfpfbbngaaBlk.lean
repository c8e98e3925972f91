/- api.Block: its cells, '==', arguments opened. -/
import Derived.Test.YtnbhchfpfbbngaaSx
import Derived.Test.YtnbhchfpfbbngaaOpen
import Derived.Laws.StructEq
namespace Go.Proofs.Ytnbhchfpfbbngaa
open Go.ChangeShapes Go.WideShapes Go.ChangeAt Go.RowKit Go.Joins
set_option linter.unusedVariables false
structure Blk where
  a : Int
  o : Int
deriving DecidableEq
instance : Inhabited Blk := ⟨⟨0, 0⟩⟩
def eqB (x y : Blk) : Bool := x.a == y.a && x.o == y.o
theorem eqB_iff {x y : Blk} : eqB x y = true ↔ x = y := by
  obtain ⟨a1, a2⟩ := x
  obtain ⟨b1, b2⟩ := y
  simp [eqB]
def fB (x : Blk) : List Value := [.int .i64 x.a, .int .i64 x.o]
theorem fB_len (x : Blk) : (fB x).length = 2 := rfl
theorem fB_one1 (x : Blk) : ∀ u ∈ fB x, u.oneCell' = true := by
  intro u hu
  simp [fB] at hu
  rcases hu with rfl | rfl <;> rfl
theorem fB_one (xs : List Blk) : ∀ u ∈ xs.flatMap fB, u.oneCell' = true := by
  intro u hu
  obtain ⟨y, _, hy⟩ := List.mem_flatMap.1 hu
  exact fB_one1 y u hy
theorem info_B : (Try.prog.info? 30).map (fun i => (i.zero, i.size, i.bytes)) = some (some (.agg #[.int .i64 0, .int .i64 0]), 2, 16) := by kernel_rfl
theorem run_eqBd (d : Nat) (x y : Blk) (w : World) : (Op.equalIn (d + 2) 30 (.agg #[.int .i64 x.a, .int .i64 x.o]) (.agg #[.int .i64 y.a, .int .i64 y.o])).run Try.prog w = .ok (eqB x y) w := by
  by_cases h0 : x.a = y.a <;> by_cases h1 : x.o = y.o <;> simp [go_sem, Try.underlying30, Try.underlying3, h0, h1, eqB]
theorem run_eqB (x y : Blk) (w : World) : (Op.equalIn 10000 30 (.agg #[.int .i64 x.a, .int .i64 x.o]) (.agg #[.int .i64 y.a, .int .i64 y.o])).run Try.prog w = .ok (eqB x y) w := run_eqBd 9998 x y w
def Blk.fits (x : Blk) : Prop := I64 x.a ∧ I64 x.o
section
variable {H : Type} {enc : TypeId × Value → H} {w : World} {base : Nat} {held : Bool}
theorem blk_cells {fuel : Nat} {cs : List Value} {x : DataW H × List MemPlace} (h : DataW.trod enc Try.prog w base (fun _ => true) held fuel 30 cs = some x) (hl : cs.length = 2) : ∃ a : Blk, cs = fB a ∧ a.fits := by
  match cs, hl with
  | [v0, v1], _ =>
    obtain ⟨ys, n, _, _, _, hyl, hf⟩ := DataW.trod_struct Try.underlying30 h
    match ys, hyl with
    | [y0, y1], _ =>
      have f0 := hf 0 _ rfl
      have f1 := hf 1 _ rfl
      simp only [List.getElem?_cons_zero] at f0
      simp only [List.getElem?_cons_succ, List.getElem?_cons_zero] at f1
      obtain ⟨a, e0, _, w0⟩ := DataW.trod_int Try.underlying3 f0
      obtain ⟨b, e1, _, w1⟩ := DataW.trod_int Try.underlying3 f1
      cases e0; cases e1
      exact ⟨⟨a, b⟩, rfl, i64_of_wf w0, i64_of_wf w1⟩
theorem blk_of {A : Option Addr} {n c : Nat} {d : DataW H} {p : List MemPlace} (h : DataW.Trod enc Try.prog w base (fun _ => true) held 22 (.slice A n c) d p) : ∃ xs, Rw fB 2 w w.heap.size A n xs ∧ (∀ x ∈ xs, x.fits) ∧ n ≤ c ∧ c ≤ maxLen :=
  row_of_structs fB Blk.fits Try.underlying22 (by kernel_rfl) (by decide) (fun _ _ _ h hl => blk_cells h hl) fB_len h
theorem blk_val {r : Reach} {b0 : Nat} {v : Value} {d : DataW H} {p : List MemPlace} (hv : Value.okWide Try.prog w r b0 30 v) (h : DataW.Trod enc Try.prog w base (fun _ => true) held 30 v d p) : ∃ x : Blk, v = .agg #[.int .i64 x.a, .int .i64 x.o] ∧ x.fits := by
  obtain ⟨cs, rfl, hsz⟩ := okWide_struct Try.underlying30 hv
  obtain ⟨fuel, hf⟩ := h
  obtain ⟨x, e, hx⟩ := blk_cells hf (by simpa [Value.cells] using hsz.trans (by kernel_rfl : Try.prog.cellsOf 30 = 2))
  refine ⟨x, ?_, hx⟩
  have : cs = (fB x).toArray := by
    apply Array.ext'
    simpa [Value.cells] using e
  rw [this]; rfl
end
end Go.Proofs.Ytnbhchfpfbbngaa
