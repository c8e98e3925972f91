/- api.Region: its cells, '==', arguments opened. -/
import Derived.Test.YtnpmbjplmollkaaSx
import Derived.Test.YtnpmbjplmollkaaOpen
import Derived.Laws.StructEq
namespace Go.Proofs.Ytnpmbjplmollkaa
open Go.ChangeShapes Go.WideShapes Go.ChangeAt Go.RowKit Go.Joins
set_option linter.unusedVariables false
structure Att where
  r : Int
  k : Int
  g : Bool
  s : Bool
instance : Inhabited Att := ⟨⟨0, 0, false, false⟩⟩
structure Rgn where
  f : Int
  t : Int
  a : Att
instance : Inhabited Rgn := ⟨⟨0, 0, default⟩⟩
def eqA (a b : Att) : Bool := a.r == b.r && a.k == b.k && a.g == b.g && a.s == b.s
theorem eqA_iff {a b : Att} : eqA a b = true ↔ a = b := by
  obtain ⟨a1, a2, a3, a4⟩ := a
  obtain ⟨b1, b2, b3, b4⟩ := b
  simp [eqA, and_assoc]
def eqR (a b : Rgn) : Bool := a.f == b.f && a.t == b.t && eqA a.a b.a
theorem eqR_iff {a b : Rgn} : eqR a b = true ↔ a = b := by
  obtain ⟨a1, a2, a3⟩ := a
  obtain ⟨b1, b2, b3⟩ := b
  simp [eqR, eqA_iff, and_assoc]
def fR (x : Rgn) : List Value := [.int .i64 x.f, .int .i64 x.t, .int .i64 x.a.r, .int .i64 x.a.k, .bool x.a.g, .bool x.a.s]
theorem fR_len (x : Rgn) : (fR x).length = 6 := rfl
theorem fR_one1 (x : Rgn) : ∀ u ∈ fR x, u.oneCell' = true := by
  intro u hu
  simp [fR] at hu
  rcases hu with rfl | rfl | rfl | rfl | rfl | rfl <;> rfl
theorem fR_one (xs : List Rgn) : ∀ u ∈ xs.flatMap fR, u.oneCell' = true := by
  intro u hu
  obtain ⟨y, _, hy⟩ := List.mem_flatMap.1 hu
  exact fR_one1 y u hy
theorem info_R : (Try.prog.info? 26).map (fun i => (i.zero, i.size, i.bytes)) = some (some (.agg #[.int .i64 0, .int .i64 0, .int .i64 0, .int .i64 0, .bool false, .bool false]), 6, 40) := by kernel_rfl
theorem run_eqAd (d : Nat) (a0 a1 b0 b1 : Int) (a2 a3 b2 b3 : Bool) (w : World) : (Op.equalIn (d + 2) 24 (.agg #[.int .i64 a0, .int .i64 a1, .bool a2, .bool a3]) (.agg #[.int .i64 b0, .int .i64 b1, .bool b2, .bool b3])).run Try.prog w = .ok (a0 == b0 && a1 == b1 && a2 == b2 && a3 == b3) w := by
  by_cases h0 : a0 = b0 <;> by_cases h1 : a1 = b1 <;> by_cases h2 : a2 = b2 <;> by_cases h3 : a3 = b3 <;> simp [go_sem, Try.underlying24, Try.underlying3, Try.underlying4, h0, h1, h2, h3]
theorem run_eqA (x y : Att) (w : World) : (Op.equalIn 10000 24 (.agg #[.int .i64 x.r, .int .i64 x.k, .bool x.g, .bool x.s]) (.agg #[.int .i64 y.r, .int .i64 y.k, .bool y.g, .bool y.s])).run Try.prog w = .ok (eqA x y) w := run_eqAd 9998 _ _ _ _ _ _ _ _ w
theorem run_eqRd (d : Nat) (x y : Rgn) (w : World) : (Op.equalIn (d + 3) 26 (.agg #[.int .i64 x.f, .int .i64 x.t, .int .i64 x.a.r, .int .i64 x.a.k, .bool x.a.g, .bool x.a.s]) (.agg #[.int .i64 y.f, .int .i64 y.t, .int .i64 y.a.r, .int .i64 y.a.k, .bool y.a.g, .bool y.a.s])).run Try.prog w = .ok (eqR x y) w := by
  have aE := Try.isAgg24
  have zE := Try.sizeOf24
  have hA : ∀ w, (Op.equalIn (d + 2) 24 (.agg #[.int .i64 x.a.r, .int .i64 x.a.k, .bool x.a.g, .bool x.a.s]) (.agg #[.int .i64 y.a.r, .int .i64 y.a.k, .bool y.a.g, .bool y.a.s])).run Try.prog w = .ok (eqA x.a y.a) w := fun w => run_eqAd d _ _ _ _ _ _ _ _ w
  cases hq : eqA x.a y.a <;> rw [hq] at hA <;> by_cases h0 : x.f = y.f <;> by_cases h1 : x.t = y.t <;> simp [go_sem, Try.underlying26, Try.underlying3, hA, aE, zE, h0, h1, eqR, hq]
def Att.fits (a : Att) : Prop := I64 a.r ∧ I64 a.k
def Rgn.fits (x : Rgn) : Prop := I64 x.f ∧ I64 x.t ∧ x.a.fits
section
variable {H : Type} {enc : TypeId × Value → H} {w : World} {base : Nat} {held : Bool}
theorem att_cells {fuel : Nat} {cs : List Value} {x : DataW H × List MemPlace} (h : DataW.trod enc Try.prog w base (fun _ => true) held fuel 24 cs = some x) (hl : cs.length = 4) : ∃ a : Att, cs = [.int .i64 a.r, .int .i64 a.k, .bool a.g, .bool a.s] ∧ a.fits := by
  match cs, hl with
  | [v0, v1, v2, v3], _ =>
    obtain ⟨ys, n, _, _, _, hyl, hf⟩ := DataW.trod_struct Try.underlying24 h
    match ys, hyl with
    | [y0, y1, y2, y3], _ =>
      have f0 := hf 0 _ rfl
      have f1 := hf 1 _ rfl
      have f2 := hf 2 _ rfl
      have f3 := hf 3 _ rfl
      simp only [List.getElem?_cons_zero] at f0
      simp only [List.getElem?_cons_succ, List.getElem?_cons_zero] at f1 f2 f3
      obtain ⟨a, e0, _, w0⟩ := DataW.trod_int Try.underlying3 f0
      obtain ⟨b, e1, _, w1⟩ := DataW.trod_int Try.underlying3 f1
      obtain ⟨c, e2, _⟩ := DataW.trod_bool Try.underlying4 f2
      obtain ⟨d, e3, _⟩ := DataW.trod_bool Try.underlying4 f3
      cases e0; cases e1; cases e2; cases e3
      exact ⟨⟨a, b, c, d⟩, rfl, i64_of_wf w0, i64_of_wf w1⟩
theorem rgn_cells {fuel : Nat} {cs : List Value} {x : DataW H × List MemPlace} (h : DataW.trod enc Try.prog w base (fun _ => true) held fuel 26 cs = some x) (hl : cs.length = 6) : ∃ a : Rgn, cs = fR a ∧ a.fits := by
  match cs, hl with
  | [v0, v1, v2, v3, v4, v5], _ =>
    obtain ⟨ys, n, _, _, _, hyl, hf⟩ := DataW.trod_struct Try.underlying26 h
    match ys, hyl with
    | [y0, y1, y2], _ =>
      have f0 := hf 0 _ rfl
      have f1 := hf 1 _ rfl
      have f2 := hf 2 _ rfl
      simp only [List.getElem?_cons_zero] at f0
      simp only [List.getElem?_cons_succ, List.getElem?_cons_zero] at f1 f2
      obtain ⟨a, e0, _, w0⟩ := DataW.trod_int Try.underlying3 f0
      obtain ⟨b, e1, _, w1⟩ := DataW.trod_int Try.underlying3 f1
      obtain ⟨at', e2, w2⟩ := att_cells f2 rfl
      cases e0; cases e1; cases e2
      exact ⟨⟨a, b, at'⟩, rfl, i64_of_wf w0, i64_of_wf w1, w2⟩
theorem rgn_of {A : Option Addr} {n c : Nat} {d : DataW H} {p : List MemPlace} (h : DataW.Trod enc Try.prog w base (fun _ => true) held 22 (.slice A n c) d p) : ∃ xs, Rw fR 6 w w.heap.size A n xs ∧ (∀ x ∈ xs, x.fits) ∧ n ≤ c ∧ c ≤ maxLen :=
  row_of_structs fR Rgn.fits Try.underlying22 (by kernel_rfl) (by decide) (fun _ _ _ h hl => rgn_cells h hl) fR_len h
theorem rgn_val {r : Reach} {b0 : Nat} {v : Value} {d : DataW H} {p : List MemPlace} (hv : Value.okWide Try.prog w r b0 26 v) (h : DataW.Trod enc Try.prog w base (fun _ => true) held 26 v d p) : ∃ x : Rgn, v = .agg #[.int .i64 x.f, .int .i64 x.t, .int .i64 x.a.r, .int .i64 x.a.k, .bool x.a.g, .bool x.a.s] ∧ x.fits := by
  obtain ⟨cs, rfl, hsz⟩ := okWide_struct Try.underlying26 hv
  obtain ⟨fuel, hf⟩ := h
  obtain ⟨x, e, hx⟩ := rgn_cells hf (by simpa [Value.cells] using hsz.trans (by kernel_rfl : Try.prog.cellsOf 26 = 6))
  refine ⟨x, ?_, hx⟩
  have : cs = (fR x).toArray := by
    apply Array.ext'
    simpa [Value.cells] using e
  rw [this]; rfl
theorem att_val {r : Reach} {b0 : Nat} {v : Value} {d : DataW H} {p : List MemPlace} (hv : Value.okWide Try.prog w r b0 24 v) (h : DataW.Trod enc Try.prog w base (fun _ => true) held 24 v d p) : ∃ x : Att, v = .agg #[.int .i64 x.r, .int .i64 x.k, .bool x.g, .bool x.s] ∧ x.fits := by
  obtain ⟨cs, rfl, hsz⟩ := okWide_struct Try.underlying24 hv
  obtain ⟨fuel, hf⟩ := h
  obtain ⟨x, e, hx⟩ := att_cells hf (by simpa [Value.cells] using hsz.trans (by kernel_rfl : Try.prog.cellsOf 24 = 4))
  refine ⟨x, ?_, hx⟩
  have : cs = #[.int .i64 x.r, .int .i64 x.k, .bool x.g, .bool x.s] := by
    apply Array.ext'
    simpa [Value.cells] using e
  rw [this]
end
end Go.Proofs.Ytnpmbjplmollkaa
