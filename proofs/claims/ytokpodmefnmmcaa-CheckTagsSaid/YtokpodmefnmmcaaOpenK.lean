/- Openers: four keys. -/
import Derived.Test.YtokpodmefnmmcaaOpen
import Derived.Test.YtokpodmefnmmcaaKeys
import Derived.Deep.Fields
namespace Go.Proofs.Ytokpodmefnmmcaa
open Go.ChangeShapes Go.WideShapes Go.ChangeAt Go.RowKit Go.Joins Go.Deep
section
variable {H : Type} {enc : TypeId × Value → H} {P : Program} {w : World} {base : Nat} {spare : Nat → Bool} {held : Bool}

theorem boolint_of {te : TypeId} {f0 f1 : Field} {m : Nat} {a b : Value} {x : DataW H × List MemPlace} (hte : P.underlying te = some (.struct #[f0, f1])) (h0 : P.underlying f0.type = some .bool) (h1 : P.underlying f1.type = some (.int .i64))
    (hone : oneCellFields P #[f0, f1] = true) (h : DataW.trod enc P w base spare held m te [a, b] = some x) : ∃ t d, a = .bool t ∧ b = .int .i64 d ∧ I64 d := by
  obtain ⟨xs, n, _, hx, _, hlen, hg⟩ := DataW.trod_struct hte h
  obtain ⟨o0, k0⟩ := hone_of hone 0 f0 rfl
  obtain ⟨o1, k1⟩ := hone_of hone 1 f1 rfl
  match xs, hlen with
  | [y0, y1], _ =>
    have g0 := hg 0 f0 rfl
    have g1 := hg 1 f1 rfl
    simp [o0, k0] at g0
    simp [o1, k1] at g1
    obtain ⟨t, e0, _⟩ := DataW.trod_bool h0 g0
    obtain ⟨d, e1, _, wf⟩ := DataW.trod_int h1 g1
    exact ⟨t, d, one_of e0, one_of e1, i64_of_wf wf⟩

/-- Each key denies an int. -/
def Key4.fits (K : Key4) : Prop := I64 K.d0 ∧ I64 K.d1 ∧ I64 K.d2 ∧ I64 K.d3

theorem keys_of {r : Reach} {b0 : Nat} {ta te : TypeId} {f0 f1 : Field} {v : Value} {d : DataW H} {p : List MemPlace} (hta : P.underlying ta = some (.array 4 te)) (hte : P.underlying te = some (.struct #[f0, f1]))
    (h0 : P.underlying f0.type = some .bool) (h1 : P.underlying f1.type = some (.int .i64)) (hone : oneCellFields P #[f0, f1] = true) (hC : P.cellsOf ta = 8) (hC2 : P.cellsOf te = 2)
    (hv : Value.okWide P w r b0 ta v) (h : DataW.Trod enc P w base spare held ta v d p) : ∃ K : Key4, v = K.v ∧ K.fits := by
  have hv' : ∃ cs, v = .agg cs ∧ cs.size = P.cellsOf ta := by
    simp only [Value.okWide, hta] at hv
    obtain ⟨cs, h1, h2, _⟩ := hv
    exact ⟨cs, h1, h2⟩
  obtain ⟨cs, rfl, hsz⟩ := hv'
  obtain ⟨l⟩ := cs
  rw [hC] at hsz
  match l, hsz with
  | [c0, c1, c2, c3, c4, c5, c6, c7], _ =>
    obtain ⟨fuel, hf⟩ := h
    obtain ⟨xs, m, _, _, _, hlen, hg⟩ := DataW.trod_array hta hf
    match xs, hlen with
    | [y0, y1, y2, y3], _ =>
      have g0 := hg 0 (by omega)
      have g1 := hg 1 (by omega)
      have g2 := hg 2 (by omega)
      have g3 := hg 3 (by omega)
      simp [hC2, Value.cells] at g0 g1 g2 g3
      obtain ⟨t0, d0, rfl, rfl, w0⟩ := boolint_of hte h0 h1 hone g0
      obtain ⟨t1, d1, rfl, rfl, w1⟩ := boolint_of hte h0 h1 hone g1
      obtain ⟨t2, d2, rfl, rfl, w2⟩ := boolint_of hte h0 h1 hone g2
      obtain ⟨t3, d3, rfl, rfl, w3⟩ := boolint_of hte h0 h1 hone g3
      exact ⟨⟨t0, d0, t1, d1, t2, d2, t3, d3⟩, rfl, w0, w1, w2, w3⟩
end
end Go.Proofs.Ytokpodmefnmmcaa
