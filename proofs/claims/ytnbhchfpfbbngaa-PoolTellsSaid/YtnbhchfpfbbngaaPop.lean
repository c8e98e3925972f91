/- Openers: a pool by value. -/
import Derived.Test.YtnbhchfpfbbngaaPlt
import Derived.Test.YtnbhchfpfbbngaaOpen
import Derived.Test.YtnbhchfpfbbngaaBig
namespace Go.Proofs.Ytnbhchfpfbbngaa
open Go.ChangeShapes Go.WideShapes Go.ChangeAt Go.RowKit Go.Joins
set_option linter.unusedVariables false
set_option linter.unusedSimpArgs false
section
variable {H : Type} {enc : TypeId × Value → H} {w : World} {base : Nat} {held : Bool}
theorem w_of {P : Program} {ts : List TypeId} {ds : List (DataW H)} {t : TypeId} {d : DataW H} (h : (DataW.weightsEach P ts ds).all (· ≤ reachBytes) = true) {j : Nat} (ht : ts[j]? = some t) (hd : ds[j]? = some d) : ∀ m ∈ d.weights P t, m ≤ reachBytes := fun m hm => by
  have := List.all_eq_true.1 h m (DataW.weights_mem_each ht hd m hm)
  simpa using this
theorem blk_sl {fuel : Nat} {v : Value} {x : DataW H × List MemPlace} (h : DataW.trod enc Try.prog w base (fun _ => true) held fuel 22 [v] = some x) (hw : ∀ m ∈ x.1.weights Try.prog 22, m ≤ reachBytes) : ∃ xs, Bv w v xs ∧ ∀ y ∈ xs, y.fits := by
  obtain ⟨A, n, c, rfl⟩ : ∃ A n c, v = .slice A n c := by
    rcases DataW.trod_slice Try.underlying22 h with ⟨h1, _⟩ | ⟨a, len, cap, _, _, _, _, h1, _⟩
    · exact ⟨none, 0, 0, by simpa using h1⟩
    · exact ⟨some a, len, cap, by simpa using h1⟩
  have hT : DataW.Trod enc Try.prog w base (fun _ => true) held 22 (.slice A n c) x.1 x.2 := ⟨fuel, by simpa [Value.cells] using h⟩
  obtain ⟨xs, hr, hf, hnc, _⟩ := blk_of hT
  refine ⟨xs, ⟨A, n, c, rfl, hr, ?_⟩, hf⟩
  rcases dbig_of Try.underlying22 hT with ⟨_, rfl⟩ | ⟨elems, spare, hx, rfl⟩
  · omega
  · have := hw ((elems.length + spare.length) * Try.prog.bytesOf 30) (by rw [hx]; simp [DataW.weights, Try.underlying22])
    rw [show Try.prog.bytesOf 30 = 16 from by kernel_rfl] at this
    simp only [reachBytes] at this
    omega
theorem pool_val {r : Reach} {b0 : Nat} {v : Value} {d : DataW H} {p : List MemPlace} (hv : Value.okWide Try.prog w r b0 42 v) (h : DataW.Trod enc Try.prog w base (fun _ => true) held 42 v d p) (hw : ∀ m ∈ d.weights Try.prog 42, m ≤ reachBytes) : ∃ cs, v = .agg cs ∧ ∃ q, PlV w cs q ∧ rFits q := by
  obtain ⟨cs, rfl, hsz⟩ := okWide_struct Try.underlying42 hv
  obtain ⟨l⟩ := cs
  have hl : l.length = 65 := by simpa using hsz.trans (by kernel_rfl : Try.prog.cellsOf 42 = 65)
  obtain ⟨fuel, hf⟩ := h
  obtain ⟨ys, n, _, hx, _, hyl, hg⟩ := DataW.trod_struct Try.underlying42 hf
  match l, hl, ys, hyl with
  | c0 :: rest, hl, [y0, y1], _ =>
    have hrl : rest.length = 64 := by simpa using hl
    have f0 : DataW.trod enc Try.prog w base (fun _ => true) held n 22 (List.take (Try.prog.cellsOf 22) (List.drop 0 (c0 :: rest))) = some y0 := hg 0 _ rfl
    have f1 : DataW.trod enc Try.prog w base (fun _ => true) held n 40 (List.take (Try.prog.cellsOf 40) (List.drop 1 (c0 :: rest))) = some y1 := hg 1 _ rfl
    rw [show Try.prog.cellsOf 22 = 1 from by kernel_rfl] at f0
    rw [show Try.prog.cellsOf 40 = 64 from by kernel_rfl] at f1
    simp only [List.drop_zero, List.take_succ_cons, List.take_zero, List.drop_succ_cons] at f0 f1
    rw [List.take_of_length_le (by omega)] at f1
    have w0 : ∀ m ∈ y0.1.weights Try.prog 22, m ≤ reachBytes := fun m hm => hw m (by
      have hx1 : d = .agg [y0.1, y1.1] := by
        have := congrArg Prod.fst hx
        simpa using this
      rw [hx1]
      simp only [DataW.weights, Try.underlying42]
      simp [DataW.weightsEach, hm])
    obtain ⟨xs, hb, hfit⟩ := blk_sl f0 w0
    obtain ⟨zs, m, _, _, _, hlen, hi⟩ := DataW.trod_array Try.underlying40 f1
    have hz : ∀ i, i < 64 → ∃ z, rest[i]? = some (.int .i64 z) ∧ I64 z := fun i hi64 => by
      have h1 := hi i hi64
      rw [show Try.prog.cellsOf 3 = 1 from by kernel_rfl, Nat.mul_one, List.drop_eq_getElem_cons (by omega)] at h1
      simp only [List.take_succ_cons, List.take_zero] at h1
      rw [List.getElem?_eq_getElem (by omega)] at h1
      obtain ⟨z, e, _, wf⟩ := DataW.trod_int Try.underlying3 h1
      refine ⟨z, ?_, i64_of_wf wf⟩
      rw [List.getElem?_eq_getElem (by omega)]
      have := one_of e
      rw [this]
    let rr : Nat → Int := fun i => match rest[i]? with | some (.int _ z) => z | _ => 0
    have hrr : ∀ i, i < 64 → rest[i]? = some (.int .i64 (rr i)) ∧ I64 (rr i) := fun i hi => by
      obtain ⟨z, h1, h2⟩ := hz i hi
      have : rr i = z := by simp only [rr, h1]
      rw [this]; exact ⟨h1, h2⟩
    exact ⟨_, rfl, ⟨xs, rr⟩, ⟨by simpa using hrl, ⟨c0, by simp, hb⟩, fun i hi => by simpa using (hrr i hi).1⟩, hfit, fun i hi => (hrr i hi).2⟩
end
end Go.Proofs.Ytnbhchfpfbbngaa
