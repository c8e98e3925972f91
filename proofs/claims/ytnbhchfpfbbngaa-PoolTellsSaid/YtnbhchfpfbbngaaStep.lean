/- What stands behind a callee. -/
import Derived.Test.YtnbhchfpfbbngaaBase
namespace Go.Proofs.Ytnbhchfpfbbngaa
open Go.RowKit

/-- Behind a callee: one new block lay ahead of the call: all cells that were there, that block's own, and the sizes. -/
theorem step1 {w w1 : World} {C : Array Value} {t : TypeId} (hb : Below (w.alloc (.cells C t)).heap.size (w.alloc (.cells C t)) w1) :
    (∀ b o, b < w.heap.size → w1.cell? ⟨b, o, none⟩ = w.cell? ⟨b, o, none⟩) ∧ (∀ o, w1.cell? ⟨w.heap.size, o, none⟩ = C[o]?) ∧ w.heap.size < w1.heap.size := by
  refine ⟨fun b o h => ?_, fun o => ?_, ?_⟩
  · rw [hb.cell (p := ⟨b, o, none⟩) (by simp; omega)]; exact World.cell?_alloc_lt w _ ⟨b, o, none⟩ h
  · rw [hb.cell (p := ⟨w.heap.size, o, none⟩) (by simp)]; exact World.cell?_alloc_new w C t o
  · have := hb.size; simp at this; omega
/-- The same where no new block lay ahead of the call. -/
theorem step0 {w w1 : World} (hb : Below w.heap.size w w1) : (∀ b o, b < w.heap.size → w1.cell? ⟨b, o, none⟩ = w.cell? ⟨b, o, none⟩) ∧ w.heap.size ≤ w1.heap.size :=
  ⟨fun b o h => hb.cell (p := ⟨b, o, none⟩) h, hb.size⟩
end Go.Proofs.Ytnbhchfpfbbngaa
