/- A call as one step of a region that draws its order. -/
import Derived.Test.YtnbhchfpfbbngaaSv
namespace Go.Proofs.Ytnbhchfpfbbngaa
/-- A call of a Go function as one step of a region that draws its order. -/
theorem step_call {P : Program} {ops : Array Oper} {o : Oper} {a : Act} {w : World} {K : Act → World → Prop} {Q : Exit → Act → World → Prop} {E : Prop} {Φ : Ending → World → Prop} (f : FuncId) (args : Array Value)
    (hg : o.guard = none) (he : (execOp a.eval o).run P w = .ok (.enter f args) w) (hc : Calls P f args w Φ) (hΦ : ∀ e w', Φ e w' → ∃ v, e = .returned v) (hK : ∀ v w', Φ (.returned v) w' → K (a.put o.dst v) w') :
    if Region.wanted o (yielded ops a.tmps) = true then Oper.wp P o a w K Q else E := by
  have hw : Region.wanted o (yielded ops a.tmps) = true := by simp [Region.wanted, hg]
  rw [if_pos hw]
  unfold Oper.wp
  rw [he, Oper.upon_enter]
  refine hc.mono fun e w' h => ?_
  obtain ⟨v, rfl⟩ := hΦ e w' h
  exact hK v w' h
open Go.RowKit in
theorem alloc_cells_on {W w2 : World} {T : TypeId} {vs : List Value} (hb : Below (W.alloc (.cells vs.toArray T)).heap.size (W.alloc (.cells vs.toArray T)) w2) (j : Nat) (u : Value) (h : vs[j]? = some u) : w2.cell? (Addr.add ⟨W.heap.size, 0, none⟩ j) = some u := by
  have h1 := alloc_cells (W := W) (T := T) j u h
  rw [addr_add] at h1 ⊢
  exact (hb.cell (p := ⟨W.heap.size, 0 + j, none⟩) (by simp)).trans h1
end Go.Proofs.Ytnbhchfpfbbngaa
