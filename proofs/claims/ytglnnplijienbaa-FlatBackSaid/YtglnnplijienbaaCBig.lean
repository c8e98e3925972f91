/- The form's own reach, for a slice that came in: its capacity times its element's bytes. -/
import Derived.Test.YtglnnplijienbaaM5
import Derived.SizedLaws
namespace Go.Proofs.Ytglnnplijienbaa
open Go.ChangeShapes Go.WideShapes Go.ChangeAt Go.RowKit Go.Joins
section
variable {H : Type} {enc : TypeId × Value → H} {P : Program} {w : World} {base : Nat} {held : Bool}
def DBig (c : Nat) (d : DataW H) : Prop := (d = .nil ∧ c = 0) ∨ ∃ elems spare, d = .slice elems spare ∧ elems.length + spare.length = c
theorem dbig_of {t e : TypeId} {A : Option Addr} {n c : Nat} {d : DataW H} {p : List MemPlace} (ht : P.underlying t = some (.slice e))
    (h : DataW.Trod enc P w base (fun _ => true) held t (.slice A n c) d p) : DBig c d := by
  obtain ⟨fuel, hf⟩ := h
  rcases DataW.trod_slice ht hf with ⟨hcs, hx⟩ | ⟨a, len, cap, elems, rest, m, _, hcs, hx, _, hl, _, hlen, _, hsp, _⟩
  · simp [Value.cells] at hcs
    obtain ⟨rfl, rfl, rfl⟩ := hcs
    simp only [Prod.mk.injEq] at hx
    exact Or.inl ⟨hx.1, rfl⟩
  · simp [Value.cells] at hcs
    obtain ⟨rfl, rfl, rfl⟩ := hcs
    simp only [Prod.mk.injEq] at hx
    have h2 := (hsp rfl).1
    exact Or.inr ⟨_, _, hx.1, by simp only [List.length_map]; omega⟩
theorem row_big {t e : TypeId} {c j : Nat} {ts : List TypeId} {ds : List (DataW H)} {d : DataW H} (hd : DBig c d) (h : (DataW.weightsEach P ts ds).all (· ≤ reachBytes) = true) (ht : ts[j]? = some t) (hj : ds[j]? = some d) (hu : P.underlying t = some (.slice e)) : c * P.bytesOf e ≤ reachBytes := by
  rcases hd with ⟨_, rfl⟩ | ⟨elems, spare, rfl, rfl⟩
  · rw [Nat.zero_mul]; exact Nat.zero_le _
  · exact sized_slice h ht hj hu
end
end Go.Proofs.Ytglnnplijienbaa
