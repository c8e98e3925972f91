/- One cell of an element of a row of the call's own is written. -/
import Derived.Test.YtglnnplijienbaaM12
namespace Go.Proofs.Ytglnnplijienbaa
open Go.ChangeShapes Go.WideShapes Go.ChangeAt Go.RowKit Go.Joins
set_option linter.unusedVariables false
theorem setMany_one (F : Array Value) (s j : Nat) (u : Value) (vs : List Value) (hb : s + vs.length ≤ F.size) (hj : j < vs.length) (h1 : vs[j]? = some u) (h2 : ∀ m v, m ≠ j → vs[m]? = some v → F[s + m]? = some v) : Go.Sort.setMany F s vs = F.setIfInBounds (s + j) u := by
  apply Array.ext_getElem?
  intro t
  rw [setMany_get? vs s F t hb]
  by_cases h : s ≤ t ∧ t < s + vs.length
  · rw [if_pos h]
    by_cases e : t = s + j
    · subst e
      rw [Nat.add_sub_cancel_left, h1, Array.getElem?_setIfInBounds_self_of_lt (by omega)]
    · rw [Array.getElem?_setIfInBounds_ne (fun h => e h.symm)]
      obtain ⟨v, hv⟩ : ∃ v, vs[t - s]? = some v := ⟨_, List.getElem?_eq_getElem (by omega)⟩
      have := h2 (t - s) v (by omega) hv
      rw [show s + (t - s) = t by omega] at this
      rw [hv, this]
  · rw [if_neg h, Array.getElem?_setIfInBounds_ne (by omega)]
theorem Os.set_cell {α : Type} {f : α → List Value} {sz : Nat} {T : TypeId} {w : World} {base n c g i : Nat} {xs : List α} (hf : ∀ x, (f x).length = sz) (hs : 0 < sz) (h : Os f sz T w base (.slice (some ⟨g, 0, none⟩) n c) xs) {x y : α} {u : Value} (j : Nat) (hi : xs[i]? = some x) (hj : (f y)[j]? = some u) (hx : ∀ m v, m ≠ j → (f y)[m]? = some v → (f x)[m]? = some v) : Os f sz T (w.setCell ⟨g, i * sz + j, none⟩ u) base (.slice (some ⟨g, 0, none⟩) n c) (xs.set i y) := by
  have hil : i < xs.length := (List.getElem?_eq_some_iff.1 hi).1
  have h1 := h.set hf hs hil y
  obtain ⟨g', cur, e, rfl, hg, hh, hn, hm, hz, hxs⟩ := h.inv
  injection e with e
  subst e
  have hb1 := setCells_blk (f y) (i * sz) w cur hh
  have hb2 := setCells_blk [u] (i * sz + j) w cur hh
  have hjl := (List.getElem?_eq_some_iff.1 hj).1
  have hbd : i * sz + (f y).length ≤ cur.size := by
    have h3 : (i + 1) * sz ≤ c * sz := Nat.mul_le_mul_right _ (by omega)
    rw [Nat.succ_mul] at h3; rw [hf, hz]; exact h3
  have e2 : Go.Sort.setMany cur (i * sz) (f y) = Go.Sort.setMany cur (i * sz + j) [u] := by
    rw [setMany_one cur (i * sz) j u (f y) hbd hjl hj fun m v hm hv => ?_]
    · rfl
    · have h2 := (h.cells hf hi m v (hx m v hm hv)).1
      rwa [blk_cell hh] at h2
  rw [e2] at hb1
  have hb3 : (w.setCell ⟨g, i * sz + j, none⟩ u).heap[g]? = (w.setCells g (i * sz) (f y)).heap[g]? := by rw [hb1]; exact hb2
  obtain ⟨q1, ⟨q, _⟩ | ⟨g2, cap2, cur2, q, r1, r2, r3, r4, r5, r6⟩⟩ := h1
  · cases q
  · refine ⟨q1, .inr ⟨g2, cap2, cur2, q, r1, ?_, r3, r4, r5, r6⟩⟩
    injection q with q _ _
    injection q with q
    injection q with q
    subst q
    rw [hb3]; exact r2
end Go.Proofs.Ytglnnplijienbaa
