/- Slices of numbers that the call made itself. -/
import Derived.Test.YtglnnplijienbaaM5
import Derived.OwnWalk
import Derived.Lib.SliceRun
namespace Go.Proofs.Ytglnnplijienbaa
open Go.RowKit

/-- A slice of the call's own, in a block of its own from 'base' on, that reads as the numbers zs. -/
def Own (k : IntKind) (T : TypeId) (w : World) (base : Nat) (A : Option Addr) (n c : Nat) (zs : List Int) : Prop :=
  zs.length = n ∧ n ≤ c ∧ c ≤ maxLen ∧ (0 < n → ∃ g cur, A = some ⟨g, 0, none⟩ ∧ base ≤ g ∧ w.heap[g]? = some (.cells cur T (0, 0)) ∧ ∀ i, i < n → cur[i]? = some (.int k (zs.getD i 0)))
theorem blk_cell {w : World} {g : Nat} {cur : Array Value} {T : TypeId} (h : w.heap[g]? = some (.cells cur T (0, 0))) (i : Nat) : w.cell? ⟨g, i, none⟩ = cur[i]? := by
  simp [World.cell?, h]
theorem blk_free {w : World} {g : Nat} {cur : Array Value} {T : TypeId} (h : w.heap[g]? = some (.cells cur T (0, 0))) (i : Nat) : w.frozen? ⟨g, i, none⟩ = false := by
  simp [World.frozen?, h]
theorem blk_lt {w : World} {g : Nat} {o : Obj} (h : w.heap[g]? = some o) : g < w.heap.size := by
  rcases Nat.lt_or_ge g w.heap.size with hlt | hge
  · exact hlt
  · rw [Array.getElem?_eq_none hge] at h; cases h
theorem Own.below {k : IntKind} {T : TypeId} {w w' : World} {base B : Nat} {A : Option Addr} {n c : Nat} {zs : List Int} (h : Own k T w base A n c zs) (hb : Below B w w') (hB : w.heap.size ≤ B) : Own k T w' base A n c zs :=
  ⟨h.1, h.2.1, h.2.2.1, fun hn => by
    obtain ⟨g, cur, e, hg, hh, hc⟩ := h.2.2.2 hn
    exact ⟨g, cur, e, hg, (hb.block g (Nat.lt_of_lt_of_le (blk_lt hh) hB)).trans hh, hc⟩⟩
theorem Own.row {k : IntKind} {T : TypeId} {w : World} {base : Nat} {A : Option Addr} {n c : Nat} {zs : List Int} (h : Own k T w base A n c zs) : Row k w w.heap.size A n zs :=
  ⟨h.1, Nat.le_trans h.2.1 h.2.2.1, fun hn => by
    obtain ⟨g, cur, e, hg, hh, hc⟩ := h.2.2.2 hn
    exact ⟨g, 0, e, blk_lt hh, fun i hi => by rw [blk_cell hh, Nat.zero_add]; exact hc i hi⟩⟩
theorem Own.of_row {k : IntKind} {T : TypeId} {w : World} {base n : Nat} {v : Value} {zs : List Int} (h : w.ownsRow base T 1 v n (zs.map (Value.int k))) : ∃ A c, v = .slice A n c ∧ Own k T w base A n c zs := by
  obtain ⟨hl, h | ⟨g, cap, cur, rfl, hg, hh, hn, hm, hs, hx⟩⟩ := h
  · obtain ⟨rfl, rfl⟩ := h
    exact ⟨none, 0, rfl, by simpa using hl, Nat.le_refl _, by simp, fun hn => absurd hn (by omega)⟩
  · refine ⟨_, cap, rfl, by simpa using hl, hn, hm, fun _ => ⟨g, cur, rfl, hg, hh, fun i hi => ?_⟩⟩
    have hlz : i < zs.length := by have : zs.length = n := by simpa using hl
                                   omega
    have e1 : (cur.toList.take (n * 1))[i]? = some (.int k (zs.getD i 0)) := by
      rw [hx]; simp [List.getD, List.getElem?_eq_getElem hlz]
    rw [List.getElem?_take] at e1
    rw [if_pos (by omega)] at e1
    simpa using e1
theorem Own.set_ {k : IntKind} {T : TypeId} {w : World} {base g n c i : Nat} {zs : List Int} {x : Int} (h : Own k T w base (some ⟨g, 0, none⟩) n c zs) (hi : i < n) : Own k T (w.setCell ⟨g, i, none⟩ (.int k x)) base (some ⟨g, 0, none⟩) n c (zs.set i x) := by
  obtain ⟨h1, h2, h3, h4⟩ := h
  refine ⟨by simpa using h1, h2, h3, fun hn => ?_⟩
  obtain ⟨g', cur, e, hg, hh, hc⟩ := h4 hn
  injection e with e
  injection e with e
  subst e
  refine ⟨g, cur.setIfInBounds i (.int k x), rfl, hg, ?_, fun j hj => ?_⟩
  · simp [World.setCell, Array.getElem?_modify, hh]
  · have hsz : i < cur.size := by
      have := hc i hi
      exact (Array.getElem?_eq_some_iff.1 this).1
    by_cases e : j = i
    · subst e
      rw [Array.getElem?_setIfInBounds_self_of_lt hsz]
      simp [List.getD, h1, hi]
    · rw [Array.getElem?_setIfInBounds_ne (fun h => e h.symm), hc j hj]
      simp [List.getD, Ne.symm e]

theorem getD_get0 {zs : List Int} {i : Nat} (h : i < zs.length) : zs.getD i 0 = zs[i] := by simp [List.getD, List.getElem?_eq_getElem h]

end Go.Proofs.Ytglnnplijienbaa
