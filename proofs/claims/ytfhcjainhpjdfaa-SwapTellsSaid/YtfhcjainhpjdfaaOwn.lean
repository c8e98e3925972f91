/- Slices of bytes that the call made itself; slices.Clone at []byte. -/
import Derived.Test.YtfhcjainhpjdfaaRow
import Derived.OwnWalk
import Derived.Lib.SliceRun
namespace Go.Proofs.Ytfhcjainhpjdfaa
open Go.RowKit

/-- A slice of the call's own, in a block of its own from 'base' on, that reads as the numbers zs. -/
def Own (k : IntKind) (T : TypeId) (w : World) (base : Nat) (A : Option Addr) (n c : Nat) (zs : List Int) : Prop :=
  zs.length = n ∧ n ≤ c ∧ c ≤ maxLen ∧ (0 < n → ∃ g cur, A = some ⟨g, 0, none⟩ ∧ base ≤ g ∧ w.heap[g]? = some (.cells cur T (0, 0)) ∧ ∀ i, i < n → cur[i]? = some (.int k (zs.getD i 0)))
theorem blk_cell {w : World} {g : Nat} {cur : Array Value} {T : TypeId} (h : w.heap[g]? = some (.cells cur T (0, 0))) (i : Nat) : w.cell? ⟨g, i, none⟩ = cur[i]? := by
  simp [World.cell?, h]
theorem blk_free {w : World} {g : Nat} {cur : Array Value} {T : TypeId} (h : w.heap[g]? = some (.cells cur T (0, 0))) (i : Nat) : w.frozen? ⟨g, i, none⟩ = false := by
  simp [World.frozen?, h]
theorem blk_lt {w : World} {g : Nat} {o : Obj} (h : w.heap[g]? = some o) : g < w.heap.size := by
  rcases Nat.lt_or_ge g w.heap.size with hlt | hge
  · exact hlt
  · rw [Array.getElem?_eq_none hge] at h; cases h
theorem Own.below {k : IntKind} {T : TypeId} {w w' : World} {base B : Nat} {A : Option Addr} {n c : Nat} {zs : List Int} (h : Own k T w base A n c zs) (hb : Below B w w') (hB : w.heap.size ≤ B) : Own k T w' base A n c zs :=
  ⟨h.1, h.2.1, h.2.2.1, fun hn => by
    obtain ⟨g, cur, e, hg, hh, hc⟩ := h.2.2.2 hn
    exact ⟨g, cur, e, hg, (hb.block g (Nat.lt_of_lt_of_le (blk_lt hh) hB)).trans hh, hc⟩⟩
theorem Own.row {k : IntKind} {T : TypeId} {w : World} {base : Nat} {A : Option Addr} {n c : Nat} {zs : List Int} (h : Own k T w base A n c zs) : Row k w w.heap.size A n zs :=
  ⟨h.1, Nat.le_trans h.2.1 h.2.2.1, fun hn => by
    obtain ⟨g, cur, e, hg, hh, hc⟩ := h.2.2.2 hn
    exact ⟨g, 0, e, blk_lt hh, fun i hi => by rw [blk_cell hh, Nat.zero_add]; exact hc i hi⟩⟩
theorem Own.of_row {k : IntKind} {T : TypeId} {w : World} {base n : Nat} {v : Value} {zs : List Int} (h : w.ownsRow base T 1 v n (zs.map (Value.int k))) : ∃ A c, v = .slice A n c ∧ Own k T w base A n c zs := by
  obtain ⟨hl, h | ⟨g, cap, cur, rfl, hg, hh, hn, hm, hs, hx⟩⟩ := h
  · obtain ⟨rfl, rfl⟩ := h
    exact ⟨none, 0, rfl, by simpa using hl, Nat.le_refl _, by simp, fun hn => absurd hn (by omega)⟩
  · refine ⟨_, cap, rfl, by simpa using hl, hn, hm, fun _ => ⟨g, cur, rfl, hg, hh, fun i hi => ?_⟩⟩
    have hlz : i < zs.length := by have : zs.length = n := by simpa using hl
                                   omega
    have e1 : (cur.toList.take (n * 1))[i]? = some (.int k (zs.getD i 0)) := by
      rw [hx]; simp [List.getD, List.getElem?_eq_getElem hlz]
    rw [List.getElem?_take] at e1
    rw [if_pos (by omega)] at e1
    simpa using e1
theorem Own.set_ {k : IntKind} {T : TypeId} {w : World} {base g n c i : Nat} {zs : List Int} {x : Int} (h : Own k T w base (some ⟨g, 0, none⟩) n c zs) (hi : i < n) : Own k T (w.setCell ⟨g, i, none⟩ (.int k x)) base (some ⟨g, 0, none⟩) n c (zs.set i x) := by
  obtain ⟨h1, h2, h3, h4⟩ := h
  refine ⟨by simpa using h1, h2, h3, fun hn => ?_⟩
  obtain ⟨g', cur, e, hg, hh, hc⟩ := h4 hn
  injection e with e
  injection e with e
  subst e
  refine ⟨g, cur.setIfInBounds i (.int k x), rfl, hg, ?_, fun j hj => ?_⟩
  · simp [World.setCell, Array.getElem?_modify, hh]
  · have hsz : i < cur.size := by
      have := hc i hi
      exact (Array.getElem?_eq_some_iff.1 this).1
    by_cases e : j = i
    · subst e
      rw [Array.getElem?_setIfInBounds_self_of_lt hsz]
      simp [List.getD, h1, hi]
    · rw [Array.getElem?_setIfInBounds_ne (fun h => e h.symm), hc j hj]
      simp [List.getD, Ne.symm e]

theorem getD_get0 {zs : List Int} {i : Nat} (h : i < zs.length) : zs.getD i 0 = zs[i] := by simp [List.getD, List.getElem?_eq_getElem h]

theorem u8info : (Try.prog.info? 5).map (fun i => (i.zero, i.size, i.bytes)) = some (some (.int .u8 0), 1, 1) := by kernel_rfl
theorem eq_nil (w : World) (a : Option Addr) (n c n' c' : Nat) : (binOp .eql 37 (.slice a n c) (.slice none n' c')).run Try.prog w = .ok (.bool a.isNone) w := Lib.run_eql_slice_nil w _ _ a n c n' c' Try.underlying37

set_option maxHeartbeats 2000000 in
theorem clone_any (A : Option Addr) (n c : Nat) (zs : List Int) (w : World) (B : Nat) (hz : Row .u8 w B A n zs) (_ : B ≤ w.heap.size) (hbig : n ≤ 140737488355328) :
    Calls Try.prog 38 #[.slice A n c] w fun e w' => ∃ A' c', e = .returned (.slice A' n c') ∧ Own .u8 5 w' w.heap.size A' n c' zs ∧ Below w.heap.size w w' := by
  have q := eq_nil
  cases A with
  | none =>
    have h0 : n = 0 := by
      rcases Nat.eq_zero_or_pos n with h | h
      · exact h
      · obtain ⟨_, _, e, _⟩ := hz.2.2 h; cases e
    subst h0
    have hl := hz.1
    have HL := Lib.hid hl
    clear hl hz
    go_enter Try.func38, Try.ntmps38
    go_wp2
    go_ret
    exact ⟨none, 0, rfl, ⟨HL.out, Nat.le_refl _, by simp, fun h => absurd h (by omega)⟩, Below.refl _ _⟩
  | some x =>
    obtain ⟨i0, hi, hz0, hz1, hz2⟩ := info_parts u8info
    have hcell : ∀ j u, (zs.map (Value.int .u8))[j]? = some u → w.cell? (x.add j) = some u := by
      intro j u hj
      have hjl : j < zs.length := by
        have := (List.getElem?_eq_some_iff.1 hj).1
        simpa using this
      obtain ⟨b, off, e, hb, hc⟩ := hz.2.2 (by rw [← hz.1]; omega)
      injection e with e
      subst e
      rw [Addr.add_lit, hc j (by rw [← hz.1]; exact hjl)]
      rw [List.getElem?_map, List.getElem?_eq_getElem hjl] at hj
      simp at hj
      rw [← hj, getD_get0 hjl]
    have hl : (zs.map (Value.int .u8)).length = n * 1 := by simp [hz.1]
    have HC := Lib.hid hcell
    have HL := Lib.hid hl
    clear hcell hl hz
    go_enter Try.func38, Try.ntmps38
    go_wp2_with (at_builtin; refine wpList_append_own _ rfl _ _ 37 rfl w.heap.size 5 i0 (.int .u8 0) 1 1 Try.underlying37 hi hz0 hz1 hz2 rfl (by decide) _ _ _ rfl (World.ownsRow_made w #[] 0 (Nat.le_refl _) (Nat.zero_le _) rfl) x n c (zs.map (Value.int .u8)) rfl ?qc1 ?qc2 ?qc3 ?qc4 ?qc5 ?qc6 ?_)
    case qc1 => exact HL.out
    case qc2 =>
      intro j u hj
      exact Lib.cell?_alloc_some _ (HC.out j u hj)
    case qc3 => intro u hu; obtain ⟨y, _, rfl⟩ := List.mem_map.1 hu; rfl
    case qc4 => unfold maxLen; omega
    case qc5 => omega
    case qc6 => simp
    intro v' w1 hown hgrow hnil
    go_wp2
    go_ret

    obtain ⟨A', c', rfl, ho⟩ := Own.of_row hown
    exact ⟨A', c', rfl, ho, ((Below.refl _ w).alloc (Nat.le_refl _) _).grown hgrow (by simp) (by intro k hk; simp [Value.ownBlock] at hk; omega)⟩
end Go.Proofs.Ytfhcjainhpjdfaa
