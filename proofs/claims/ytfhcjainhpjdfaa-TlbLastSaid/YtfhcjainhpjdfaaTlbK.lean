/- tlb.Keep. -/
import Derived.Test.YtfhcjainhpjdfaaTlbM
import Derived.Test.YtfhcjainhpjdfaaSv
namespace Go.Proofs.Ytfhcjainhpjdfaa
open Go.ChangeShapes Go.WideShapes Go.ChangeAt Go.RowKit Go.Joins
set_option linter.unusedVariables false
theorem Past.cell {B b : Nat} {w w' : World} (h : Past B b w w') {g j : Nat} (hg : g < B) (hne : g ≠ b) : w'.cell? ⟨g, j, none⟩ = w.cell? ⟨g, j, none⟩ := by
  obtain ⟨u, h⟩ := h
  rw [h.cell (p := ⟨g, j, none⟩) hg]
  exact World.cell?_of_block (blk_setCell_other (fun e => hne e.symm))
theorem below_set_twice {B : Nat} {w w' : World} {p : Addr} {u v : Value} (h : Below B (w.setCell p u) w') : Below B (w.setCell p v) (w'.setCell p v) :=
  ⟨h.os, h.tape, h.output, by have := h.size; simpa [World.setCell] using this, fun k hk => by
    have h1 := h.block k hk
    simp only [World.setCell, Array.getElem?_modify] at *
    rw [h1]
    by_cases e : p.block = k
    · simp only [e, if_true]
      cases w.heap[k]? with
      | none => rfl
      | some o => cases o <;> simp <;> cases p.spot <;> simp
    · simp [e]⟩
theorem Past.store {B b : Nat} {w w2 w' : World} {v : Value} (h : Past B b w w2) (h2 : Below B w2 w') : Past B b w (w'.setCell ⟨b, 0, none⟩ v) := by
  obtain ⟨u, h⟩ := h
  exact ⟨v, below_set_twice (h.trans h2)⟩
theorem Past.unbox {b : Nat} {w W : World} {o : Obj} (hb : b < w.heap.size) (h : Past (w.heap.size + 1) b (w.alloc o) W) : Past w.heap.size b w W := by
  obtain ⟨u, h⟩ := h
  exact ⟨u, (below_set_both ((Below.refl w.heap.size w).alloc (Nat.le_refl _) o)).trans (h.mono (by omega))⟩
theorem Rw.setOther {α : Type} {f : α → List Value} {sz B g off n : Nat} {w : World} {u : Value} {xs : List α} {p : Addr} (h : Rw f sz w B (some ⟨g, off, none⟩) n xs) (hp : p.block ≠ g) : Rw f sz (w.setCell p u) B (some ⟨g, off, none⟩) n xs :=
  ⟨h.1, h.2.1, fun hn => by
    obtain ⟨b, o, e, hB, hc⟩ := h.2.2 hn
    injection e with e
    injection e with e1 e2
    subst e1 e2
    exact ⟨g, off, rfl, hB, fun i x hx j v hv => (World.cell?_of_block (blk_setCell_other hp)).trans (hc i x hx j v hv)⟩⟩
theorem fC_one1 (x : Cac) : ∀ u ∈ fC x, u.oneCell' = true := by
  have := fC_one [x]
  simpa using this
set_option maxHeartbeats 1000000 in
theorem keep_any (x : Cac) (t : List Cac) (b : Nat) (w : World) (ht : Tl w b t) (hn : t.length ≤ 1000) :
    Calls Try.prog 32 #[.pointer (some ⟨b, 0, none⟩), .agg #[.int .i64 x.p, .int .i64 x.g, .int .i64 x.k, .int .i64 x.n]] w (TlPost b w (cut8 (dropG x.p x.g t ++ [x]))) := by
  have hb : b < w.heap.size := by obtain ⟨A, c, hc, _⟩ := ht; exact lt_of_cell hc
  have HT := Lib.hid ht
  clear ht
  have hW0 : Below w.heap.size w (w.alloc (.cells #[.int .i64 x.p, .int .i64 x.g, .int .i64 x.k, .int .i64 x.n] 27)) := (Below.refl w.heap.size w).alloc (Nat.le_refl _) _
  have ht1 : Tl (w.alloc (.cells #[.int .i64 x.p, .int .i64 x.g, .int .i64 x.k, .int .i64 x.n] 27)) b t := by
    obtain ⟨A, c, hc, hf, hr⟩ := HT.out
    exact ⟨A, c, (hW0.cell (p := ⟨b, 0, none⟩) hb).trans hc, (hW0.frozen (p := ⟨b, 0, none⟩) hb).trans hf, hr.on hW0 (Nat.le_refl _)⟩
  have hd := drop_any x.p x.g t b _ ht1 hn
  clear ht1 hW0
  go_enter Try.func32, Try.ntmps32
  go_wp2_with fail
  refine hd.mono ?_
  clear hd
  rintro e w2 ⟨rfl, htl, hpast⟩
  simp only [World.size_alloc] at htl hpast
  have c0 : w2.cell? ⟨w.heap.size, 0, none⟩ = some (.int .i64 x.p) := by rw [hpast.cell (by omega) (by omega)]; simp [go_sem]
  have c1 : w2.cell? ⟨w.heap.size, 1, none⟩ = some (.int .i64 x.g) := by rw [hpast.cell (by omega) (by omega)]; simp [go_sem]
  have c2 : w2.cell? ⟨w.heap.size, 2, none⟩ = some (.int .i64 x.k) := by rw [hpast.cell (by omega) (by omega)]; simp [go_sem]
  have c3 : w2.cell? ⟨w.heap.size, 3, none⟩ = some (.int .i64 x.n) := by rw [hpast.cell (by omega) (by omega)]; simp [go_sem]
  obtain ⟨v, hv, hvf, _, hvo⟩ := htl
  have hle : (dropG x.p x.g t).length ≤ 1000 := by have := dropG_le x.p x.g t; omega
  have HP := Lib.hid hpast
  clear hpast
  obtain ⟨A2, c2', rfl, _, _, _⟩ := hvo.row fC_len
  have HO := Lib.hid hvo
  clear hvo
  obtain ⟨i0, hi, hz0, hz1, hz2⟩ := info_parts info_C
  have hsz2 : w.heap.size + 1 ≤ w2.heap.size := by obtain ⟨u, h⟩ := HP.out; have := h.size; simpa [World.setCell] using this
  have hb2 : b < w2.heap.size := by omega
  by_cases h9 : 8 < (dropG x.p x.g t).length + 1
  · go_wp2
    go_region_law (refine step_append_own rfl (.tmp 14) (.tmp 16) 22 rfl (w.heap.size + 1) 27 i0 (.agg #[.int .i64 0, .int .i64 0, .int .i64 0, .int .i64 0]) 4 32 Try.underlying22 hi hz0 hz1 hz2 rfl (by decide) (.slice A2 (dropG x.p x.g t).length c2') (dropG x.p x.g t).length ((dropG x.p x.g t).flatMap fC) (by simp [Act.eval]) (HO.out.below ((below_drew _ _).alloc (Nat.le_refl _) _) (Nat.le_refl _)) ⟨w2.heap.size, 0, none⟩ 1 1 (fC x) (by simp [Act.eval]) rfl (fun j u h => alloc_cells (vs := fC x) (W := w2.drew) j u h) (fC_one1 x) (by unfold maxLen; omega) (by omega) (by simp; omega) ?_; intro v' w' hown hgrow; obtain ⟨g3, c3', rfl, hg3, hc3, hm3⟩ := own_form hown (by omega); have hB3 := (((Below.refl (w.heap.size + 1) w2).alloc (by omega) (.cells (fC x).toArray 27)).trans (below_drew _ _)).trans (grown_below hgrow (HO.out.below ((below_drew _ _).alloc (Nat.le_refl _) _) (Nat.le_refl _)) (Nat.le_refl _) (by simp; omega)); have HB3 := Lib.hid hB3; have HOW := Lib.hid hown; have h3 : w'.cell? ⟨b, 0, none⟩ = some (.slice A2 (dropG x.p x.g t).length c2') := (hB3.cell (p := ⟨b, 0, none⟩) (by show b < _; omega)).trans hv; have h4 : w'.frozen? ⟨b, 0, none⟩ = false := (hB3.frozen (p := ⟨b, 0, none⟩) (by show b < _; omega)).trans hvf; clear hB3 hgrow hown)
    all_goals
      have hc1 : 1 < c3' := by omega
      have hc2 : ¬ c3' = 1 := by omega
      have hb3 : b ≠ g3 := by omega
      clear c0 c1 c2 c3 hv hvf hi hz0 hz1 hz2
      go_wp2
      go_end0
      refine ⟨rfl, ?_, ((HP.out.store HB3.out).store (Below.refl _ _)).unbox hb⟩
      have ho := os_append (ys := [x]) (by simpa using HOW.out) (by simp)
      obtain ⟨A4, c4, e4, _, _, hr4⟩ := ho.row fC_len
      injection e4 with e5 e6 e7
      subst e5
      have hd := hr4.drop 1
      rw [Nat.zero_add] at hd
      have hcut : cut8 (dropG x.p x.g t ++ [x]) = (dropG x.p x.g t ++ [x]).drop 1 := by unfold cut8; rw [if_pos (by simp; omega)]
      have hl : ((dropG x.p x.g t ++ [x]).drop 1).length = (dropG x.p x.g t).length := by simp
      have hl2 : (dropG x.p x.g t ++ [x]).length - 1 = (dropG x.p x.g t).length := by simp
      rw [hcut]
      refine ⟨some ⟨g3, 4, none⟩, c3' - 1, ?_, frozen_set_same (frozen_set_same h4), ?_⟩
      · rw [hl]; exact cell_set_same (cell_set_same h3)
      · rw [hl, ← hl2]
        refine Rw.any (B := w'.heap.size) ((hd.setOther ?_).setOther ?_) ?_
        · exact hb3
        · exact hb3
        · have e : ∀ (V : World) (p : Addr) (u : Value), (V.setCell p u).heap.size = V.heap.size := fun V p u => by simp [World.setCell]
          rw [e, e]; exact Nat.le_refl _
  · go_wp2
    go_region_law (refine step_append_own rfl (.tmp 14) (.tmp 16) 22 rfl (w.heap.size + 1) 27 i0 (.agg #[.int .i64 0, .int .i64 0, .int .i64 0, .int .i64 0]) 4 32 Try.underlying22 hi hz0 hz1 hz2 rfl (by decide) (.slice A2 (dropG x.p x.g t).length c2') (dropG x.p x.g t).length ((dropG x.p x.g t).flatMap fC) (by simp [Act.eval]) (HO.out.below ((below_drew _ _).alloc (Nat.le_refl _) _) (Nat.le_refl _)) ⟨w2.heap.size, 0, none⟩ 1 1 (fC x) (by simp [Act.eval]) rfl (fun j u h => alloc_cells (vs := fC x) (W := w2.drew) j u h) (fC_one1 x) (by unfold maxLen; omega) (by omega) (by simp; omega) ?_; intro v' w' hown hgrow; obtain ⟨g3, c3', rfl, hg3, hc3, hm3⟩ := own_form hown (by omega); have hB3 := (((Below.refl (w.heap.size + 1) w2).alloc (by omega) (.cells (fC x).toArray 27)).trans (below_drew _ _)).trans (grown_below hgrow (HO.out.below ((below_drew _ _).alloc (Nat.le_refl _) _) (Nat.le_refl _)) (Nat.le_refl _) (by simp; omega)); have HB3 := Lib.hid hB3; have HOW := Lib.hid hown; have h3 : w'.cell? ⟨b, 0, none⟩ = some (.slice A2 (dropG x.p x.g t).length c2') := (hB3.cell (p := ⟨b, 0, none⟩) (by show b < _; omega)).trans hv; have h4 : w'.frozen? ⟨b, 0, none⟩ = false := (hB3.frozen (p := ⟨b, 0, none⟩) (by show b < _; omega)).trans hvf; clear hB3 hgrow hown)
    all_goals
      clear c0 c1 c2 c3 hv hvf hi hz0 hz1 hz2
      go_wp2
      go_end0
      refine ⟨rfl, ?_, (HP.out.store HB3.out).unbox hb⟩
      have ho := os_append (ys := [x]) (by simpa using HOW.out) (by simp)
      have hcut : cut8 (dropG x.p x.g t ++ [x]) = dropG x.p x.g t ++ [x] := by unfold cut8; rw [if_neg (by simp; omega)]
      rw [hcut]
      exact (tlO_store h3 h4 (by omega) ho).tl
end Go.Proofs.Ytfhcjainhpjdfaa
