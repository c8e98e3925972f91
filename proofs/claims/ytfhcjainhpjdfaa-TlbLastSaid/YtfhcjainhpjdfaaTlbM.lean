/- tlb's methods: DropAll, Drop, Keep, All. -/
import Derived.Test.YtfhcjainhpjdfaaSlC
import Derived.Deep.RegionHeld3
namespace Go.Proofs.Ytfhcjainhpjdfaa
open Go.ChangeShapes Go.WideShapes Go.ChangeAt Go.RowKit Go.Joins
set_option linter.unusedVariables false

/-- The box of a Tlb: a slice that reads as t. -/
def Tl (w : World) (b : Nat) (t : List Cac) : Prop := ∃ A c, w.cell? ⟨b, 0, none⟩ = some (.slice A t.length c) ∧ w.frozen? ⟨b, 0, none⟩ = false ∧ Rw fC 4 w w.heap.size A t.length t
/-- .. a slice of the call's own. -/
def TlO (w : World) (b base : Nat) (t : List Cac) : Prop := ∃ v, w.cell? ⟨b, 0, none⟩ = some v ∧ w.frozen? ⟨b, 0, none⟩ = false ∧ b < base ∧ Os fC 4 27 w base v t
theorem TlO.tl {w : World} {b base : Nat} {t : List Cac} (h : TlO w b base t) : Tl w b t := by
  obtain ⟨v, h1, h2, _, h3⟩ := h
  obtain ⟨A, c, rfl, _, _, h4⟩ := h3.row fC_len
  exact ⟨A, c, h1, h2, h4⟩
/-- All below B but the box is as it was. -/
def Past (B b : Nat) (w w' : World) : Prop := ∃ u, Below B (w.setCell ⟨b, 0, none⟩ u) w'
/-- What a method leaves. -/
def TlPost (b : Nat) (w : World) (t : List Cac) (e : Ending) (w' : World) : Prop := e = .returned (.tuple #[]) ∧ Tl w' b t ∧ Past w.heap.size b w w'
def TlPostO (b : Nat) (w : World) (t : List Cac) (e : Ending) (w' : World) : Prop := e = .returned (.tuple #[]) ∧ TlO w' b w.heap.size t ∧ Past w.heap.size b w w'
theorem below_set_both {B : Nat} {w w' : World} {p : Addr} {v : Value} (h : Below B w w') : Below B (w.setCell p v) (w'.setCell p v) :=
  ⟨h.os, h.tape, h.output, by simpa [World.setCell] using h.size, fun k hk => by simp [World.setCell, Array.getElem?_modify, h.block k hk]⟩
theorem blk_setCell_other {w : World} {p : Addr} {v : Value} {g : Nat} (h : p.block ≠ g) : (w.setCell p v).heap[g]? = w.heap[g]? := by simp [World.setCell, Array.getElem?_modify, h]
theorem Os.setOther {α : Type} {f : α → List Value} {sz : Nat} {T : TypeId} {w : World} {base : Nat} {v u : Value} {xs : List α} {p : Addr} (h : Os f sz T w base v xs) (hp : p.block < base) : Os f sz T (w.setCell p u) base v xs := by
  obtain ⟨h1, h | ⟨g, cap, cur, e, hg, hh, hn, hm, hz, hx⟩⟩ := h
  · exact ⟨h1, .inl h⟩
  · exact ⟨h1, .inr ⟨g, cap, cur, e, hg, (blk_setCell_other (by omega)).trans hh, hn, hm, hz, hx⟩⟩
theorem cell_set_same {w : World} {b o : Nat} {u v : Value} (h : w.cell? ⟨b, o, none⟩ = some u) : (w.setCell ⟨b, o, none⟩ v).cell? ⟨b, o, none⟩ = some v := by
  simp only [World.cell?, World.setCell, Array.getElem?_modify] at *
  cases hh : w.heap[b]? with
  | none => rw [hh] at h; simp at h
  | some ob =>
    rw [hh] at h
    cases ob <;> simp at h ⊢
    exact Array.getElem?_setIfInBounds_self_of_lt (Array.getElem?_eq_some_iff.1 h).1
theorem frozen_set_same {w : World} {p : Addr} {v : Value} (h : w.frozen? p = false) : (w.setCell p v).frozen? p = false := by
  obtain ⟨b, o, s⟩ := p
  simp only [World.frozen?, World.setCell, Array.getElem?_modify] at *
  cases hh : w.heap[b]? with
  | none => simp
  | some ob => rw [hh] at h; cases ob <;> simp_all
theorem dropAll_pred (p : Int) (w : World) (b base : Nat) (hb : b < base) (hbase : base ≤ w.heap.size) (hc : w.cell? ⟨b, 0, none⟩ = some (.int .i64 p)) :
    PredC 43 #[.pointer (some ⟨b, 0, none⟩)] (sameP p) base w := by
  intro W x hW
  have h1 : W.cell? ⟨b, 0, none⟩ = some (.int .i64 p) := (hW.cell (p := ⟨b, 0, none⟩) hb).trans hc
  have hlt : b < W.heap.size := by have := hW.size; omega
  clear hW hc
  go_enter Try.func43, Try.ntmps43
  go_wp2
  go_ret
  exact ⟨ret_b rfl, (Below.refl _ _).alloc (Nat.le_refl _) _⟩
theorem drop_pred (p g : Int) (w : World) (b1 b2 base : Nat) (hb1 : b1 < base) (hb2 : b2 < base) (hbase : base ≤ w.heap.size) (hc1 : w.cell? ⟨b1, 0, none⟩ = some (.int .i64 p)) (hc2 : w.cell? ⟨b2, 0, none⟩ = some (.int .i64 g)) :
    PredC 44 #[.pointer (some ⟨b1, 0, none⟩), .pointer (some ⟨b2, 0, none⟩)] (sameG p g) base w := by
  intro W x hW
  have h1 : W.cell? ⟨b1, 0, none⟩ = some (.int .i64 p) := (hW.cell (p := ⟨b1, 0, none⟩) hb1).trans hc1
  have h2 : W.cell? ⟨b2, 0, none⟩ = some (.int .i64 g) := (hW.cell (p := ⟨b2, 0, none⟩) hb2).trans hc2
  have hlt1 : b1 < W.heap.size := by have := hW.size; omega
  have hlt2 : b2 < W.heap.size := by have := hW.size; omega
  clear hW hc1 hc2
  cases hq : x.p == p with
  | true =>
    have HQ := Lib.hid hq
    have hq' : x.p = p := by simpa using hq
    clear hq
    go_enter Try.func44, Try.ntmps44
    go_wp2
    go_ret
    exact ⟨ret_b (by unfold sameG; rw [HQ.out]; simp), (Below.refl _ _).alloc (Nat.le_refl _) _⟩
  | false =>
    have HQ := Lib.hid hq
    go_enter Try.func44, Try.ntmps44
    go_wp2
    go_ret
    exact ⟨ret_b (by unfold sameG; rw [HQ.out]; simp), (Below.refl _ _).alloc (Nat.le_refl _) _⟩

theorem tlO_store {w2 : World} {b base : Nat} {v u : Value} {t : List Cac} (hu : w2.cell? ⟨b, 0, none⟩ = some u) (hf : w2.frozen? ⟨b, 0, none⟩ = false) (hb : b < base) (ho : Os fC 4 27 w2 base v t) : TlO (w2.setCell ⟨b, 0, none⟩ v) b base t :=
  ⟨v, cell_set_same hu, frozen_set_same hf, hb, ho.setOther hb⟩

set_option maxHeartbeats 1000000 in
theorem dropAll_any (p : Int) (t : List Cac) (b : Nat) (w : World) (ht : Tl w b t) (hn : t.length ≤ 1000) :
    Calls Try.prog 30 #[.pointer (some ⟨b, 0, none⟩), .int .i64 p] w (TlPostO b w (dropP p t)) := by
  obtain ⟨A, c, hc, hf, hr⟩ := ht
  have hb : b < w.heap.size := lt_of_cell hc
  have HR := Lib.hid hr
  clear hr
  go_enter Try.func30, Try.ntmps30
  go_wp2_with fail
  refine (clone_C A t.length c t _ w.heap.size (HR.out.below ((Below.refl _ _).alloc (Nat.le_refl _) _)) (by simp) (by omega)).mono ?_
  rintro e w1 ⟨v, rfl, ho, hb1⟩
  simp only [World.size_alloc] at ho hb1
  have hs1 : w.heap.size + 1 ≤ w1.heap.size := by have := hb1.size; simp at this; omega
  have hbox : w1.cell? ⟨w.heap.size, 0, none⟩ = some (.int .i64 p) := by rw [hb1.cell (p := ⟨w.heap.size, 0, none⟩) (Nat.lt_succ_self _)]; simp [go_sem]
  have hP := dropAll_pred p w1 w.heap.size (w.heap.size + 1) (Nat.lt_succ_self _) hs1 hbox
  have HO := Lib.hid ho
  clear ho hbox
  go_wp2_with fail
  refine (deleteFunc_C _ _ (enters_of Try.func43 (by kernel_rfl) rfl) (sameP p) v t w1 (w.heap.size + 1) HO.out hs1 (by omega) hP).mono ?_
  rintro e w2 ⟨v2, rfl, ho2, hb2⟩
  have hW : Below w.heap.size w w2 := (((Below.refl w.heap.size w).alloc (Nat.le_refl _) (.cells #[.int .i64 p] 3)).trans (hb1.mono (by omega))).trans (hb2.mono (by omega))
  have h3 : w2.cell? ⟨b, 0, none⟩ = some (.slice A t.length c) := (hW.cell (p := ⟨b, 0, none⟩) hb).trans hc
  have h4 : w2.frozen? ⟨b, 0, none⟩ = false := (hW.frozen (p := ⟨b, 0, none⟩) hb).trans hf
  obtain ⟨A2, c2, rfl, _, _, _⟩ := ho2.row fC_len
  have HO2 := Lib.hid (ho2.rebase (show w.heap.size ≤ w.heap.size + 1 by omega))
  have HW := Lib.hid hW
  clear ho2 hW hb1 hb2 hP HO HR
  go_wp2
  go_end0
  exact ⟨rfl, tlO_store h3 h4 hb HO2.out, _, below_set_both HW.out⟩

set_option maxHeartbeats 1000000 in
theorem drop_any (p g : Int) (t : List Cac) (b : Nat) (w : World) (ht : Tl w b t) (hn : t.length ≤ 1000) :
    Calls Try.prog 31 #[.pointer (some ⟨b, 0, none⟩), .int .i64 p, .int .i64 g] w (TlPostO b w (dropG p g t)) := by
  obtain ⟨A, c, hc, hf, hr⟩ := ht
  have hb : b < w.heap.size := lt_of_cell hc
  have HR := Lib.hid hr
  clear hr
  go_enter Try.func31, Try.ntmps31
  go_wp2_with fail
  have hW0 : Below w.heap.size w ((w.alloc (.cells #[.int .i64 p] 3)).alloc (.cells #[.int .i64 g] 3)) := ((Below.refl w.heap.size w).alloc (Nat.le_refl _) _).alloc (by simp) _
  refine (clone_C A t.length c t _ w.heap.size (HR.out.below hW0) (by simp; omega) (by omega)).mono ?_
  rintro e w1 ⟨v, rfl, ho, hb1⟩
  simp only [World.size_alloc] at ho hb1
  have hs1 : w.heap.size + 1 + 1 ≤ w1.heap.size := by have := hb1.size; simp at this; omega
  have hbox1 : w1.cell? ⟨w.heap.size, 0, none⟩ = some (.int .i64 p) := by rw [hb1.cell (p := ⟨w.heap.size, 0, none⟩) (by show w.heap.size < _; omega)]; simp [go_sem]
  have hbox2 : w1.cell? ⟨w.heap.size + 1, 0, none⟩ = some (.int .i64 g) := by rw [hb1.cell (p := ⟨w.heap.size + 1, 0, none⟩) (by show w.heap.size + 1 < _; omega)]; simp [go_sem]
  have hP := drop_pred p g w1 w.heap.size (w.heap.size + 1) (w.heap.size + 1 + 1) (by omega) (by omega) hs1 hbox1 hbox2
  have HO := Lib.hid ho
  clear ho hbox1 hbox2
  go_wp2_with fail
  refine (deleteFunc_C _ _ (enters_of Try.func44 (by kernel_rfl) rfl) (sameG p g) v t w1 (w.heap.size + 1 + 1) HO.out hs1 (by omega) hP).mono ?_
  rintro e w2 ⟨v2, rfl, ho2, hb2⟩
  have hW : Below w.heap.size w w2 := (hW0.trans (hb1.mono (by omega))).trans (hb2.mono (by omega))
  have h3 : w2.cell? ⟨b, 0, none⟩ = some (.slice A t.length c) := (hW.cell (p := ⟨b, 0, none⟩) hb).trans hc
  have h4 : w2.frozen? ⟨b, 0, none⟩ = false := (hW.frozen (p := ⟨b, 0, none⟩) hb).trans hf
  obtain ⟨A2, c2, rfl, _, _, _⟩ := ho2.row fC_len
  have HO2 := Lib.hid (ho2.rebase (show w.heap.size ≤ w.heap.size + 1 + 1 by omega))
  have HW := Lib.hid hW
  clear ho2 hW hb1 hb2 hP HO HR hW0
  go_wp2
  go_end0
  exact ⟨rfl, tlO_store h3 h4 hb HO2.out, _, below_set_both HW.out⟩

theorem all_any (t : List Cac) (b : Nat) (w : World) (ht : Tl w b t) (hn : t.length ≤ 1000) :
    Calls Try.prog 33 #[.pointer (some ⟨b, 0, none⟩)] w (Gives fC 4 27 w.heap.size w t) := by
  obtain ⟨A, c, hc, hf, hr⟩ := ht
  have hb : b < w.heap.size := lt_of_cell hc
  have HR := Lib.hid hr
  clear hr
  go_enter Try.func33, Try.ntmps33
  go_wp2_with fail
  refine (clone_C A t.length c t _ w.heap.size HR.out (Nat.le_refl _) (by omega)).mono ?_
  rintro e w1 ⟨v, rfl, ho, hb1⟩
  have HO := Lib.hid ho
  clear ho
  go_wp2
  go_ret
  exact ⟨v, rfl, HO.out, hb1⟩
end Go.Proofs.Ytfhcjainhpjdfaa
