/- The walk of CheckTells. -/
import Derived.Test.YtokpodmefnmmcaaCheckG
import Derived.Test.YtokpodmefnmmcaaCheckT
import Derived.Test.YtokpodmefnmmcaaOpenK
import Derived.Deep.RegionHeld3
namespace Go.Proofs.Ytokpodmefnmmcaa
open Go.RowKit
attribute [local go_sem] Key4.v

set_option maxHeartbeats 4000000 in
theorem checkTells_walk {w : World} (r : Int) (_ : I64 r) (key : Int) (_ : I64 key) (tg sd : Bool) (K : Key4) (_ : K.fits) (way : Int) (_ : I64 way) (A : Option Addr) (n c : Nat) (zs : List Int) (hz : Row .i64 w w.heap.size A n zs) (_ : ∀ z ∈ zs, (Lit.int .i64 z).wf = true) (_ : n ≤ c) (_ : c ≤ maxLen) (tag : Int) (_ : I64 tag) :
    Calls Try.prog 8 #[.agg #[.int .i64 r, .int .i64 key, .bool tg, .bool sd], K.v, .int .i64 way, .slice A n c, .int .i64 tag] w fun e w' => e = .returned (.bool true) ∧ Below w.heap.size w w' := by
  simp only [Key4.v]
  have HZ := Lib.hid hz
  clear hz
  go_enter Try.func8, Try.ntmps8
  go_wp2_with fail
  refine (tags_any r key tg sd way A n c zs tag _ w.heap.size (by exact HZ.out.below (by repeat' first | exact Below.refl _ _ | refine Below.alloc ?_ ?_ _ | refine below_thru ?_ (by assumption) ?_ | omega | (simp; done) | (simp; omega))) (by simp; omega)).mono ?_
  rintro e w1 ⟨rfl, hb1⟩
  obtain ⟨hc1, hf1⟩ := bcell hb1
  have hz1 : w.heap.size + 2 ≤ w1.heap.size := by have := hb1.size; simp at this; omega
  have y0 : w.heap.size < w1.heap.size := by omega
  have y1 : w.heap.size + 1 < w1.heap.size := by omega
  go_wp2_with fail
  refine (gtags_any r key tg sd way A n c zs tag _ w.heap.size (by exact HZ.out.below (by repeat' first | exact Below.refl _ _ | refine Below.alloc ?_ ?_ _ | refine below_thru ?_ (by assumption) ?_ | omega | (simp; done) | (simp; omega))) (by omega)).mono ?_
  rintro e w2 ⟨rfl, hb2⟩
  obtain ⟨hc2, hf2⟩ := bcell hb2
  have hz2 : w.heap.size + 2 ≤ w2.heap.size := by have := hb2.size; omega
  have x0 : w.heap.size < w2.heap.size := by omega
  have x1 : w.heap.size + 1 < w2.heap.size := by omega

  have c0 : w2.cell? ⟨w.heap.size, 0, none⟩ = some (.int .i64 r) := by rw [hc2 _ _ (by omega), hc1 _ _ (by first | (simp; done) | (simp; omega))]; simp [go_sem]
  have c1 : w2.cell? ⟨w.heap.size, 1, none⟩ = some (.int .i64 key) := by rw [hc2 _ _ (by omega), hc1 _ _ (by first | (simp; done) | (simp; omega))]; simp [go_sem]
  have c2 : w2.cell? ⟨w.heap.size, 2, none⟩ = some (.bool tg) := by rw [hc2 _ _ (by omega), hc1 _ _ (by first | (simp; done) | (simp; omega))]; simp [go_sem]
  have c3 : w2.cell? ⟨w.heap.size, 3, none⟩ = some (.bool sd) := by rw [hc2 _ _ (by omega), hc1 _ _ (by first | (simp; done) | (simp; omega))]; simp [go_sem]
  have c4 : w2.cell? ⟨w.heap.size + 1, 0, none⟩ = some (.bool K.t0) := by rw [hc2 _ _ (by omega), hc1 _ _ (by first | (simp; done) | (simp; omega))]; simp [go_sem]
  have c5 : w2.cell? ⟨w.heap.size + 1, 1, none⟩ = some (.int .i64 K.d0) := by rw [hc2 _ _ (by omega), hc1 _ _ (by first | (simp; done) | (simp; omega))]; simp [go_sem]
  have c6 : w2.cell? ⟨w.heap.size + 1, 2, none⟩ = some (.bool K.t1) := by rw [hc2 _ _ (by omega), hc1 _ _ (by first | (simp; done) | (simp; omega))]; simp [go_sem]
  have c7 : w2.cell? ⟨w.heap.size + 1, 3, none⟩ = some (.int .i64 K.d1) := by rw [hc2 _ _ (by omega), hc1 _ _ (by first | (simp; done) | (simp; omega))]; simp [go_sem]
  have c8 : w2.cell? ⟨w.heap.size + 1, 4, none⟩ = some (.bool K.t2) := by rw [hc2 _ _ (by omega), hc1 _ _ (by first | (simp; done) | (simp; omega))]; simp [go_sem]
  have c9 : w2.cell? ⟨w.heap.size + 1, 5, none⟩ = some (.int .i64 K.d2) := by rw [hc2 _ _ (by omega), hc1 _ _ (by first | (simp; done) | (simp; omega))]; simp [go_sem]
  have c10 : w2.cell? ⟨w.heap.size + 1, 6, none⟩ = some (.bool K.t3) := by rw [hc2 _ _ (by omega), hc1 _ _ (by first | (simp; done) | (simp; omega))]; simp [go_sem]
  have c11 : w2.cell? ⟨w.heap.size + 1, 7, none⟩ = some (.int .i64 K.d3) := by rw [hc2 _ _ (by omega), hc1 _ _ (by first | (simp; done) | (simp; omega))]; simp [go_sem]
  clear hc1 hc2 hf1 hf2
  go_wp2_with fail
  go_region_held3 (fun w' => w'.cell? ⟨w.heap.size, 0, none⟩ = some (.int .i64 r) ∧ w'.cell? ⟨w.heap.size, 1, none⟩ = some (.int .i64 key) ∧ w'.cell? ⟨w.heap.size, 2, none⟩ = some (.bool tg) ∧ w'.cell? ⟨w.heap.size, 3, none⟩ = some (.bool sd) ∧ w'.cell? ⟨w.heap.size + 1, 0, none⟩ = some (.bool K.t0) ∧ w'.cell? ⟨w.heap.size + 1, 1, none⟩ = some (.int .i64 K.d0) ∧ w'.cell? ⟨w.heap.size + 1, 2, none⟩ = some (.bool K.t1) ∧ w'.cell? ⟨w.heap.size + 1, 3, none⟩ = some (.int .i64 K.d1) ∧ w'.cell? ⟨w.heap.size + 1, 4, none⟩ = some (.bool K.t2) ∧ w'.cell? ⟨w.heap.size + 1, 5, none⟩ = some (.int .i64 K.d2) ∧ w'.cell? ⟨w.heap.size + 1, 6, none⟩ = some (.bool K.t3) ∧ w'.cell? ⟨w.heap.size + 1, 7, none⟩ = some (.int .i64 K.d3))
    (first | (simp [go_sem, *]; done) | ((repeat' apply And.intro) <;> exact keepc (by assumption) (by simp [go_sem, *]) (by simp; omega)))
    (first
      | (go_at_call 29; refine (wrong_any _ _).mono ?_; rintro e w' ⟨rfl, rfl⟩)
      | (go_at_call 30; refine (gwrong_any _ _).mono ?_; rintro e w' ⟨rfl, rfl⟩)
      | (go_at_call 31; refine (page_any r key tg sd K way _).mono ?_; rintro e w' ⟨rfl, rfl⟩)
      | (go_at_call 32; refine (gpage_any r key tg sd K way _).mono ?_; rintro e w3 ⟨rfl, hb3⟩))
  go_wp2
  all_goals go_ret
  all_goals exact ⟨rfl, (by repeat' first | exact Below.refl _ _ | refine Below.alloc ?_ ?_ _ | refine Below.drew ?_ | refine below_thru ?_ (by assumption) ?_ | omega | (simp; done) | (simp; omega))⟩

end Go.Proofs.Ytokpodmefnmmcaa
