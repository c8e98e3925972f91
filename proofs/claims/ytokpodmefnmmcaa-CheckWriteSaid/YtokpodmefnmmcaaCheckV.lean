/- CheckWrite and CheckTags: their walks. -/
import Derived.Test.YtokpodmefnmmcaaCheckM
namespace Go.Proofs.Ytokpodmefnmmcaa
open Go.RowKit
attribute [local go_sem] Key4.v
set_option linter.unusedVariables false

theorem pageF_exec (r key : Int) (K K' : Key4) : pageF r key K' 4 = pageF r key K 4 := by
  unfold pageF
  by_cases h : ¬ ((4 : Int) = 1 ∨ (4 : Int) = 2 ∨ (4 : Int) = 4) ∨ r / 4 % 2 = 0
  · rw [if_pos h, if_pos h]
  · rw [if_neg h, if_neg h, if_neg (by rintro ⟨h', _⟩; exact h' rfl), if_neg (by rintro ⟨h', _⟩; exact h' rfl)]
theorem wrong_ok {r : Int} (h : wrongE r = 0) : 0 ≤ r ∧ r < 6 := by
  unfold wrongE at h
  by_cases h1 : r < 0 ∨ 7 < r
  · rw [if_pos h1] at h; omega
  · rw [if_neg h1] at h
    by_cases h2 : 6 ≤ r
    · rw [if_pos h2] at h; omega
    · omega
theorem not_both {r key : Int} {K : Key4} (h : wrongE r = 0) (h2 : pageF r key K 2 ≠ 2) : pageF r key K 4 = 2 := by
  obtain ⟨a, b⟩ := wrong_ok h
  have : r / 2 % 2 ≠ 0 := fun hz => h2 (pf2 (Or.inr hz)).symm
  exact (pf2 (Or.inr (by omega))).symm

set_option maxHeartbeats 4000000 in
theorem checkWrite_1 (r : Int) (key : Int) (tg sd : Bool) (K L : Key4) (hx : pageF r key L 4 = pageF r key K 4) (h : (wrongE r != 0) = true) (w : World) :
    Calls Try.prog 10 #[.agg #[.int .i64 r, .int .i64 key, .bool tg, .bool sd], K.v, L.v] w fun e w' => e = .returned (.bool true) ∧ Below w.heap.size w w' := by
  obtain ⟨t0, d0, t1, d1, t2, d2, t3, d3⟩ := K
  obtain ⟨s0, e0, s1, e1, s2, e2, s3, e3⟩ := L
  simp only [Key4.v]
  go_enter Try.func10, Try.ntmps10
  go_wp2_with fail
  refine (alive7_any _).mono ?_
  rintro e w1 ⟨rfl, hb1⟩
  obtain ⟨hc1, hf1⟩ := bcell hb1
  have hz1 : w.heap.size + 3 ≤ w1.heap.size := by have := hb1.size; simp at this; omega
  have y0_0 : w.heap.size < w1.heap.size := by omega
  have y0_1 : w.heap.size < w1.heap.size + 1 := by omega
  have y0_2 : w.heap.size < w1.heap.size + 1 + 1 := by omega
  have y0_3 : w.heap.size < w1.heap.size + 1 + 1 + 1 := by omega
  have y0_4 : w.heap.size < w1.heap.size + 1 + 1 + 1 + 1 := by omega
  have y0_5 : w.heap.size < w1.heap.size + 1 + 1 + 1 + 1 + 1 := by omega
  have y0_6 : w.heap.size < w1.heap.size + 1 + 1 + 1 + 1 + 1 + 1 := by omega
  have y0_7 : w.heap.size < w1.heap.size + 1 + 1 + 1 + 1 + 1 + 1 + 1 := by omega
  have y0_8 : w.heap.size < w1.heap.size + 1 + 1 + 1 + 1 + 1 + 1 + 1 + 1 := by omega
  have y1_0 : w.heap.size + 1 < w1.heap.size := by omega
  have y1_1 : w.heap.size + 1 < w1.heap.size + 1 := by omega
  have y1_2 : w.heap.size + 1 < w1.heap.size + 1 + 1 := by omega
  have y1_3 : w.heap.size + 1 < w1.heap.size + 1 + 1 + 1 := by omega
  have y1_4 : w.heap.size + 1 < w1.heap.size + 1 + 1 + 1 + 1 := by omega
  have y1_5 : w.heap.size + 1 < w1.heap.size + 1 + 1 + 1 + 1 + 1 := by omega
  have y1_6 : w.heap.size + 1 < w1.heap.size + 1 + 1 + 1 + 1 + 1 + 1 := by omega
  have y1_7 : w.heap.size + 1 < w1.heap.size + 1 + 1 + 1 + 1 + 1 + 1 + 1 := by omega
  have y1_8 : w.heap.size + 1 < w1.heap.size + 1 + 1 + 1 + 1 + 1 + 1 + 1 + 1 := by omega
  have y2_0 : w.heap.size + 1 + 1 < w1.heap.size := by omega
  have y2_1 : w.heap.size + 1 + 1 < w1.heap.size + 1 := by omega
  have y2_2 : w.heap.size + 1 + 1 < w1.heap.size + 1 + 1 := by omega
  have y2_3 : w.heap.size + 1 + 1 < w1.heap.size + 1 + 1 + 1 := by omega
  have y2_4 : w.heap.size + 1 + 1 < w1.heap.size + 1 + 1 + 1 + 1 := by omega
  have y2_5 : w.heap.size + 1 + 1 < w1.heap.size + 1 + 1 + 1 + 1 + 1 := by omega
  have y2_6 : w.heap.size + 1 + 1 < w1.heap.size + 1 + 1 + 1 + 1 + 1 + 1 := by omega
  have y2_7 : w.heap.size + 1 + 1 < w1.heap.size + 1 + 1 + 1 + 1 + 1 + 1 + 1 := by omega
  have y2_8 : w.heap.size + 1 + 1 < w1.heap.size + 1 + 1 + 1 + 1 + 1 + 1 + 1 + 1 := by omega
  have c0 : w1.cell? ⟨w.heap.size, 0, none⟩ = some (.int .i64 r) := by rw [hc1 _ _ (by first | (simp; done) | (simp; omega))]; simp [go_sem]
  have c1 : w1.cell? ⟨w.heap.size, 1, none⟩ = some (.int .i64 key) := by rw [hc1 _ _ (by first | (simp; done) | (simp; omega))]; simp [go_sem]
  have c2 : w1.cell? ⟨w.heap.size, 2, none⟩ = some (.bool tg) := by rw [hc1 _ _ (by first | (simp; done) | (simp; omega))]; simp [go_sem]
  have c3 : w1.cell? ⟨w.heap.size, 3, none⟩ = some (.bool sd) := by rw [hc1 _ _ (by first | (simp; done) | (simp; omega))]; simp [go_sem]
  have c4 : w1.cell? ⟨w.heap.size + 1, 0, none⟩ = some (.bool t0) := by rw [hc1 _ _ (by first | (simp; done) | (simp; omega))]; simp [go_sem]
  have c5 : w1.cell? ⟨w.heap.size + 1, 1, none⟩ = some (.int .i64 d0) := by rw [hc1 _ _ (by first | (simp; done) | (simp; omega))]; simp [go_sem]
  have c6 : w1.cell? ⟨w.heap.size + 1, 2, none⟩ = some (.bool t1) := by rw [hc1 _ _ (by first | (simp; done) | (simp; omega))]; simp [go_sem]
  have c7 : w1.cell? ⟨w.heap.size + 1, 3, none⟩ = some (.int .i64 d1) := by rw [hc1 _ _ (by first | (simp; done) | (simp; omega))]; simp [go_sem]
  have c8 : w1.cell? ⟨w.heap.size + 1, 4, none⟩ = some (.bool t2) := by rw [hc1 _ _ (by first | (simp; done) | (simp; omega))]; simp [go_sem]
  have c9 : w1.cell? ⟨w.heap.size + 1, 5, none⟩ = some (.int .i64 d2) := by rw [hc1 _ _ (by first | (simp; done) | (simp; omega))]; simp [go_sem]
  have c10 : w1.cell? ⟨w.heap.size + 1, 6, none⟩ = some (.bool t3) := by rw [hc1 _ _ (by first | (simp; done) | (simp; omega))]; simp [go_sem]
  have c11 : w1.cell? ⟨w.heap.size + 1, 7, none⟩ = some (.int .i64 d3) := by rw [hc1 _ _ (by first | (simp; done) | (simp; omega))]; simp [go_sem]
  have c12 : w1.cell? ⟨w.heap.size + 1 + 1, 0, none⟩ = some (.bool s0) := by rw [hc1 _ _ (by first | (simp; done) | (simp; omega))]; simp [go_sem]
  have c13 : w1.cell? ⟨w.heap.size + 1 + 1, 1, none⟩ = some (.int .i64 e0) := by rw [hc1 _ _ (by first | (simp; done) | (simp; omega))]; simp [go_sem]
  have c14 : w1.cell? ⟨w.heap.size + 1 + 1, 2, none⟩ = some (.bool s1) := by rw [hc1 _ _ (by first | (simp; done) | (simp; omega))]; simp [go_sem]
  have c15 : w1.cell? ⟨w.heap.size + 1 + 1, 3, none⟩ = some (.int .i64 e1) := by rw [hc1 _ _ (by first | (simp; done) | (simp; omega))]; simp [go_sem]
  have c16 : w1.cell? ⟨w.heap.size + 1 + 1, 4, none⟩ = some (.bool s2) := by rw [hc1 _ _ (by first | (simp; done) | (simp; omega))]; simp [go_sem]
  have c17 : w1.cell? ⟨w.heap.size + 1 + 1, 5, none⟩ = some (.int .i64 e2) := by rw [hc1 _ _ (by first | (simp; done) | (simp; omega))]; simp [go_sem]
  have c18 : w1.cell? ⟨w.heap.size + 1 + 1, 6, none⟩ = some (.bool s3) := by rw [hc1 _ _ (by first | (simp; done) | (simp; omega))]; simp [go_sem]
  have c19 : w1.cell? ⟨w.heap.size + 1 + 1, 7, none⟩ = some (.int .i64 e3) := by rw [hc1 _ _ (by first | (simp; done) | (simp; omega))]; simp [go_sem]
  clear hc1 hf1
  go_wp2_with fail
  go_region_held3 (fun w' => w'.cell? ⟨w.heap.size, 0, none⟩ = some (.int .i64 r) ∧ w'.cell? ⟨w.heap.size, 1, none⟩ = some (.int .i64 key) ∧ w'.cell? ⟨w.heap.size, 2, none⟩ = some (.bool tg) ∧ w'.cell? ⟨w.heap.size, 3, none⟩ = some (.bool sd) ∧ w'.cell? ⟨w.heap.size + 1, 0, none⟩ = some (.bool t0) ∧ w'.cell? ⟨w.heap.size + 1, 1, none⟩ = some (.int .i64 d0) ∧ w'.cell? ⟨w.heap.size + 1, 2, none⟩ = some (.bool t1) ∧ w'.cell? ⟨w.heap.size + 1, 3, none⟩ = some (.int .i64 d1) ∧ w'.cell? ⟨w.heap.size + 1, 4, none⟩ = some (.bool t2) ∧ w'.cell? ⟨w.heap.size + 1, 5, none⟩ = some (.int .i64 d2) ∧ w'.cell? ⟨w.heap.size + 1, 6, none⟩ = some (.bool t3) ∧ w'.cell? ⟨w.heap.size + 1, 7, none⟩ = some (.int .i64 d3) ∧ w'.cell? ⟨w.heap.size + 1 + 1, 0, none⟩ = some (.bool s0) ∧ w'.cell? ⟨w.heap.size + 1 + 1, 1, none⟩ = some (.int .i64 e0) ∧ w'.cell? ⟨w.heap.size + 1 + 1, 2, none⟩ = some (.bool s1) ∧ w'.cell? ⟨w.heap.size + 1 + 1, 3, none⟩ = some (.int .i64 e1) ∧ w'.cell? ⟨w.heap.size + 1 + 1, 4, none⟩ = some (.bool s2) ∧ w'.cell? ⟨w.heap.size + 1 + 1, 5, none⟩ = some (.int .i64 e2) ∧ w'.cell? ⟨w.heap.size + 1 + 1, 6, none⟩ = some (.bool s3) ∧ w'.cell? ⟨w.heap.size + 1 + 1, 7, none⟩ = some (.int .i64 e3))
    (simp [go_sem, *])
    (first
      | (go_at_call 31; refine (page_u _ _ _ _ _ _ _ _ _ _ _ _ _ _).mono ?_; rintro e w' ⟨rfl, rfl⟩))
  go_wp2_with (first
    | (go_at_call 31; refine (page_u _ _ _ _ _ _ _ _ _ _ _ _ _ _).mono ?_; rintro e w' ⟨rfl, rfl⟩)
    | (go_at_call 29; refine (wrong_any _ _).mono ?_; rintro e w' ⟨rfl, rfl⟩))
  all_goals go_ret
  all_goals exact ⟨rfl, (by repeat' first | exact Below.refl _ _ | refine Below.alloc ?_ ?_ _ | refine Below.drew ?_ | refine Below.setCell ?_ ?_ _ | refine below_thru ?_ (by assumption) ?_ | omega | (simp; done) | (simp; omega))⟩

set_option maxHeartbeats 4000000 in
theorem checkWrite_2 (r : Int) (key : Int) (tg sd : Bool) (K L : Key4) (hx : pageF r key L 4 = pageF r key K 4) (h : wrongE r = 0) (h2 : pageF r key K 2 = 2) (w : World) :
    Calls Try.prog 10 #[.agg #[.int .i64 r, .int .i64 key, .bool tg, .bool sd], K.v, L.v] w fun e w' => e = .returned (.bool true) ∧ Below w.heap.size w w' := by
  obtain ⟨t0, d0, t1, d1, t2, d2, t3, d3⟩ := K
  obtain ⟨s0, e0, s1, e1, s2, e2, s3, e3⟩ := L
  simp only [Key4.v]
  go_enter Try.func10, Try.ntmps10
  go_wp2_with fail
  refine (alive7_any _).mono ?_
  rintro e w1 ⟨rfl, hb1⟩
  obtain ⟨hc1, hf1⟩ := bcell hb1
  have hz1 : w.heap.size + 3 ≤ w1.heap.size := by have := hb1.size; simp at this; omega
  have y0_0 : w.heap.size < w1.heap.size := by omega
  have y0_1 : w.heap.size < w1.heap.size + 1 := by omega
  have y0_2 : w.heap.size < w1.heap.size + 1 + 1 := by omega
  have y0_3 : w.heap.size < w1.heap.size + 1 + 1 + 1 := by omega
  have y0_4 : w.heap.size < w1.heap.size + 1 + 1 + 1 + 1 := by omega
  have y0_5 : w.heap.size < w1.heap.size + 1 + 1 + 1 + 1 + 1 := by omega
  have y0_6 : w.heap.size < w1.heap.size + 1 + 1 + 1 + 1 + 1 + 1 := by omega
  have y0_7 : w.heap.size < w1.heap.size + 1 + 1 + 1 + 1 + 1 + 1 + 1 := by omega
  have y0_8 : w.heap.size < w1.heap.size + 1 + 1 + 1 + 1 + 1 + 1 + 1 + 1 := by omega
  have y1_0 : w.heap.size + 1 < w1.heap.size := by omega
  have y1_1 : w.heap.size + 1 < w1.heap.size + 1 := by omega
  have y1_2 : w.heap.size + 1 < w1.heap.size + 1 + 1 := by omega
  have y1_3 : w.heap.size + 1 < w1.heap.size + 1 + 1 + 1 := by omega
  have y1_4 : w.heap.size + 1 < w1.heap.size + 1 + 1 + 1 + 1 := by omega
  have y1_5 : w.heap.size + 1 < w1.heap.size + 1 + 1 + 1 + 1 + 1 := by omega
  have y1_6 : w.heap.size + 1 < w1.heap.size + 1 + 1 + 1 + 1 + 1 + 1 := by omega
  have y1_7 : w.heap.size + 1 < w1.heap.size + 1 + 1 + 1 + 1 + 1 + 1 + 1 := by omega
  have y1_8 : w.heap.size + 1 < w1.heap.size + 1 + 1 + 1 + 1 + 1 + 1 + 1 + 1 := by omega
  have y2_0 : w.heap.size + 1 + 1 < w1.heap.size := by omega
  have y2_1 : w.heap.size + 1 + 1 < w1.heap.size + 1 := by omega
  have y2_2 : w.heap.size + 1 + 1 < w1.heap.size + 1 + 1 := by omega
  have y2_3 : w.heap.size + 1 + 1 < w1.heap.size + 1 + 1 + 1 := by omega
  have y2_4 : w.heap.size + 1 + 1 < w1.heap.size + 1 + 1 + 1 + 1 := by omega
  have y2_5 : w.heap.size + 1 + 1 < w1.heap.size + 1 + 1 + 1 + 1 + 1 := by omega
  have y2_6 : w.heap.size + 1 + 1 < w1.heap.size + 1 + 1 + 1 + 1 + 1 + 1 := by omega
  have y2_7 : w.heap.size + 1 + 1 < w1.heap.size + 1 + 1 + 1 + 1 + 1 + 1 + 1 := by omega
  have y2_8 : w.heap.size + 1 + 1 < w1.heap.size + 1 + 1 + 1 + 1 + 1 + 1 + 1 + 1 := by omega
  have c0 : w1.cell? ⟨w.heap.size, 0, none⟩ = some (.int .i64 r) := by rw [hc1 _ _ (by first | (simp; done) | (simp; omega))]; simp [go_sem]
  have c1 : w1.cell? ⟨w.heap.size, 1, none⟩ = some (.int .i64 key) := by rw [hc1 _ _ (by first | (simp; done) | (simp; omega))]; simp [go_sem]
  have c2 : w1.cell? ⟨w.heap.size, 2, none⟩ = some (.bool tg) := by rw [hc1 _ _ (by first | (simp; done) | (simp; omega))]; simp [go_sem]
  have c3 : w1.cell? ⟨w.heap.size, 3, none⟩ = some (.bool sd) := by rw [hc1 _ _ (by first | (simp; done) | (simp; omega))]; simp [go_sem]
  have c4 : w1.cell? ⟨w.heap.size + 1, 0, none⟩ = some (.bool t0) := by rw [hc1 _ _ (by first | (simp; done) | (simp; omega))]; simp [go_sem]
  have c5 : w1.cell? ⟨w.heap.size + 1, 1, none⟩ = some (.int .i64 d0) := by rw [hc1 _ _ (by first | (simp; done) | (simp; omega))]; simp [go_sem]
  have c6 : w1.cell? ⟨w.heap.size + 1, 2, none⟩ = some (.bool t1) := by rw [hc1 _ _ (by first | (simp; done) | (simp; omega))]; simp [go_sem]
  have c7 : w1.cell? ⟨w.heap.size + 1, 3, none⟩ = some (.int .i64 d1) := by rw [hc1 _ _ (by first | (simp; done) | (simp; omega))]; simp [go_sem]
  have c8 : w1.cell? ⟨w.heap.size + 1, 4, none⟩ = some (.bool t2) := by rw [hc1 _ _ (by first | (simp; done) | (simp; omega))]; simp [go_sem]
  have c9 : w1.cell? ⟨w.heap.size + 1, 5, none⟩ = some (.int .i64 d2) := by rw [hc1 _ _ (by first | (simp; done) | (simp; omega))]; simp [go_sem]
  have c10 : w1.cell? ⟨w.heap.size + 1, 6, none⟩ = some (.bool t3) := by rw [hc1 _ _ (by first | (simp; done) | (simp; omega))]; simp [go_sem]
  have c11 : w1.cell? ⟨w.heap.size + 1, 7, none⟩ = some (.int .i64 d3) := by rw [hc1 _ _ (by first | (simp; done) | (simp; omega))]; simp [go_sem]
  have c12 : w1.cell? ⟨w.heap.size + 1 + 1, 0, none⟩ = some (.bool s0) := by rw [hc1 _ _ (by first | (simp; done) | (simp; omega))]; simp [go_sem]
  have c13 : w1.cell? ⟨w.heap.size + 1 + 1, 1, none⟩ = some (.int .i64 e0) := by rw [hc1 _ _ (by first | (simp; done) | (simp; omega))]; simp [go_sem]
  have c14 : w1.cell? ⟨w.heap.size + 1 + 1, 2, none⟩ = some (.bool s1) := by rw [hc1 _ _ (by first | (simp; done) | (simp; omega))]; simp [go_sem]
  have c15 : w1.cell? ⟨w.heap.size + 1 + 1, 3, none⟩ = some (.int .i64 e1) := by rw [hc1 _ _ (by first | (simp; done) | (simp; omega))]; simp [go_sem]
  have c16 : w1.cell? ⟨w.heap.size + 1 + 1, 4, none⟩ = some (.bool s2) := by rw [hc1 _ _ (by first | (simp; done) | (simp; omega))]; simp [go_sem]
  have c17 : w1.cell? ⟨w.heap.size + 1 + 1, 5, none⟩ = some (.int .i64 e2) := by rw [hc1 _ _ (by first | (simp; done) | (simp; omega))]; simp [go_sem]
  have c18 : w1.cell? ⟨w.heap.size + 1 + 1, 6, none⟩ = some (.bool s3) := by rw [hc1 _ _ (by first | (simp; done) | (simp; omega))]; simp [go_sem]
  have c19 : w1.cell? ⟨w.heap.size + 1 + 1, 7, none⟩ = some (.int .i64 e3) := by rw [hc1 _ _ (by first | (simp; done) | (simp; omega))]; simp [go_sem]
  clear hc1 hf1
  go_wp2_with fail
  go_region_held3 (fun w' => w'.cell? ⟨w.heap.size, 0, none⟩ = some (.int .i64 r) ∧ w'.cell? ⟨w.heap.size, 1, none⟩ = some (.int .i64 key) ∧ w'.cell? ⟨w.heap.size, 2, none⟩ = some (.bool tg) ∧ w'.cell? ⟨w.heap.size, 3, none⟩ = some (.bool sd) ∧ w'.cell? ⟨w.heap.size + 1, 0, none⟩ = some (.bool t0) ∧ w'.cell? ⟨w.heap.size + 1, 1, none⟩ = some (.int .i64 d0) ∧ w'.cell? ⟨w.heap.size + 1, 2, none⟩ = some (.bool t1) ∧ w'.cell? ⟨w.heap.size + 1, 3, none⟩ = some (.int .i64 d1) ∧ w'.cell? ⟨w.heap.size + 1, 4, none⟩ = some (.bool t2) ∧ w'.cell? ⟨w.heap.size + 1, 5, none⟩ = some (.int .i64 d2) ∧ w'.cell? ⟨w.heap.size + 1, 6, none⟩ = some (.bool t3) ∧ w'.cell? ⟨w.heap.size + 1, 7, none⟩ = some (.int .i64 d3) ∧ w'.cell? ⟨w.heap.size + 1 + 1, 0, none⟩ = some (.bool s0) ∧ w'.cell? ⟨w.heap.size + 1 + 1, 1, none⟩ = some (.int .i64 e0) ∧ w'.cell? ⟨w.heap.size + 1 + 1, 2, none⟩ = some (.bool s1) ∧ w'.cell? ⟨w.heap.size + 1 + 1, 3, none⟩ = some (.int .i64 e1) ∧ w'.cell? ⟨w.heap.size + 1 + 1, 4, none⟩ = some (.bool s2) ∧ w'.cell? ⟨w.heap.size + 1 + 1, 5, none⟩ = some (.int .i64 e2) ∧ w'.cell? ⟨w.heap.size + 1 + 1, 6, none⟩ = some (.bool s3) ∧ w'.cell? ⟨w.heap.size + 1 + 1, 7, none⟩ = some (.int .i64 e3))
    (simp [go_sem, *])
    (first
      | (go_at_call 31; refine (page_u _ _ _ _ _ _ _ _ _ _ _ _ _ _).mono ?_; rintro e w' ⟨rfl, rfl⟩))
  go_wp2_with (first
    | (go_at_call 31; refine (page_u _ _ _ _ _ _ _ _ _ _ _ _ _ _).mono ?_; rintro e w' ⟨rfl, rfl⟩)
    | (go_at_call 29; refine (wrong_any _ _).mono ?_; rintro e w' ⟨rfl, rfl⟩))
  all_goals go_ret
  all_goals exact ⟨rfl, (by repeat' first | exact Below.refl _ _ | refine Below.alloc ?_ ?_ _ | refine Below.drew ?_ | refine Below.setCell ?_ ?_ _ | refine below_thru ?_ (by assumption) ?_ | omega | (simp; done) | (simp; omega))⟩

set_option maxHeartbeats 4000000 in
theorem checkWrite_3 (r : Int) (key : Int) (tg sd : Bool) (K L : Key4) (hx : pageF r key L 4 = pageF r key K 4) (h : wrongE r = 0) (h2 : (pageF r key K 2 == 2) = false) (h4 : pageF r key K 4 = 2) (w : World) :
    Calls Try.prog 10 #[.agg #[.int .i64 r, .int .i64 key, .bool tg, .bool sd], K.v, L.v] w fun e w' => e = .returned (.bool true) ∧ Below w.heap.size w w' := by
  obtain ⟨t0, d0, t1, d1, t2, d2, t3, d3⟩ := K
  obtain ⟨s0, e0, s1, e1, s2, e2, s3, e3⟩ := L
  simp only [Key4.v]
  go_enter Try.func10, Try.ntmps10
  go_wp2_with fail
  refine (alive7_any _).mono ?_
  rintro e w1 ⟨rfl, hb1⟩
  obtain ⟨hc1, hf1⟩ := bcell hb1
  have hz1 : w.heap.size + 3 ≤ w1.heap.size := by have := hb1.size; simp at this; omega
  have y0_0 : w.heap.size < w1.heap.size := by omega
  have y0_1 : w.heap.size < w1.heap.size + 1 := by omega
  have y0_2 : w.heap.size < w1.heap.size + 1 + 1 := by omega
  have y0_3 : w.heap.size < w1.heap.size + 1 + 1 + 1 := by omega
  have y0_4 : w.heap.size < w1.heap.size + 1 + 1 + 1 + 1 := by omega
  have y0_5 : w.heap.size < w1.heap.size + 1 + 1 + 1 + 1 + 1 := by omega
  have y0_6 : w.heap.size < w1.heap.size + 1 + 1 + 1 + 1 + 1 + 1 := by omega
  have y0_7 : w.heap.size < w1.heap.size + 1 + 1 + 1 + 1 + 1 + 1 + 1 := by omega
  have y0_8 : w.heap.size < w1.heap.size + 1 + 1 + 1 + 1 + 1 + 1 + 1 + 1 := by omega
  have y1_0 : w.heap.size + 1 < w1.heap.size := by omega
  have y1_1 : w.heap.size + 1 < w1.heap.size + 1 := by omega
  have y1_2 : w.heap.size + 1 < w1.heap.size + 1 + 1 := by omega
  have y1_3 : w.heap.size + 1 < w1.heap.size + 1 + 1 + 1 := by omega
  have y1_4 : w.heap.size + 1 < w1.heap.size + 1 + 1 + 1 + 1 := by omega
  have y1_5 : w.heap.size + 1 < w1.heap.size + 1 + 1 + 1 + 1 + 1 := by omega
  have y1_6 : w.heap.size + 1 < w1.heap.size + 1 + 1 + 1 + 1 + 1 + 1 := by omega
  have y1_7 : w.heap.size + 1 < w1.heap.size + 1 + 1 + 1 + 1 + 1 + 1 + 1 := by omega
  have y1_8 : w.heap.size + 1 < w1.heap.size + 1 + 1 + 1 + 1 + 1 + 1 + 1 + 1 := by omega
  have y2_0 : w.heap.size + 1 + 1 < w1.heap.size := by omega
  have y2_1 : w.heap.size + 1 + 1 < w1.heap.size + 1 := by omega
  have y2_2 : w.heap.size + 1 + 1 < w1.heap.size + 1 + 1 := by omega
  have y2_3 : w.heap.size + 1 + 1 < w1.heap.size + 1 + 1 + 1 := by omega
  have y2_4 : w.heap.size + 1 + 1 < w1.heap.size + 1 + 1 + 1 + 1 := by omega
  have y2_5 : w.heap.size + 1 + 1 < w1.heap.size + 1 + 1 + 1 + 1 + 1 := by omega
  have y2_6 : w.heap.size + 1 + 1 < w1.heap.size + 1 + 1 + 1 + 1 + 1 + 1 := by omega
  have y2_7 : w.heap.size + 1 + 1 < w1.heap.size + 1 + 1 + 1 + 1 + 1 + 1 + 1 := by omega
  have y2_8 : w.heap.size + 1 + 1 < w1.heap.size + 1 + 1 + 1 + 1 + 1 + 1 + 1 + 1 := by omega
  have c0 : w1.cell? ⟨w.heap.size, 0, none⟩ = some (.int .i64 r) := by rw [hc1 _ _ (by first | (simp; done) | (simp; omega))]; simp [go_sem]
  have c1 : w1.cell? ⟨w.heap.size, 1, none⟩ = some (.int .i64 key) := by rw [hc1 _ _ (by first | (simp; done) | (simp; omega))]; simp [go_sem]
  have c2 : w1.cell? ⟨w.heap.size, 2, none⟩ = some (.bool tg) := by rw [hc1 _ _ (by first | (simp; done) | (simp; omega))]; simp [go_sem]
  have c3 : w1.cell? ⟨w.heap.size, 3, none⟩ = some (.bool sd) := by rw [hc1 _ _ (by first | (simp; done) | (simp; omega))]; simp [go_sem]
  have c4 : w1.cell? ⟨w.heap.size + 1, 0, none⟩ = some (.bool t0) := by rw [hc1 _ _ (by first | (simp; done) | (simp; omega))]; simp [go_sem]
  have c5 : w1.cell? ⟨w.heap.size + 1, 1, none⟩ = some (.int .i64 d0) := by rw [hc1 _ _ (by first | (simp; done) | (simp; omega))]; simp [go_sem]
  have c6 : w1.cell? ⟨w.heap.size + 1, 2, none⟩ = some (.bool t1) := by rw [hc1 _ _ (by first | (simp; done) | (simp; omega))]; simp [go_sem]
  have c7 : w1.cell? ⟨w.heap.size + 1, 3, none⟩ = some (.int .i64 d1) := by rw [hc1 _ _ (by first | (simp; done) | (simp; omega))]; simp [go_sem]
  have c8 : w1.cell? ⟨w.heap.size + 1, 4, none⟩ = some (.bool t2) := by rw [hc1 _ _ (by first | (simp; done) | (simp; omega))]; simp [go_sem]
  have c9 : w1.cell? ⟨w.heap.size + 1, 5, none⟩ = some (.int .i64 d2) := by rw [hc1 _ _ (by first | (simp; done) | (simp; omega))]; simp [go_sem]
  have c10 : w1.cell? ⟨w.heap.size + 1, 6, none⟩ = some (.bool t3) := by rw [hc1 _ _ (by first | (simp; done) | (simp; omega))]; simp [go_sem]
  have c11 : w1.cell? ⟨w.heap.size + 1, 7, none⟩ = some (.int .i64 d3) := by rw [hc1 _ _ (by first | (simp; done) | (simp; omega))]; simp [go_sem]
  have c12 : w1.cell? ⟨w.heap.size + 1 + 1, 0, none⟩ = some (.bool s0) := by rw [hc1 _ _ (by first | (simp; done) | (simp; omega))]; simp [go_sem]
  have c13 : w1.cell? ⟨w.heap.size + 1 + 1, 1, none⟩ = some (.int .i64 e0) := by rw [hc1 _ _ (by first | (simp; done) | (simp; omega))]; simp [go_sem]
  have c14 : w1.cell? ⟨w.heap.size + 1 + 1, 2, none⟩ = some (.bool s1) := by rw [hc1 _ _ (by first | (simp; done) | (simp; omega))]; simp [go_sem]
  have c15 : w1.cell? ⟨w.heap.size + 1 + 1, 3, none⟩ = some (.int .i64 e1) := by rw [hc1 _ _ (by first | (simp; done) | (simp; omega))]; simp [go_sem]
  have c16 : w1.cell? ⟨w.heap.size + 1 + 1, 4, none⟩ = some (.bool s2) := by rw [hc1 _ _ (by first | (simp; done) | (simp; omega))]; simp [go_sem]
  have c17 : w1.cell? ⟨w.heap.size + 1 + 1, 5, none⟩ = some (.int .i64 e2) := by rw [hc1 _ _ (by first | (simp; done) | (simp; omega))]; simp [go_sem]
  have c18 : w1.cell? ⟨w.heap.size + 1 + 1, 6, none⟩ = some (.bool s3) := by rw [hc1 _ _ (by first | (simp; done) | (simp; omega))]; simp [go_sem]
  have c19 : w1.cell? ⟨w.heap.size + 1 + 1, 7, none⟩ = some (.int .i64 e3) := by rw [hc1 _ _ (by first | (simp; done) | (simp; omega))]; simp [go_sem]
  clear hc1 hf1
  go_wp2_with fail
  go_region_held3 (fun w' => w'.cell? ⟨w.heap.size, 0, none⟩ = some (.int .i64 r) ∧ w'.cell? ⟨w.heap.size, 1, none⟩ = some (.int .i64 key) ∧ w'.cell? ⟨w.heap.size, 2, none⟩ = some (.bool tg) ∧ w'.cell? ⟨w.heap.size, 3, none⟩ = some (.bool sd) ∧ w'.cell? ⟨w.heap.size + 1, 0, none⟩ = some (.bool t0) ∧ w'.cell? ⟨w.heap.size + 1, 1, none⟩ = some (.int .i64 d0) ∧ w'.cell? ⟨w.heap.size + 1, 2, none⟩ = some (.bool t1) ∧ w'.cell? ⟨w.heap.size + 1, 3, none⟩ = some (.int .i64 d1) ∧ w'.cell? ⟨w.heap.size + 1, 4, none⟩ = some (.bool t2) ∧ w'.cell? ⟨w.heap.size + 1, 5, none⟩ = some (.int .i64 d2) ∧ w'.cell? ⟨w.heap.size + 1, 6, none⟩ = some (.bool t3) ∧ w'.cell? ⟨w.heap.size + 1, 7, none⟩ = some (.int .i64 d3) ∧ w'.cell? ⟨w.heap.size + 1 + 1, 0, none⟩ = some (.bool s0) ∧ w'.cell? ⟨w.heap.size + 1 + 1, 1, none⟩ = some (.int .i64 e0) ∧ w'.cell? ⟨w.heap.size + 1 + 1, 2, none⟩ = some (.bool s1) ∧ w'.cell? ⟨w.heap.size + 1 + 1, 3, none⟩ = some (.int .i64 e1) ∧ w'.cell? ⟨w.heap.size + 1 + 1, 4, none⟩ = some (.bool s2) ∧ w'.cell? ⟨w.heap.size + 1 + 1, 5, none⟩ = some (.int .i64 e2) ∧ w'.cell? ⟨w.heap.size + 1 + 1, 6, none⟩ = some (.bool s3) ∧ w'.cell? ⟨w.heap.size + 1 + 1, 7, none⟩ = some (.int .i64 e3))
    (simp [go_sem, *])
    (first
      | (go_at_call 31; refine (page_u _ _ _ _ _ _ _ _ _ _ _ _ _ _).mono ?_; rintro e w' ⟨rfl, rfl⟩))
  go_wp2_with (first
    | (go_at_call 31; refine (page_u _ _ _ _ _ _ _ _ _ _ _ _ _ _).mono ?_; rintro e w' ⟨rfl, rfl⟩)
    | (go_at_call 29; refine (wrong_any _ _).mono ?_; rintro e w' ⟨rfl, rfl⟩))
  all_goals go_ret
  all_goals exact ⟨rfl, (by repeat' first | exact Below.refl _ _ | refine Below.alloc ?_ ?_ _ | refine Below.drew ?_ | refine Below.setCell ?_ ?_ _ | refine below_thru ?_ (by assumption) ?_ | omega | (simp; done) | (simp; omega))⟩

theorem checkWrite_walk (r : Int) (_ : I64 r) (key : Int) (_ : I64 key) (tg sd : Bool) (K : Key4) (_ : K.fits) (L : Key4) (_ : L.fits) (w : World) :
    Calls Try.prog 10 #[.agg #[.int .i64 r, .int .i64 key, .bool tg, .bool sd], K.v, L.v] w fun e w' => e = .returned (.bool true) ∧ Below w.heap.size w w' := by
  have hx := pageF_exec r key K L
  by_cases h : wrongE r = 0
  · by_cases h2 : pageF r key K 2 = 2
    · exact checkWrite_2 r key tg sd K L hx h h2 w
    · exact checkWrite_3 r key tg sd K L hx h (by simp [h2]) (not_both h h2) w
  · exact checkWrite_1 r key tg sd K L hx (by simp [h]) w

end Go.Proofs.Ytokpodmefnmmcaa
