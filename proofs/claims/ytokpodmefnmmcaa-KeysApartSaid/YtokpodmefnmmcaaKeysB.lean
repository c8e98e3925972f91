/- The walks of KeysBack and KeysApart. -/
import Derived.Test.YtokpodmefnmmcaaKeysW
import Derived.Deep.RegionWith
import Derived.Deep.RegionHeld3
namespace Go.Proofs.Ytokpodmefnmmcaa
open Go.RowKit
attribute [local go_sem] Key4.v run_eq_keys
set_option linter.unusedVariables false

theorem first_exact (w : World) :
    Calls Try.prog 25 #[] w fun e w' => e = .returned (.agg #[.bool true, .int .i64 0, .bool false, .int .i64 0, .bool false, .int .i64 0, .bool false, .int .i64 0]) ∧
      w' = w.alloc (.cells #[.bool true, .int .i64 0, .bool false, .int .i64 0, .bool false, .int .i64 0, .bool false, .int .i64 0] 33) := by
  go_enter Try.func25, Try.ntmps25
  go_wp2
  go_returns
  exact ⟨rfl, rfl⟩

set_option maxHeartbeats 1000000 in
theorem alive10_any (w : World) : Calls Try.prog 26 #[] w fun e w' => e = .returned (.bool true) ∧ Below w.heap.size w w' := by
  have f0 : new4 ⟨true, 0, false, 0, false, 0, false, 0⟩ = ⟨true, 0, true, 0, false, 0, false, 0⟩ := rfl
  have f1 : new4K ⟨true, 0, false, 0, false, 0, false, 0⟩ = 1 := rfl
  have f2 : new4E ⟨true, 0, false, 0, false, 0, false, 0⟩ = 0 := rfl
  have f3 : chg4 ⟨true, 0, true, 0, false, 0, false, 0⟩ 1 0 true 2 = ⟨true, 0, true, 2, false, 0, false, 0⟩ := rfl
  have f4 : chg4E ⟨true, 0, true, 0, false, 0, false, 0⟩ 1 0 2 = 0 := rfl
  have f5 : chg4 ⟨true, 0, true, 2, false, 0, false, 0⟩ 1 1 false 0 = ⟨true, 0, false, 0, false, 0, false, 0⟩ := rfl
  have f6 : chg4E ⟨true, 0, true, 2, false, 0, false, 0⟩ 1 1 0 = 0 := rfl
  go_enter Try.func26, Try.ntmps26
  go_wp2_with (first
        | (go_at_call 25; refine (keysFirst_any _).mono ?_; rintro e w1 ⟨rfl, hb1⟩; obtain ⟨hc1, hf1⟩ := bcell hb1; have hz1 : w.heap.size + 0 ≤ w1.heap.size := (by have := hb1.size; (try simp at this); omega))
        | (go_at_call 20; refine (keysNew_any ⟨true, 0, false, 0, false, 0, false, 0⟩ _).mono ?_; rintro e w2 ⟨rfl, hb2⟩; obtain ⟨hc2, hf2⟩ := bcell hb2; have hz2 : w1.heap.size + 0 ≤ w2.heap.size := (by have := hb2.size; (try simp at this); omega))
        | (go_at_call 24; refine (keysSet_any ⟨true, 0, true, 0, false, 0, false, 0⟩ 1 2 _).mono ?_; rintro e w3 ⟨rfl, hb3⟩; obtain ⟨hc3, hf3⟩ := bcell hb3; have hz3 : w2.heap.size + 1 ≤ w3.heap.size := (by have := hb3.size; (try simp at this); omega))
        | (go_at_call 22; refine (keysFree_any ⟨true, 0, true, 2, false, 0, false, 0⟩ 1 _).mono ?_; rintro e w4 ⟨rfl, hb4⟩; obtain ⟨hc4, hf4⟩ := bcell hb4; have hz4 : w3.heap.size + 1 ≤ w4.heap.size := (by have := hb4.size; (try simp at this); omega); have y4_0 : w3.heap.size < w3.heap.size + 1 := (by omega); have z4_0 : w3.heap.size < w4.heap.size := (by omega)))
  have m3 : w4.cell? ⟨w3.heap.size, 3, none⟩ = some (.int .i64 2) := by rw [hc4 _ _ (by simp)]; simp [go_sem]
  clear hc1 hc2 hc3 hc4 hf1 hf2 hf3 hf4
  go_region_held3 (fun w' => w'.cell? ⟨w3.heap.size, 3, none⟩ = some (.int .i64 2) ∧ w'.cell? ⟨w4.heap.size, 0, none⟩ = some (.bool true) ∧ w'.cell? ⟨w4.heap.size, 1, none⟩ = some (.int .i64 0) ∧ w'.cell? ⟨w4.heap.size, 2, none⟩ = some (.bool false) ∧ w'.cell? ⟨w4.heap.size, 3, none⟩ = some (.int .i64 0) ∧ w'.cell? ⟨w4.heap.size, 4, none⟩ = some (.bool false) ∧ w'.cell? ⟨w4.heap.size, 5, none⟩ = some (.int .i64 0) ∧ w'.cell? ⟨w4.heap.size, 6, none⟩ = some (.bool false) ∧ w'.cell? ⟨w4.heap.size, 7, none⟩ = some (.int .i64 0))
    (simp [go_sem, World.cell?_alloc_past, m3, z4_0])
    (first
      | (go_at_call 25; refine (first_exact _).mono ?_; rintro e w' ⟨rfl, rfl⟩))
  go_wp2
  all_goals go_ret
  all_goals exact ⟨rfl, by repeat' first | exact Below.refl _ _ | refine Below.alloc ?_ ?_ _ | refine Below.drew ?_ | refine below_thru ?_ (by assumption) ?_ | omega | (simp; done) | (simp; omega)⟩

set_option maxHeartbeats 4000000 in
theorem keysBack_0 (t1 t2 t3 : Bool) (d0 d1 d2 d3 : Int) (w : World) :
    Calls Try.prog 6 #[(⟨false, d0, t1, d1, t2, d2, t3, d3⟩ : Key4).v] w fun e w' => e = .returned (.bool true) ∧ Below w.heap.size w w' := by

  have f0 : new4 ⟨false, d0, t1, d1, t2, d2, t3, d3⟩ = ⟨true, 0, t1, d1, t2, d2, t3, d3⟩ := rfl
  have f1 : new4K ⟨false, d0, t1, d1, t2, d2, t3, d3⟩ = 0 := rfl
  have f2 : new4E ⟨false, d0, t1, d1, t2, d2, t3, d3⟩ = 0 := rfl
  have f3 : chg4 ⟨true, 0, t1, d1, t2, d2, t3, d3⟩ 0 1 false 0 = ⟨false, 0, false, 0, false, 0, false, 0⟩ := rfl
  have f4 : chg4E ⟨true, 0, t1, d1, t2, d2, t3, d3⟩ 0 1 0 = 3 := rfl
  have f5 : chg4 ⟨false, d0, t1, d1, t2, d2, t3, d3⟩ 0 1 false 0 = ⟨false, 0, false, 0, false, 0, false, 0⟩ := rfl
  have f6 : chg4E ⟨false, d0, t1, d1, t2, d2, t3, d3⟩ 0 1 0 = 3 := rfl
  simp only [Key4.v]
  go_enter Try.func6, Try.ntmps6
  go_wp2_with (first
        | (go_at_call 26; refine (alive10_any _).mono ?_; rintro e w1 ⟨rfl, hb1⟩; obtain ⟨hc1, hf1⟩ := bcell hb1; have hz1 : w.heap.size + 1 ≤ w1.heap.size := (by have := hb1.size; (try simp at this); omega); have y1_0 : w.heap.size < w.heap.size + 1 := (by omega); have z1_0 : w.heap.size < w1.heap.size := (by omega))
        | (go_at_call 20; refine (keysNew_any ⟨false, d0, t1, d1, t2, d2, t3, d3⟩ _).mono ?_; rintro e w2 ⟨rfl, hb2⟩; obtain ⟨hc2, hf2⟩ := bcell hb2; have hz2 : w1.heap.size + 0 ≤ w2.heap.size := (by have := hb2.size; (try simp at this); omega); have y2_0 : w.heap.size < w1.heap.size := (by omega); have z2_0 : w.heap.size < w2.heap.size := (by omega))
        | (go_at_call 22; (with_reducible refine (keysFree_any ⟨true, 0, t1, d1, t2, d2, t3, d3⟩ 0 _).mono ?_); rintro e w3 ⟨rfl, hb3⟩; obtain ⟨hc3, hf3⟩ := bcell hb3; have hz3 : w2.heap.size + 1 ≤ w3.heap.size := (by have := hb3.size; (try simp at this); omega); have y3_0 : w.heap.size < w2.heap.size + 1 := (by omega); have z3_0 : w.heap.size < w3.heap.size := (by omega); have y3_1 : w2.heap.size < w2.heap.size + 1 := (by omega); have z3_1 : w2.heap.size < w3.heap.size := (by omega))
        | (go_at_call 22; (with_reducible refine (keysFree_any ⟨false, d0, t1, d1, t2, d2, t3, d3⟩ 0 _).mono ?_); rintro e w4 ⟨rfl, hb4⟩; obtain ⟨hc4, hf4⟩ := bcell hb4; have hz4 : w3.heap.size + 2 ≤ w4.heap.size := (by have := hb4.size; (try simp at this); omega); have y4_0 : w.heap.size < w3.heap.size + 1 + 1 := (by omega); have z4_0 : w.heap.size < w4.heap.size := (by omega); have y4_1 : w2.heap.size < w3.heap.size + 1 + 1 := (by omega); have z4_1 : w2.heap.size < w4.heap.size := (by omega); have y4_2 : w3.heap.size < w3.heap.size + 1 + 1 := (by omega); have z4_2 : w3.heap.size < w4.heap.size := (by omega); have y4_3 : w3.heap.size + 1 < w3.heap.size + 1 + 1 := (by omega); have z4_3 : w3.heap.size + 1 < w4.heap.size := (by omega)))
  go_ret
  exact ⟨rfl, (by repeat' first | exact Below.refl _ _ | refine Below.alloc ?_ ?_ _ | refine below_thru ?_ (by assumption) ?_ | omega | (simp; done) | (simp; omega))⟩

set_option maxHeartbeats 4000000 in
theorem keysBack_1 (t2 t3 : Bool) (d0 d1 d2 d3 : Int) (w : World) :
    Calls Try.prog 6 #[(⟨true, d0, false, d1, t2, d2, t3, d3⟩ : Key4).v] w fun e w' => e = .returned (.bool true) ∧ Below w.heap.size w w' := by

  have f0 : new4 ⟨true, d0, false, d1, t2, d2, t3, d3⟩ = ⟨true, d0, true, 0, t2, d2, t3, d3⟩ := rfl
  have f1 : new4K ⟨true, d0, false, d1, t2, d2, t3, d3⟩ = 1 := rfl
  have f2 : new4E ⟨true, d0, false, d1, t2, d2, t3, d3⟩ = 0 := rfl
  have f3 : chg4 ⟨true, d0, true, 0, t2, d2, t3, d3⟩ 1 1 false 0 = ⟨true, d0, false, 0, t2, d2, t3, d3⟩ := rfl
  have f4 : chg4E ⟨true, d0, true, 0, t2, d2, t3, d3⟩ 1 1 0 = 0 := rfl
  have f5 : chg4 ⟨true, d0, false, d1, t2, d2, t3, d3⟩ 0 1 false 0 = ⟨false, 0, false, 0, false, 0, false, 0⟩ := rfl
  have f6 : chg4E ⟨true, d0, false, d1, t2, d2, t3, d3⟩ 0 1 0 = 3 := rfl
  simp only [Key4.v]
  go_enter Try.func6, Try.ntmps6
  go_wp2_with (first
        | (go_at_call 26; refine (alive10_any _).mono ?_; rintro e w1 ⟨rfl, hb1⟩; obtain ⟨hc1, hf1⟩ := bcell hb1; have hz1 : w.heap.size + 1 ≤ w1.heap.size := (by have := hb1.size; (try simp at this); omega); have y1_0 : w.heap.size < w.heap.size + 1 := (by omega); have z1_0 : w.heap.size < w1.heap.size := (by omega))
        | (go_at_call 20; refine (keysNew_any ⟨true, d0, false, d1, t2, d2, t3, d3⟩ _).mono ?_; rintro e w2 ⟨rfl, hb2⟩; obtain ⟨hc2, hf2⟩ := bcell hb2; have hz2 : w1.heap.size + 0 ≤ w2.heap.size := (by have := hb2.size; (try simp at this); omega); have y2_0 : w.heap.size < w1.heap.size := (by omega); have z2_0 : w.heap.size < w2.heap.size := (by omega))
        | (go_at_call 22; (with_reducible refine (keysFree_any ⟨true, d0, true, 0, t2, d2, t3, d3⟩ 1 _).mono ?_); rintro e w3 ⟨rfl, hb3⟩; obtain ⟨hc3, hf3⟩ := bcell hb3; have hz3 : w2.heap.size + 1 ≤ w3.heap.size := (by have := hb3.size; (try simp at this); omega); have y3_0 : w.heap.size < w2.heap.size + 1 := (by omega); have z3_0 : w.heap.size < w3.heap.size := (by omega); have y3_1 : w2.heap.size < w2.heap.size + 1 := (by omega); have z3_1 : w2.heap.size < w3.heap.size := (by omega))
        | (go_at_call 22; (with_reducible refine (keysFree_any ⟨true, d0, false, d1, t2, d2, t3, d3⟩ 0 _).mono ?_); rintro e w4 ⟨rfl, hb4⟩; obtain ⟨hc4, hf4⟩ := bcell hb4; have hz4 : w3.heap.size + 2 ≤ w4.heap.size := (by have := hb4.size; (try simp at this); omega); have y4_0 : w.heap.size < w3.heap.size + 1 + 1 := (by omega); have z4_0 : w.heap.size < w4.heap.size := (by omega); have y4_1 : w2.heap.size < w3.heap.size + 1 + 1 := (by omega); have z4_1 : w2.heap.size < w4.heap.size := (by omega); have y4_2 : w3.heap.size < w3.heap.size + 1 + 1 := (by omega); have z4_2 : w3.heap.size < w4.heap.size := (by omega); have y4_3 : w3.heap.size + 1 < w3.heap.size + 1 + 1 := (by omega); have z4_3 : w3.heap.size + 1 < w4.heap.size := (by omega)))
  go_ret
  exact ⟨rfl, (by repeat' first | exact Below.refl _ _ | refine Below.alloc ?_ ?_ _ | refine below_thru ?_ (by assumption) ?_ | omega | (simp; done) | (simp; omega))⟩

set_option maxHeartbeats 4000000 in
theorem keysBack_2 (t3 : Bool) (d0 d1 d2 d3 : Int) (w : World) :
    Calls Try.prog 6 #[(⟨true, d0, true, d1, false, d2, t3, d3⟩ : Key4).v] w fun e w' => e = .returned (.bool true) ∧ Below w.heap.size w w' := by

  have f0 : new4 ⟨true, d0, true, d1, false, d2, t3, d3⟩ = ⟨true, d0, true, d1, true, 0, t3, d3⟩ := rfl
  have f1 : new4K ⟨true, d0, true, d1, false, d2, t3, d3⟩ = 2 := rfl
  have f2 : new4E ⟨true, d0, true, d1, false, d2, t3, d3⟩ = 0 := rfl
  have f3 : chg4 ⟨true, d0, true, d1, true, 0, t3, d3⟩ 2 1 false 0 = ⟨true, d0, true, d1, false, 0, t3, d3⟩ := rfl
  have f4 : chg4E ⟨true, d0, true, d1, true, 0, t3, d3⟩ 2 1 0 = 0 := rfl
  have f5 : chg4 ⟨true, d0, true, d1, false, d2, t3, d3⟩ 0 1 false 0 = ⟨false, 0, false, 0, false, 0, false, 0⟩ := rfl
  have f6 : chg4E ⟨true, d0, true, d1, false, d2, t3, d3⟩ 0 1 0 = 3 := rfl
  simp only [Key4.v]
  go_enter Try.func6, Try.ntmps6
  go_wp2_with (first
        | (go_at_call 26; refine (alive10_any _).mono ?_; rintro e w1 ⟨rfl, hb1⟩; obtain ⟨hc1, hf1⟩ := bcell hb1; have hz1 : w.heap.size + 1 ≤ w1.heap.size := (by have := hb1.size; (try simp at this); omega); have y1_0 : w.heap.size < w.heap.size + 1 := (by omega); have z1_0 : w.heap.size < w1.heap.size := (by omega))
        | (go_at_call 20; refine (keysNew_any ⟨true, d0, true, d1, false, d2, t3, d3⟩ _).mono ?_; rintro e w2 ⟨rfl, hb2⟩; obtain ⟨hc2, hf2⟩ := bcell hb2; have hz2 : w1.heap.size + 0 ≤ w2.heap.size := (by have := hb2.size; (try simp at this); omega); have y2_0 : w.heap.size < w1.heap.size := (by omega); have z2_0 : w.heap.size < w2.heap.size := (by omega))
        | (go_at_call 22; (with_reducible refine (keysFree_any ⟨true, d0, true, d1, true, 0, t3, d3⟩ 2 _).mono ?_); rintro e w3 ⟨rfl, hb3⟩; obtain ⟨hc3, hf3⟩ := bcell hb3; have hz3 : w2.heap.size + 1 ≤ w3.heap.size := (by have := hb3.size; (try simp at this); omega); have y3_0 : w.heap.size < w2.heap.size + 1 := (by omega); have z3_0 : w.heap.size < w3.heap.size := (by omega); have y3_1 : w2.heap.size < w2.heap.size + 1 := (by omega); have z3_1 : w2.heap.size < w3.heap.size := (by omega))
        | (go_at_call 22; (with_reducible refine (keysFree_any ⟨true, d0, true, d1, false, d2, t3, d3⟩ 0 _).mono ?_); rintro e w4 ⟨rfl, hb4⟩; obtain ⟨hc4, hf4⟩ := bcell hb4; have hz4 : w3.heap.size + 2 ≤ w4.heap.size := (by have := hb4.size; (try simp at this); omega); have y4_0 : w.heap.size < w3.heap.size + 1 + 1 := (by omega); have z4_0 : w.heap.size < w4.heap.size := (by omega); have y4_1 : w2.heap.size < w3.heap.size + 1 + 1 := (by omega); have z4_1 : w2.heap.size < w4.heap.size := (by omega); have y4_2 : w3.heap.size < w3.heap.size + 1 + 1 := (by omega); have z4_2 : w3.heap.size < w4.heap.size := (by omega); have y4_3 : w3.heap.size + 1 < w3.heap.size + 1 + 1 := (by omega); have z4_3 : w3.heap.size + 1 < w4.heap.size := (by omega)))
  go_ret
  exact ⟨rfl, (by repeat' first | exact Below.refl _ _ | refine Below.alloc ?_ ?_ _ | refine below_thru ?_ (by assumption) ?_ | omega | (simp; done) | (simp; omega))⟩

set_option maxHeartbeats 4000000 in
theorem keysBack_3 (d0 d1 d2 d3 : Int) (w : World) :
    Calls Try.prog 6 #[(⟨true, d0, true, d1, true, d2, false, d3⟩ : Key4).v] w fun e w' => e = .returned (.bool true) ∧ Below w.heap.size w w' := by

  have f0 : new4 ⟨true, d0, true, d1, true, d2, false, d3⟩ = ⟨true, d0, true, d1, true, d2, true, 0⟩ := rfl
  have f1 : new4K ⟨true, d0, true, d1, true, d2, false, d3⟩ = 3 := rfl
  have f2 : new4E ⟨true, d0, true, d1, true, d2, false, d3⟩ = 0 := rfl
  have f3 : chg4 ⟨true, d0, true, d1, true, d2, true, 0⟩ 3 1 false 0 = ⟨true, d0, true, d1, true, d2, false, 0⟩ := rfl
  have f4 : chg4E ⟨true, d0, true, d1, true, d2, true, 0⟩ 3 1 0 = 0 := rfl
  have f5 : chg4 ⟨true, d0, true, d1, true, d2, false, d3⟩ 0 1 false 0 = ⟨false, 0, false, 0, false, 0, false, 0⟩ := rfl
  have f6 : chg4E ⟨true, d0, true, d1, true, d2, false, d3⟩ 0 1 0 = 3 := rfl
  simp only [Key4.v]
  go_enter Try.func6, Try.ntmps6
  go_wp2_with (first
        | (go_at_call 26; refine (alive10_any _).mono ?_; rintro e w1 ⟨rfl, hb1⟩; obtain ⟨hc1, hf1⟩ := bcell hb1; have hz1 : w.heap.size + 1 ≤ w1.heap.size := (by have := hb1.size; (try simp at this); omega); have y1_0 : w.heap.size < w.heap.size + 1 := (by omega); have z1_0 : w.heap.size < w1.heap.size := (by omega))
        | (go_at_call 20; refine (keysNew_any ⟨true, d0, true, d1, true, d2, false, d3⟩ _).mono ?_; rintro e w2 ⟨rfl, hb2⟩; obtain ⟨hc2, hf2⟩ := bcell hb2; have hz2 : w1.heap.size + 0 ≤ w2.heap.size := (by have := hb2.size; (try simp at this); omega); have y2_0 : w.heap.size < w1.heap.size := (by omega); have z2_0 : w.heap.size < w2.heap.size := (by omega))
        | (go_at_call 22; (with_reducible refine (keysFree_any ⟨true, d0, true, d1, true, d2, true, 0⟩ 3 _).mono ?_); rintro e w3 ⟨rfl, hb3⟩; obtain ⟨hc3, hf3⟩ := bcell hb3; have hz3 : w2.heap.size + 1 ≤ w3.heap.size := (by have := hb3.size; (try simp at this); omega); have y3_0 : w.heap.size < w2.heap.size + 1 := (by omega); have z3_0 : w.heap.size < w3.heap.size := (by omega); have y3_1 : w2.heap.size < w2.heap.size + 1 := (by omega); have z3_1 : w2.heap.size < w3.heap.size := (by omega))
        | (go_at_call 22; (with_reducible refine (keysFree_any ⟨true, d0, true, d1, true, d2, false, d3⟩ 0 _).mono ?_); rintro e w4 ⟨rfl, hb4⟩; obtain ⟨hc4, hf4⟩ := bcell hb4; have hz4 : w3.heap.size + 2 ≤ w4.heap.size := (by have := hb4.size; (try simp at this); omega); have y4_0 : w.heap.size < w3.heap.size + 1 + 1 := (by omega); have z4_0 : w.heap.size < w4.heap.size := (by omega); have y4_1 : w2.heap.size < w3.heap.size + 1 + 1 := (by omega); have z4_1 : w2.heap.size < w4.heap.size := (by omega); have y4_2 : w3.heap.size < w3.heap.size + 1 + 1 := (by omega); have z4_2 : w3.heap.size < w4.heap.size := (by omega); have y4_3 : w3.heap.size + 1 < w3.heap.size + 1 + 1 := (by omega); have z4_3 : w3.heap.size + 1 < w4.heap.size := (by omega)))
  go_ret
  exact ⟨rfl, (by repeat' first | exact Below.refl _ _ | refine Below.alloc ?_ ?_ _ | refine below_thru ?_ (by assumption) ?_ | omega | (simp; done) | (simp; omega))⟩

set_option maxHeartbeats 4000000 in
theorem keysBack_4 (d0 d1 d2 d3 : Int) (w : World) :
    Calls Try.prog 6 #[(⟨true, d0, true, d1, true, d2, true, d3⟩ : Key4).v] w fun e w' => e = .returned (.bool true) ∧ Below w.heap.size w w' := by

  have f0 : new4 ⟨true, d0, true, d1, true, d2, true, d3⟩ = ⟨false, 0, false, 0, false, 0, false, 0⟩ := rfl
  have f1 : new4K ⟨true, d0, true, d1, true, d2, true, d3⟩ = 0 := rfl
  have f2 : new4E ⟨true, d0, true, d1, true, d2, true, d3⟩ = 4 := rfl
  have i0 := fun w => index0 true true true true d0 d1 d2 d3 w
  have i1 := fun w => index1 true true true true d0 d1 d2 d3 w
  have i2 := fun w => index2 true true true true d0 d1 d2 d3 w
  have i3 := fun w => index3 true true true true d0 d1 d2 d3 w
  simp only [Key4.v]
  go_enter Try.func6, Try.ntmps6
  go_wp2_with (first
        | (go_at_call 26; refine (alive10_any _).mono ?_; rintro e w1 ⟨rfl, hb1⟩; obtain ⟨hc1, hf1⟩ := bcell hb1; have hz1 : w.heap.size + 1 ≤ w1.heap.size := (by have := hb1.size; (try simp at this); omega); have y1_0 : w.heap.size < w.heap.size + 1 := (by omega); have z1_0 : w.heap.size < w1.heap.size := (by omega))
        | (go_at_call 20; refine (keysNew_any ⟨true, d0, true, d1, true, d2, true, d3⟩ _).mono ?_; rintro e w2 ⟨rfl, hb2⟩; obtain ⟨hc2, hf2⟩ := bcell hb2; have hz2 : w1.heap.size + 0 ≤ w2.heap.size := (by have := hb2.size; (try simp at this); omega); have y2_0 : w.heap.size < w1.heap.size := (by omega); have z2_0 : w.heap.size < w2.heap.size := (by omega)))
  try (refine wp_loop_rounds 5 ?_; repeat any_goals (rw [rounds_succ]; go_wp2))
  go_ret
  exact ⟨rfl, (by repeat' first | exact Below.refl _ _ | refine Below.alloc ?_ ?_ _ | refine below_thru ?_ (by assumption) ?_ | omega | (simp; done) | (simp; omega))⟩

theorem keysBack_walk (K : Key4) (_ : K.fits) (w : World) :
    Calls Try.prog 6 #[K.v] w fun e w' => e = .returned (.bool true) ∧ Below w.heap.size w w' := by
  obtain ⟨t0, d0, t1, d1, t2, d2, t3, d3⟩ := K
  cases t0
  · exact keysBack_0 t1 t2 t3 d0 d1 d2 d3 w
  cases t1
  · exact keysBack_1 t2 t3 d0 d1 d2 d3 w
  cases t2
  · exact keysBack_2 t3 d0 d1 d2 d3 w
  cases t3
  · exact keysBack_3 d0 d1 d2 d3 w
  · exact keysBack_4 d0 d1 d2 d3 w

end Go.Proofs.Ytokpodmefnmmcaa
