/- The walk of KeysApart. -/
import Derived.Test.YtokpodmefnmmcaaKeysB
namespace Go.Proofs.Ytokpodmefnmmcaa
open Go.RowKit
attribute [local go_sem] Key4.v run_eq_keys
set_option linter.unusedVariables false

theorem chg4E_cases {K : Key4} {k least d : Int} (h : chg4E K k least d = 0) : least ≤ k ∧ K.tk k = true ∧ 0 ≤ d ∧ d ≤ 3 := by
  unfold chg4E at h
  by_cases h1 : least ≤ k ∧ K.tk k = true
  · rw [if_pos h1] at h
    by_cases h2 : d < 0 ∨ 3 < d
    · rw [if_pos h2] at h; omega
    · exact ⟨h1.1, h1.2, by omega, by omega⟩
  · rw [if_neg h1] at h; omega
theorem chg4E_is {K : Key4} {k least d : Int} (h : least ≤ k) (ht : K.tk k = true) (h0 : 0 ≤ d) (h3 : d ≤ 3) : chg4E K k least d = 0 := by
  unfold chg4E; rw [if_pos ⟨h, ht⟩, if_neg (by omega)]
theorem chg4_is {K : Key4} {k least d : Int} {t : Bool} (h : chg4E K k least d = 0) : chg4 K k least t d = K.set k t d := by unfold chg4; rw [if_pos h]
theorem tk_range {K : Key4} {k : Int} (h : K.tk k = true) : k = 0 ∨ k = 1 ∨ k = 2 ∨ k = 3 := by
  by_cases h0 : k = 0 ∨ k = 1 ∨ k = 2 ∨ k = 3
  · exact h0
  · unfold Key4.tk at h
    rw [if_neg (by omega), if_neg (by omega), if_neg (by omega), if_neg (by omega)] at h
    cases h
theorem tk_set_other {K : Key4} {k j : Int} {t : Bool} {d : Int} (h : k ≠ j) : (K.set k t d).tk j = K.tk j := by
  unfold Key4.set Key4.tk
  (repeat' split) <;> first | rfl | omega
theorem tk_set_same {K : Key4} {k : Int} {d : Int} (h : K.tk k = true) : (K.set k true d).tk k = true := by
  rcases tk_range h with rfl | rfl | rfl | rfl <;> rfl
theorem set_comm {K : Key4} {a b x y : Int} (ha : a = 0 ∨ a = 1 ∨ a = 2 ∨ a = 3) (hb : b = 0 ∨ b = 1 ∨ b = 2 ∨ b = 3) (h : a ≠ b) : (K.set b true y).set a true x = (K.set a true x).set b true y := by
  rcases ha with rfl | rfl | rfl | rfl <;> rcases hb with rfl | rfl | rfl | rfl <;> first | rfl | exact absurd rfl h
theorem chg4E_c {K : Key4} {k least d : Int} : chg4E K k least d = 0 ∨ (chg4E K k least d == 0) = false ∧ (chg4E K k least d != 0) = true := by
  by_cases h : chg4E K k least d = 0
  · exact Or.inl h
  · exact Or.inr ⟨by simp [h], by simp [h]⟩

set_option maxHeartbeats 4000000 in
theorem keysApart_1 (K : Key4) (a b x y : Int) (h1 : (chg4E K a 0 x != 0) = true) (w : World) :
    Calls Try.prog 7 #[K.v, .int .i64 a, .int .i64 b, .int .i64 x, .int .i64 y] w fun e w' => e = .returned (.bool true) ∧ Below w.heap.size w w' := by
  simp only [Key4.v]
  go_enter Try.func7, Try.ntmps7
  go_wp2_with fail
  refine (alive10_any _).mono ?_
  rintro e w1 ⟨rfl, hb1⟩
  obtain ⟨hc1, hf1⟩ := bcell hb1
  have hz1 : w.heap.size + 1 ≤ w1.heap.size := (by have := hb1.size; (try simp at this); omega)
  have y1_0 : w.heap.size < w.heap.size + 1 := (by omega)
  have z1_0 : w.heap.size < w1.heap.size := (by omega)
  go_wp2_with fail
  refine (keysSet_any K a x _).mono ?_
  rintro e w2 ⟨rfl, hb2⟩
  obtain ⟨hc2, hf2⟩ := bcell hb2
  have hz2 : w1.heap.size + 0 ≤ w2.heap.size := (by have := hb2.size; (try simp at this); omega)
  have y2_0 : w.heap.size < w1.heap.size := (by omega)
  have z2_0 : w.heap.size < w2.heap.size := (by omega)
  go_wp2_with fail
  refine (keysSet_any (chg4 K a 0 true x) b y _).mono ?_
  rintro e w3 ⟨rfl, hb3⟩
  obtain ⟨hc3, hf3⟩ := bcell hb3
  have hz3 : w2.heap.size + 1 ≤ w3.heap.size := (by have := hb3.size; (try simp at this); omega)
  have y3_0 : w.heap.size < w2.heap.size + 1 := (by omega)
  have z3_0 : w.heap.size < w3.heap.size := (by omega)
  have y3_1 : w2.heap.size < w2.heap.size + 1 := (by omega)
  have z3_1 : w2.heap.size < w3.heap.size := (by omega)
  go_wp2_with fail
  refine (keysSet_any K b y _).mono ?_
  rintro e w4 ⟨rfl, hb4⟩
  obtain ⟨hc4, hf4⟩ := bcell hb4
  have hz4 : w3.heap.size + 1 ≤ w4.heap.size := (by have := hb4.size; (try simp at this); omega)
  have y4_0 : w.heap.size < w3.heap.size + 1 := (by omega)
  have z4_0 : w.heap.size < w4.heap.size := (by omega)
  have y4_1 : w2.heap.size < w3.heap.size + 1 := (by omega)
  have z4_1 : w2.heap.size < w4.heap.size := (by omega)
  have y4_2 : w3.heap.size < w3.heap.size + 1 := (by omega)
  have z4_2 : w3.heap.size < w4.heap.size := (by omega)
  go_wp2_with fail
  refine (keysSet_any (chg4 K b 0 true y) a x _).mono ?_
  rintro e w5 ⟨rfl, hb5⟩
  obtain ⟨hc5, hf5⟩ := bcell hb5
  have hz5 : w4.heap.size + 1 ≤ w5.heap.size := (by have := hb5.size; (try simp at this); omega)
  have y5_0 : w.heap.size < w4.heap.size + 1 := (by omega)
  have z5_0 : w.heap.size < w5.heap.size := (by omega)
  have y5_1 : w2.heap.size < w4.heap.size + 1 := (by omega)
  have z5_1 : w2.heap.size < w5.heap.size := (by omega)
  have y5_2 : w3.heap.size < w4.heap.size + 1 := (by omega)
  have z5_2 : w3.heap.size < w5.heap.size := (by omega)
  have y5_3 : w4.heap.size < w4.heap.size + 1 := (by omega)
  have z5_3 : w4.heap.size < w5.heap.size := (by omega)
  go_wp2
  go_ret
  exact ⟨rfl, (by repeat' first | exact Below.refl _ _ | refine Below.alloc ?_ ?_ _ | refine below_thru ?_ (by assumption) ?_ | omega | (simp; done) | (simp; omega))⟩

set_option maxHeartbeats 4000000 in
theorem keysApart_2 (K : Key4) (a b x y : Int) (h1 : chg4E K a 0 x = 0) (h2 : (chg4E (chg4 K a 0 true x) b 0 y != 0) = true) (w : World) :
    Calls Try.prog 7 #[K.v, .int .i64 a, .int .i64 b, .int .i64 x, .int .i64 y] w fun e w' => e = .returned (.bool true) ∧ Below w.heap.size w w' := by
  simp only [Key4.v]
  go_enter Try.func7, Try.ntmps7
  go_wp2_with fail
  refine (alive10_any _).mono ?_
  rintro e w1 ⟨rfl, hb1⟩
  obtain ⟨hc1, hf1⟩ := bcell hb1
  have hz1 : w.heap.size + 1 ≤ w1.heap.size := (by have := hb1.size; (try simp at this); omega)
  have y1_0 : w.heap.size < w.heap.size + 1 := (by omega)
  have z1_0 : w.heap.size < w1.heap.size := (by omega)
  go_wp2_with fail
  refine (keysSet_any K a x _).mono ?_
  rintro e w2 ⟨rfl, hb2⟩
  obtain ⟨hc2, hf2⟩ := bcell hb2
  have hz2 : w1.heap.size + 0 ≤ w2.heap.size := (by have := hb2.size; (try simp at this); omega)
  have y2_0 : w.heap.size < w1.heap.size := (by omega)
  have z2_0 : w.heap.size < w2.heap.size := (by omega)
  go_wp2_with fail
  refine (keysSet_any (chg4 K a 0 true x) b y _).mono ?_
  rintro e w3 ⟨rfl, hb3⟩
  obtain ⟨hc3, hf3⟩ := bcell hb3
  have hz3 : w2.heap.size + 1 ≤ w3.heap.size := (by have := hb3.size; (try simp at this); omega)
  have y3_0 : w.heap.size < w2.heap.size + 1 := (by omega)
  have z3_0 : w.heap.size < w3.heap.size := (by omega)
  have y3_1 : w2.heap.size < w2.heap.size + 1 := (by omega)
  have z3_1 : w2.heap.size < w3.heap.size := (by omega)
  go_wp2_with fail
  refine (keysSet_any K b y _).mono ?_
  rintro e w4 ⟨rfl, hb4⟩
  obtain ⟨hc4, hf4⟩ := bcell hb4
  have hz4 : w3.heap.size + 1 ≤ w4.heap.size := (by have := hb4.size; (try simp at this); omega)
  have y4_0 : w.heap.size < w3.heap.size + 1 := (by omega)
  have z4_0 : w.heap.size < w4.heap.size := (by omega)
  have y4_1 : w2.heap.size < w3.heap.size + 1 := (by omega)
  have z4_1 : w2.heap.size < w4.heap.size := (by omega)
  have y4_2 : w3.heap.size < w3.heap.size + 1 := (by omega)
  have z4_2 : w3.heap.size < w4.heap.size := (by omega)
  go_wp2_with fail
  refine (keysSet_any (chg4 K b 0 true y) a x _).mono ?_
  rintro e w5 ⟨rfl, hb5⟩
  obtain ⟨hc5, hf5⟩ := bcell hb5
  have hz5 : w4.heap.size + 1 ≤ w5.heap.size := (by have := hb5.size; (try simp at this); omega)
  have y5_0 : w.heap.size < w4.heap.size + 1 := (by omega)
  have z5_0 : w.heap.size < w5.heap.size := (by omega)
  have y5_1 : w2.heap.size < w4.heap.size + 1 := (by omega)
  have z5_1 : w2.heap.size < w5.heap.size := (by omega)
  have y5_2 : w3.heap.size < w4.heap.size + 1 := (by omega)
  have z5_2 : w3.heap.size < w5.heap.size := (by omega)
  have y5_3 : w4.heap.size < w4.heap.size + 1 := (by omega)
  have z5_3 : w4.heap.size < w5.heap.size := (by omega)
  go_wp2
  go_ret
  exact ⟨rfl, (by repeat' first | exact Below.refl _ _ | refine Below.alloc ?_ ?_ _ | refine below_thru ?_ (by assumption) ?_ | omega | (simp; done) | (simp; omega))⟩

set_option maxHeartbeats 4000000 in
theorem keysApart_3 (K : Key4) (a b x y : Int) (h1 : chg4E K a 0 x = 0) (h2 : chg4E (chg4 K a 0 true x) b 0 y = 0) (h3 : chg4E K b 0 y = 0) (h4 : chg4E (chg4 K b 0 true y) a 0 x = 0) (ha : (a == b) = false) (ha2 : (a != b) = true) (he : chg4 (chg4 K b 0 true y) a 0 true x = chg4 (chg4 K a 0 true x) b 0 true y) (w : World) :
    Calls Try.prog 7 #[K.v, .int .i64 a, .int .i64 b, .int .i64 x, .int .i64 y] w fun e w' => e = .returned (.bool true) ∧ Below w.heap.size w w' := by
  simp only [Key4.v]
  go_enter Try.func7, Try.ntmps7
  go_wp2_with fail
  refine (alive10_any _).mono ?_
  rintro e w1 ⟨rfl, hb1⟩
  obtain ⟨hc1, hf1⟩ := bcell hb1
  have hz1 : w.heap.size + 1 ≤ w1.heap.size := (by have := hb1.size; (try simp at this); omega)
  have y1_0 : w.heap.size < w.heap.size + 1 := (by omega)
  have z1_0 : w.heap.size < w1.heap.size := (by omega)
  go_wp2_with fail
  refine (keysSet_any K a x _).mono ?_
  rintro e w2 ⟨rfl, hb2⟩
  obtain ⟨hc2, hf2⟩ := bcell hb2
  have hz2 : w1.heap.size + 0 ≤ w2.heap.size := (by have := hb2.size; (try simp at this); omega)
  have y2_0 : w.heap.size < w1.heap.size := (by omega)
  have z2_0 : w.heap.size < w2.heap.size := (by omega)
  go_wp2_with fail
  refine (keysSet_any (chg4 K a 0 true x) b y _).mono ?_
  rintro e w3 ⟨rfl, hb3⟩
  obtain ⟨hc3, hf3⟩ := bcell hb3
  have hz3 : w2.heap.size + 1 ≤ w3.heap.size := (by have := hb3.size; (try simp at this); omega)
  have y3_0 : w.heap.size < w2.heap.size + 1 := (by omega)
  have z3_0 : w.heap.size < w3.heap.size := (by omega)
  have y3_1 : w2.heap.size < w2.heap.size + 1 := (by omega)
  have z3_1 : w2.heap.size < w3.heap.size := (by omega)
  go_wp2_with fail
  refine (keysSet_any K b y _).mono ?_
  rintro e w4 ⟨rfl, hb4⟩
  obtain ⟨hc4, hf4⟩ := bcell hb4
  have hz4 : w3.heap.size + 1 ≤ w4.heap.size := (by have := hb4.size; (try simp at this); omega)
  have y4_0 : w.heap.size < w3.heap.size + 1 := (by omega)
  have z4_0 : w.heap.size < w4.heap.size := (by omega)
  have y4_1 : w2.heap.size < w3.heap.size + 1 := (by omega)
  have z4_1 : w2.heap.size < w4.heap.size := (by omega)
  have y4_2 : w3.heap.size < w3.heap.size + 1 := (by omega)
  have z4_2 : w3.heap.size < w4.heap.size := (by omega)
  go_wp2_with fail
  refine (keysSet_any (chg4 K b 0 true y) a x _).mono ?_
  rintro e w5 ⟨rfl, hb5⟩
  obtain ⟨hc5, hf5⟩ := bcell hb5
  have hz5 : w4.heap.size + 1 ≤ w5.heap.size := (by have := hb5.size; (try simp at this); omega)
  have y5_0 : w.heap.size < w4.heap.size + 1 := (by omega)
  have z5_0 : w.heap.size < w5.heap.size := (by omega)
  have y5_1 : w2.heap.size < w4.heap.size + 1 := (by omega)
  have z5_1 : w2.heap.size < w5.heap.size := (by omega)
  have y5_2 : w3.heap.size < w4.heap.size + 1 := (by omega)
  have z5_2 : w3.heap.size < w5.heap.size := (by omega)
  have y5_3 : w4.heap.size < w4.heap.size + 1 := (by omega)
  have z5_3 : w4.heap.size < w5.heap.size := (by omega)
  go_wp2
  go_ret
  exact ⟨rfl, (by repeat' first | exact Below.refl _ _ | refine Below.alloc ?_ ?_ _ | refine below_thru ?_ (by assumption) ?_ | omega | (simp; done) | (simp; omega))⟩

set_option maxHeartbeats 4000000 in
theorem keysApart_40 (K : Key4) (x y : Int) (h1 : chg4E K 0 0 x = 0) (h2 : chg4E (chg4 K 0 0 true x) 0 0 y = 0) (h3 : chg4E K 0 0 y = 0) (h4 : chg4E (chg4 K 0 0 true y) 0 0 x = 0) (hd : (chg4 (chg4 K 0 0 true x) 0 0 true y).d0 = y) (w : World) :
    Calls Try.prog 7 #[K.v, .int .i64 0, .int .i64 0, .int .i64 x, .int .i64 y] w fun e w' => e = .returned (.bool true) ∧ Below w.heap.size w w' := by
  simp only [Key4.v]
  go_enter Try.func7, Try.ntmps7
  go_wp2_with fail
  refine (alive10_any _).mono ?_
  rintro e w1 ⟨rfl, hb1⟩
  obtain ⟨hc1, hf1⟩ := bcell hb1
  have hz1 : w.heap.size + 1 ≤ w1.heap.size := (by have := hb1.size; (try simp at this); omega)
  have y1_0 : w.heap.size < w.heap.size + 1 := (by omega)
  have z1_0 : w.heap.size < w1.heap.size := (by omega)
  go_wp2_with fail
  refine (keysSet_any K 0 x _).mono ?_
  rintro e w2 ⟨rfl, hb2⟩
  obtain ⟨hc2, hf2⟩ := bcell hb2
  have hz2 : w1.heap.size + 0 ≤ w2.heap.size := (by have := hb2.size; (try simp at this); omega)
  have y2_0 : w.heap.size < w1.heap.size := (by omega)
  have z2_0 : w.heap.size < w2.heap.size := (by omega)
  go_wp2_with fail
  refine (keysSet_any (chg4 K 0 0 true x) 0 y _).mono ?_
  rintro e w3 ⟨rfl, hb3⟩
  obtain ⟨hc3, hf3⟩ := bcell hb3
  have hz3 : w2.heap.size + 1 ≤ w3.heap.size := (by have := hb3.size; (try simp at this); omega)
  have y3_0 : w.heap.size < w2.heap.size + 1 := (by omega)
  have z3_0 : w.heap.size < w3.heap.size := (by omega)
  have y3_1 : w2.heap.size < w2.heap.size + 1 := (by omega)
  have z3_1 : w2.heap.size < w3.heap.size := (by omega)
  go_wp2_with fail
  refine (keysSet_any K 0 y _).mono ?_
  rintro e w4 ⟨rfl, hb4⟩
  obtain ⟨hc4, hf4⟩ := bcell hb4
  have hz4 : w3.heap.size + 1 ≤ w4.heap.size := (by have := hb4.size; (try simp at this); omega)
  have y4_0 : w.heap.size < w3.heap.size + 1 := (by omega)
  have z4_0 : w.heap.size < w4.heap.size := (by omega)
  have y4_1 : w2.heap.size < w3.heap.size + 1 := (by omega)
  have z4_1 : w2.heap.size < w4.heap.size := (by omega)
  have y4_2 : w3.heap.size < w3.heap.size + 1 := (by omega)
  have z4_2 : w3.heap.size < w4.heap.size := (by omega)
  go_wp2_with fail
  refine (keysSet_any (chg4 K 0 0 true y) 0 x _).mono ?_
  rintro e w5 ⟨rfl, hb5⟩
  obtain ⟨hc5, hf5⟩ := bcell hb5
  have hz5 : w4.heap.size + 1 ≤ w5.heap.size := (by have := hb5.size; (try simp at this); omega)
  have y5_0 : w.heap.size < w4.heap.size + 1 := (by omega)
  have z5_0 : w.heap.size < w5.heap.size := (by omega)
  have y5_1 : w2.heap.size < w4.heap.size + 1 := (by omega)
  have z5_1 : w2.heap.size < w5.heap.size := (by omega)
  have y5_2 : w3.heap.size < w4.heap.size + 1 := (by omega)
  have z5_2 : w3.heap.size < w5.heap.size := (by omega)
  have y5_3 : w4.heap.size < w4.heap.size + 1 := (by omega)
  have z5_3 : w4.heap.size < w5.heap.size := (by omega)
  go_wp2
  go_ret
  exact ⟨rfl, (by repeat' first | exact Below.refl _ _ | refine Below.alloc ?_ ?_ _ | refine below_thru ?_ (by assumption) ?_ | omega | (simp; done) | (simp; omega))⟩

set_option maxHeartbeats 4000000 in
theorem keysApart_41 (K : Key4) (x y : Int) (h1 : chg4E K 1 0 x = 0) (h2 : chg4E (chg4 K 1 0 true x) 1 0 y = 0) (h3 : chg4E K 1 0 y = 0) (h4 : chg4E (chg4 K 1 0 true y) 1 0 x = 0) (hd : (chg4 (chg4 K 1 0 true x) 1 0 true y).d1 = y) (w : World) :
    Calls Try.prog 7 #[K.v, .int .i64 1, .int .i64 1, .int .i64 x, .int .i64 y] w fun e w' => e = .returned (.bool true) ∧ Below w.heap.size w w' := by
  simp only [Key4.v]
  go_enter Try.func7, Try.ntmps7
  go_wp2_with fail
  refine (alive10_any _).mono ?_
  rintro e w1 ⟨rfl, hb1⟩
  obtain ⟨hc1, hf1⟩ := bcell hb1
  have hz1 : w.heap.size + 1 ≤ w1.heap.size := (by have := hb1.size; (try simp at this); omega)
  have y1_0 : w.heap.size < w.heap.size + 1 := (by omega)
  have z1_0 : w.heap.size < w1.heap.size := (by omega)
  go_wp2_with fail
  refine (keysSet_any K 1 x _).mono ?_
  rintro e w2 ⟨rfl, hb2⟩
  obtain ⟨hc2, hf2⟩ := bcell hb2
  have hz2 : w1.heap.size + 0 ≤ w2.heap.size := (by have := hb2.size; (try simp at this); omega)
  have y2_0 : w.heap.size < w1.heap.size := (by omega)
  have z2_0 : w.heap.size < w2.heap.size := (by omega)
  go_wp2_with fail
  refine (keysSet_any (chg4 K 1 0 true x) 1 y _).mono ?_
  rintro e w3 ⟨rfl, hb3⟩
  obtain ⟨hc3, hf3⟩ := bcell hb3
  have hz3 : w2.heap.size + 1 ≤ w3.heap.size := (by have := hb3.size; (try simp at this); omega)
  have y3_0 : w.heap.size < w2.heap.size + 1 := (by omega)
  have z3_0 : w.heap.size < w3.heap.size := (by omega)
  have y3_1 : w2.heap.size < w2.heap.size + 1 := (by omega)
  have z3_1 : w2.heap.size < w3.heap.size := (by omega)
  go_wp2_with fail
  refine (keysSet_any K 1 y _).mono ?_
  rintro e w4 ⟨rfl, hb4⟩
  obtain ⟨hc4, hf4⟩ := bcell hb4
  have hz4 : w3.heap.size + 1 ≤ w4.heap.size := (by have := hb4.size; (try simp at this); omega)
  have y4_0 : w.heap.size < w3.heap.size + 1 := (by omega)
  have z4_0 : w.heap.size < w4.heap.size := (by omega)
  have y4_1 : w2.heap.size < w3.heap.size + 1 := (by omega)
  have z4_1 : w2.heap.size < w4.heap.size := (by omega)
  have y4_2 : w3.heap.size < w3.heap.size + 1 := (by omega)
  have z4_2 : w3.heap.size < w4.heap.size := (by omega)
  go_wp2_with fail
  refine (keysSet_any (chg4 K 1 0 true y) 1 x _).mono ?_
  rintro e w5 ⟨rfl, hb5⟩
  obtain ⟨hc5, hf5⟩ := bcell hb5
  have hz5 : w4.heap.size + 1 ≤ w5.heap.size := (by have := hb5.size; (try simp at this); omega)
  have y5_0 : w.heap.size < w4.heap.size + 1 := (by omega)
  have z5_0 : w.heap.size < w5.heap.size := (by omega)
  have y5_1 : w2.heap.size < w4.heap.size + 1 := (by omega)
  have z5_1 : w2.heap.size < w5.heap.size := (by omega)
  have y5_2 : w3.heap.size < w4.heap.size + 1 := (by omega)
  have z5_2 : w3.heap.size < w5.heap.size := (by omega)
  have y5_3 : w4.heap.size < w4.heap.size + 1 := (by omega)
  have z5_3 : w4.heap.size < w5.heap.size := (by omega)
  go_wp2
  go_ret
  exact ⟨rfl, (by repeat' first | exact Below.refl _ _ | refine Below.alloc ?_ ?_ _ | refine below_thru ?_ (by assumption) ?_ | omega | (simp; done) | (simp; omega))⟩

set_option maxHeartbeats 4000000 in
theorem keysApart_42 (K : Key4) (x y : Int) (h1 : chg4E K 2 0 x = 0) (h2 : chg4E (chg4 K 2 0 true x) 2 0 y = 0) (h3 : chg4E K 2 0 y = 0) (h4 : chg4E (chg4 K 2 0 true y) 2 0 x = 0) (hd : (chg4 (chg4 K 2 0 true x) 2 0 true y).d2 = y) (w : World) :
    Calls Try.prog 7 #[K.v, .int .i64 2, .int .i64 2, .int .i64 x, .int .i64 y] w fun e w' => e = .returned (.bool true) ∧ Below w.heap.size w w' := by
  simp only [Key4.v]
  go_enter Try.func7, Try.ntmps7
  go_wp2_with fail
  refine (alive10_any _).mono ?_
  rintro e w1 ⟨rfl, hb1⟩
  obtain ⟨hc1, hf1⟩ := bcell hb1
  have hz1 : w.heap.size + 1 ≤ w1.heap.size := (by have := hb1.size; (try simp at this); omega)
  have y1_0 : w.heap.size < w.heap.size + 1 := (by omega)
  have z1_0 : w.heap.size < w1.heap.size := (by omega)
  go_wp2_with fail
  refine (keysSet_any K 2 x _).mono ?_
  rintro e w2 ⟨rfl, hb2⟩
  obtain ⟨hc2, hf2⟩ := bcell hb2
  have hz2 : w1.heap.size + 0 ≤ w2.heap.size := (by have := hb2.size; (try simp at this); omega)
  have y2_0 : w.heap.size < w1.heap.size := (by omega)
  have z2_0 : w.heap.size < w2.heap.size := (by omega)
  go_wp2_with fail
  refine (keysSet_any (chg4 K 2 0 true x) 2 y _).mono ?_
  rintro e w3 ⟨rfl, hb3⟩
  obtain ⟨hc3, hf3⟩ := bcell hb3
  have hz3 : w2.heap.size + 1 ≤ w3.heap.size := (by have := hb3.size; (try simp at this); omega)
  have y3_0 : w.heap.size < w2.heap.size + 1 := (by omega)
  have z3_0 : w.heap.size < w3.heap.size := (by omega)
  have y3_1 : w2.heap.size < w2.heap.size + 1 := (by omega)
  have z3_1 : w2.heap.size < w3.heap.size := (by omega)
  go_wp2_with fail
  refine (keysSet_any K 2 y _).mono ?_
  rintro e w4 ⟨rfl, hb4⟩
  obtain ⟨hc4, hf4⟩ := bcell hb4
  have hz4 : w3.heap.size + 1 ≤ w4.heap.size := (by have := hb4.size; (try simp at this); omega)
  have y4_0 : w.heap.size < w3.heap.size + 1 := (by omega)
  have z4_0 : w.heap.size < w4.heap.size := (by omega)
  have y4_1 : w2.heap.size < w3.heap.size + 1 := (by omega)
  have z4_1 : w2.heap.size < w4.heap.size := (by omega)
  have y4_2 : w3.heap.size < w3.heap.size + 1 := (by omega)
  have z4_2 : w3.heap.size < w4.heap.size := (by omega)
  go_wp2_with fail
  refine (keysSet_any (chg4 K 2 0 true y) 2 x _).mono ?_
  rintro e w5 ⟨rfl, hb5⟩
  obtain ⟨hc5, hf5⟩ := bcell hb5
  have hz5 : w4.heap.size + 1 ≤ w5.heap.size := (by have := hb5.size; (try simp at this); omega)
  have y5_0 : w.heap.size < w4.heap.size + 1 := (by omega)
  have z5_0 : w.heap.size < w5.heap.size := (by omega)
  have y5_1 : w2.heap.size < w4.heap.size + 1 := (by omega)
  have z5_1 : w2.heap.size < w5.heap.size := (by omega)
  have y5_2 : w3.heap.size < w4.heap.size + 1 := (by omega)
  have z5_2 : w3.heap.size < w5.heap.size := (by omega)
  have y5_3 : w4.heap.size < w4.heap.size + 1 := (by omega)
  have z5_3 : w4.heap.size < w5.heap.size := (by omega)
  go_wp2
  go_ret
  exact ⟨rfl, (by repeat' first | exact Below.refl _ _ | refine Below.alloc ?_ ?_ _ | refine below_thru ?_ (by assumption) ?_ | omega | (simp; done) | (simp; omega))⟩

set_option maxHeartbeats 4000000 in
theorem keysApart_43 (K : Key4) (x y : Int) (h1 : chg4E K 3 0 x = 0) (h2 : chg4E (chg4 K 3 0 true x) 3 0 y = 0) (h3 : chg4E K 3 0 y = 0) (h4 : chg4E (chg4 K 3 0 true y) 3 0 x = 0) (hd : (chg4 (chg4 K 3 0 true x) 3 0 true y).d3 = y) (w : World) :
    Calls Try.prog 7 #[K.v, .int .i64 3, .int .i64 3, .int .i64 x, .int .i64 y] w fun e w' => e = .returned (.bool true) ∧ Below w.heap.size w w' := by
  simp only [Key4.v]
  go_enter Try.func7, Try.ntmps7
  go_wp2_with fail
  refine (alive10_any _).mono ?_
  rintro e w1 ⟨rfl, hb1⟩
  obtain ⟨hc1, hf1⟩ := bcell hb1
  have hz1 : w.heap.size + 1 ≤ w1.heap.size := (by have := hb1.size; (try simp at this); omega)
  have y1_0 : w.heap.size < w.heap.size + 1 := (by omega)
  have z1_0 : w.heap.size < w1.heap.size := (by omega)
  go_wp2_with fail
  refine (keysSet_any K 3 x _).mono ?_
  rintro e w2 ⟨rfl, hb2⟩
  obtain ⟨hc2, hf2⟩ := bcell hb2
  have hz2 : w1.heap.size + 0 ≤ w2.heap.size := (by have := hb2.size; (try simp at this); omega)
  have y2_0 : w.heap.size < w1.heap.size := (by omega)
  have z2_0 : w.heap.size < w2.heap.size := (by omega)
  go_wp2_with fail
  refine (keysSet_any (chg4 K 3 0 true x) 3 y _).mono ?_
  rintro e w3 ⟨rfl, hb3⟩
  obtain ⟨hc3, hf3⟩ := bcell hb3
  have hz3 : w2.heap.size + 1 ≤ w3.heap.size := (by have := hb3.size; (try simp at this); omega)
  have y3_0 : w.heap.size < w2.heap.size + 1 := (by omega)
  have z3_0 : w.heap.size < w3.heap.size := (by omega)
  have y3_1 : w2.heap.size < w2.heap.size + 1 := (by omega)
  have z3_1 : w2.heap.size < w3.heap.size := (by omega)
  go_wp2_with fail
  refine (keysSet_any K 3 y _).mono ?_
  rintro e w4 ⟨rfl, hb4⟩
  obtain ⟨hc4, hf4⟩ := bcell hb4
  have hz4 : w3.heap.size + 1 ≤ w4.heap.size := (by have := hb4.size; (try simp at this); omega)
  have y4_0 : w.heap.size < w3.heap.size + 1 := (by omega)
  have z4_0 : w.heap.size < w4.heap.size := (by omega)
  have y4_1 : w2.heap.size < w3.heap.size + 1 := (by omega)
  have z4_1 : w2.heap.size < w4.heap.size := (by omega)
  have y4_2 : w3.heap.size < w3.heap.size + 1 := (by omega)
  have z4_2 : w3.heap.size < w4.heap.size := (by omega)
  go_wp2_with fail
  refine (keysSet_any (chg4 K 3 0 true y) 3 x _).mono ?_
  rintro e w5 ⟨rfl, hb5⟩
  obtain ⟨hc5, hf5⟩ := bcell hb5
  have hz5 : w4.heap.size + 1 ≤ w5.heap.size := (by have := hb5.size; (try simp at this); omega)
  have y5_0 : w.heap.size < w4.heap.size + 1 := (by omega)
  have z5_0 : w.heap.size < w5.heap.size := (by omega)
  have y5_1 : w2.heap.size < w4.heap.size + 1 := (by omega)
  have z5_1 : w2.heap.size < w5.heap.size := (by omega)
  have y5_2 : w3.heap.size < w4.heap.size + 1 := (by omega)
  have z5_2 : w3.heap.size < w5.heap.size := (by omega)
  have y5_3 : w4.heap.size < w4.heap.size + 1 := (by omega)
  have z5_3 : w4.heap.size < w5.heap.size := (by omega)
  go_wp2
  go_ret
  exact ⟨rfl, (by repeat' first | exact Below.refl _ _ | refine Below.alloc ?_ ?_ _ | refine below_thru ?_ (by assumption) ?_ | omega | (simp; done) | (simp; omega))⟩

theorem keysApart_walk (K : Key4) (_ : K.fits) (a : Int) (_ : I64 a) (b : Int) (_ : I64 b) (x : Int) (_ : I64 x) (y : Int) (_ : I64 y) (w : World) :
    Calls Try.prog 7 #[K.v, .int .i64 a, .int .i64 b, .int .i64 x, .int .i64 y] w fun e w' => e = .returned (.bool true) ∧ Below w.heap.size w w' := by
  rcases chg4E_c (K := K) (k := a) (least := 0) (d := x) with h1 | ⟨_, h1⟩
  · rcases chg4E_c (K := chg4 K a 0 true x) (k := b) (least := 0) (d := y) with h2 | ⟨_, h2⟩
    · obtain ⟨p1, p2, p3, p4⟩ := chg4E_cases h1
      obtain ⟨q1, q2, q3, q4⟩ := chg4E_cases h2
      have m1 := chg4_is (t := true) h1
      by_cases hab : a = b
      · subst hab
        have h3 : chg4E K a 0 y = 0 := chg4E_is p1 p2 q3 q4
        have m3 := chg4_is (t := true) h3
        have h4 : chg4E (chg4 K a 0 true y) a 0 x = 0 := chg4E_is p1 (by rw [m3]; exact tk_set_same p2) p3 p4
        have m2 := chg4_is (t := true) h2
        rcases tk_range p2 with rfl | rfl | rfl | rfl
        · exact keysApart_40 K x y h1 h2 h3 h4 (by rw [m2]; rfl) w
        · exact keysApart_41 K x y h1 h2 h3 h4 (by rw [m2]; rfl) w
        · exact keysApart_42 K x y h1 h2 h3 h4 (by rw [m2]; rfl) w
        · exact keysApart_43 K x y h1 h2 h3 h4 (by rw [m2]; rfl) w
      · have q2' : K.tk b = true := by rw [m1, tk_set_other hab] at q2; exact q2
        have h3 : chg4E K b 0 y = 0 := chg4E_is q1 q2' q3 q4
        have m3 := chg4_is (t := true) h3
        have h4 : chg4E (chg4 K b 0 true y) a 0 x = 0 := chg4E_is p1 (by rw [m3, tk_set_other (Ne.symm hab)]; exact p2) p3 p4
        refine keysApart_3 K a b x y h1 h2 h3 h4 (by simp [hab]) (by simp [hab]) ?_ w
        rw [chg4_is h4, m3, chg4_is h2, m1]
        exact set_comm (tk_range p2) (tk_range q2') hab
    · exact keysApart_2 K a b x y h1 h2 w
  · exact keysApart_1 K a b x y h1 w

end Go.Proofs.Ytokpodmefnmmcaa
