/- alive7, CheckMore and CheckWrite: their walks. -/
import Derived.Test.YtokpodmefnmmcaaCheck
import Derived.Test.YtokpodmefnmmcaaCheckT
import Derived.Test.YtokpodmefnmmcaaOpenK
import Derived.Deep.RegionHeld3
namespace Go.Proofs.Ytokpodmefnmmcaa
open Go.RowKit
attribute [local go_sem] Key4.v
set_option linter.unusedVariables false

theorem page_u (r key : Int) (tg sd t0 : Bool) (d0 : Int) (t1 : Bool) (d1 : Int) (t2 : Bool) (d2 : Int) (t3 : Bool) (d3 way : Int) (w : World) :
    Calls Try.prog 31 #[.agg #[.int .i64 r, .int .i64 key, .bool tg, .bool sd], .agg #[.bool t0, .int .i64 d0, .bool t1, .int .i64 d1, .bool t2, .int .i64 d2, .bool t3, .int .i64 d3], .int .i64 way] w fun e w' => e = .returned (.int .i64 (pageF r key ⟨t0, d0, t1, d1, t2, d2, t3, d3⟩ way)) ∧
      w' = (w.alloc (.cells #[.int .i64 r, .int .i64 key, .bool tg, .bool sd] 45)).alloc (.cells #[.bool t0, .int .i64 d0, .bool t1, .int .i64 d1, .bool t2, .int .i64 d2, .bool t3, .int .i64 d3] 33) :=
  page_any r key tg sd ⟨t0, d0, t1, d1, t2, d2, t3, d3⟩ way w

theorem row_two (w : World) (t : TypeId) (b : Nat) (hb : b = w.heap.size) : Row .i64 (w.alloc (.cells #[.int .i64 3, .int .i64 4] t)) (b + 1) (some ⟨b, 0, none⟩) 2 [3, 4] := by
  subst hb
  exact ⟨rfl, by unfold maxLen; omega, fun _ => ⟨_, _, rfl, by omega, fun i hi => by
    have : i = 0 ∨ i = 1 := by omega
    rcases this with rfl | rfl <;> simp [go_sem]⟩⟩

set_option maxHeartbeats 4000000 in
theorem alive7_any (w : World) : Calls Try.prog 33 #[] w fun e w' => e = .returned (.bool true) ∧ Below w.heap.size w w' := by
  have f0 : tagsF true 1 [3, 4] 3 = 4 := rfl
  have f1 : tagsK true 1 [3, 4] 3 = 1 := rfl
  have f2 : pageF 1 2 ⟨false, 0, false, 0, true, 1, false, 0⟩ 2 = 2 := rfl
  have f3 : pageF 1 2 ⟨false, 0, false, 0, true, 1, false, 0⟩ 1 = 3 := rfl
  have f4 : pageF 1 2 ⟨false, 0, false, 0, false, 0, false, 0⟩ 1 = 0 := rfl
  have f5 : wrongE 6 = 6 := rfl
  go_enter Try.func33, Try.ntmps33
  go_wp2_with fail
  refine (tags_any 1 2 true false 1 _ 2 2 [3, 4] 3 _ _ (by exact row_two _ _ _ (by simp)) (by simp)).mono ?_
  rintro e w1 ⟨rfl, hb1⟩
  obtain ⟨hc1, hf1⟩ := bcell hb1
  have hz1 : w.heap.size + 3 ≤ w1.heap.size := by have := hb1.size; simp at this; omega
  have y0 : w.heap.size < w1.heap.size := by omega
  have y1 : w.heap.size + 1 < w1.heap.size := by omega
  have y0_1 : w.heap.size < w1.heap.size + 1 := by omega
  have y0_2 : w.heap.size < w1.heap.size + 1 + 1 := by omega
  have y0_3 : w.heap.size < w1.heap.size + 1 + 1 + 1 := by omega
  have y0_4 : w.heap.size < w1.heap.size + 1 + 1 + 1 + 1 := by omega
  have y0_5 : w.heap.size < w1.heap.size + 1 + 1 + 1 + 1 + 1 := by omega
  have y0_6 : w.heap.size < w1.heap.size + 1 + 1 + 1 + 1 + 1 + 1 := by omega
  have y1_1 : w.heap.size + 1 < w1.heap.size + 1 := by omega
  have y1_2 : w.heap.size + 1 < w1.heap.size + 1 + 1 := by omega
  have y1_3 : w.heap.size + 1 < w1.heap.size + 1 + 1 + 1 := by omega
  have y1_4 : w.heap.size + 1 < w1.heap.size + 1 + 1 + 1 + 1 := by omega
  have y1_5 : w.heap.size + 1 < w1.heap.size + 1 + 1 + 1 + 1 + 1 := by omega
  have y1_6 : w.heap.size + 1 < w1.heap.size + 1 + 1 + 1 + 1 + 1 + 1 := by omega
  go_wp2_with (first
    | (go_at_call 31; refine (page_u _ _ _ _ _ _ _ _ _ _ _ _ _ _).mono ?_; rintro e w' ⟨rfl, rfl⟩)
    | (go_at_call 29; refine (wrong_any _ _).mono ?_; rintro e w' ⟨rfl, rfl⟩))
  all_goals go_ret
  all_goals exact ⟨rfl, (by repeat' first | exact Below.refl _ _ | refine Below.alloc ?_ ?_ _ | refine Below.drew ?_ | refine Below.setCell ?_ ?_ _ | refine below_thru ?_ (by assumption) ?_ | omega | (simp; done) | (simp; omega))⟩

/-! ### bits -/
theorem bz (x : Nat) (hx : x < 18446744073709551616) : (IntKind.i64.wrap (x : Int)) % 2 = ((x % 2 : Nat) : Int) ∧ (IntKind.i64.wrap (x : Int)) / 2 % 2 = ((x / 2 % 2 : Nat) : Int) ∧ (IntKind.i64.wrap (x : Int)) / 4 % 2 = ((x / 4 % 2 : Nat) : Int) := by
  rw [IntKind.wrap_i64]; omega
theorem bi (v : Int) : v % 2 = (((BitVec.ofInt 64 v).toNat % 2 : Nat) : Int) ∧ v / 2 % 2 = (((BitVec.ofInt 64 v).toNat / 2 % 2 : Nat) : Int) ∧ v / 4 % 2 = (((BitVec.ofInt 64 v).toNat / 4 % 2 : Nat) : Int) := by
  rw [ofInt64]; omega
theorem tb (x i : Nat) : x / 2 ^ i % 2 = 1 ↔ x.testBit i = true := by rw [Nat.testBit_eq_decide_div_mod_eq]; simp
theorem or_bit (a b : Int) (way : Int) (hw : way = 1 ∨ way = 2 ∨ way = 4) (h : a / way % 2 ≠ 0) : (bits .or .i64 a b) / way % 2 ≠ 0 := by
  have key : ∀ i : Nat, (BitVec.ofInt 64 a).toNat / 2 ^ i % 2 = 1 → (BitVec.ofInt 64 a ||| BitVec.ofInt 64 b).toNat / 2 ^ i % 2 = 1 := by
    intro i h1
    rw [tb] at h1 ⊢
    rw [BitVec.toNat_or, Nat.testBit_or, h1]; rfl
  show (IntKind.i64.wrap ((BitVec.ofInt 64 a ||| BitVec.ofInt 64 b).toNat : Int)) / way % 2 ≠ 0
  obtain ⟨g1, g2, g4⟩ := bz (BitVec.ofInt 64 a ||| BitVec.ofInt 64 b).toNat (BitVec.isLt _)
  obtain ⟨e1, e2, e4⟩ := bi a
  rcases hw with rfl | rfl | rfl
  · have := key 0; simp only [Nat.reducePow, Nat.div_one] at this; rw [Int.ediv_one] at h ⊢; omega
  · have := key 1; simp only [Nat.reducePow] at this; omega
  · have := key 2; simp only [Nat.reducePow] at this; omega
theorem andNot_bit (a b : Int) (way : Int) (hw : way = 1 ∨ way = 2 ∨ way = 4) (h : a / way % 2 = 0) : (bits .andNot .i64 a b) / way % 2 = 0 := by
  have key : ∀ i : Nat, (BitVec.ofInt 64 a &&& ~~~ BitVec.ofInt 64 b).toNat / 2 ^ i % 2 = 1 → (BitVec.ofInt 64 a).toNat / 2 ^ i % 2 = 1 := by
    intro i h1
    rw [tb] at h1 ⊢
    rw [BitVec.toNat_and, Nat.testBit_and, Bool.and_eq_true] at h1
    exact h1.1
  show (IntKind.i64.wrap ((BitVec.ofInt 64 a &&& ~~~ BitVec.ofInt 64 b).toNat : Int)) / way % 2 = 0
  obtain ⟨g1, g2, g4⟩ := bz (BitVec.ofInt 64 a &&& ~~~ BitVec.ofInt 64 b).toNat (BitVec.isLt _)
  obtain ⟨e1, e2, e4⟩ := bi a
  rcases hw with rfl | rfl | rfl
  · have := key 0; simp only [Nat.reducePow, Nat.div_one] at this; rw [Int.ediv_one] at h ⊢; omega
  · have := key 1; simp only [Nat.reducePow] at this; omega
  · have := key 2; simp only [Nat.reducePow] at this; omega
theorem pageF_cases {r key : Int} {K : Key4} {way : Int} (h : pageF r key K way = 0) : (way = 1 ∨ way = 2 ∨ way = 4) ∧ r / way % 2 ≠ 0 ∧ (way = 4 ∨ (0 ≤ key ∧ key < 4 ∧ K.dn key / way % 2 = 0)) := by
  by_cases h1 : ¬ (way = 1 ∨ way = 2 ∨ way = 4) ∨ r / way % 2 = 0
  · rw [← pf2 h1] at h; omega
  · refine ⟨by omega, by omega, ?_⟩
    by_cases h4 : way = 4
    · exact Or.inl h4
    · right
      by_cases hk : key < 0 ∨ 4 ≤ key
      · rw [← pf3 (by omega) (by omega) h4 hk] at h; omega
      · by_cases hd : K.dn key / way % 2 = 0
        · exact ⟨by omega, by omega, hd⟩
        · rw [← pf3d (by omega) (by omega) h4 rfl hd] at h; omega
theorem pageF_more {r key more less : Int} {t0 t1 t2 t3 : Bool} {d0 d1 d2 d3 way : Int} (h : pageF r key ⟨t0, d0, t1, d1, t2, d2, t3, d3⟩ way = 0) :
    pageF (bits .or .i64 r more) key ⟨t0, bits .andNot .i64 d0 less, t1, bits .andNot .i64 d1 less, t2, bits .andNot .i64 d2 less, t3, bits .andNot .i64 d3 less⟩ way = 0 := by
  obtain ⟨h1, h2, h3⟩ := pageF_cases h
  rcases h3 with h4 | ⟨h5, h6, h7⟩
  · exact (pf04 h4 (or_bit _ _ _ h1 h2)).symm
  · have hk : key = 0 ∨ key = 1 ∨ key = 2 ∨ key = 3 := by omega
    refine (pf0d h1 (or_bit _ _ _ h1 h2) rfl ⟨h5, h6⟩ ?_).symm
    rcases hk with rfl | rfl | rfl | rfl <;> exact andNot_bit _ _ _ h1 h7

set_option maxHeartbeats 4000000 in
theorem checkMore_walk (r : Int) (_ : I64 r) (key : Int) (_ : I64 key) (tg sd : Bool) (K : Key4) (_ : K.fits) (way : Int) (_ : I64 way) (more : Int) (_ : I64 more) (less : Int) (_ : I64 less) (w : World) :
    Calls Try.prog 9 #[.agg #[.int .i64 r, .int .i64 key, .bool tg, .bool sd], K.v, .int .i64 way, .int .i64 more, .int .i64 less] w fun e w' => e = .returned (.bool true) ∧ Below w.heap.size w w' := by
  obtain ⟨t0, d0, t1, d1, t2, d2, t3, d3⟩ := K
  simp only [Key4.v]
  by_cases h : pageF r key ⟨t0, d0, t1, d1, t2, d2, t3, d3⟩ way = 0
  · have hm := pageF_more (more := more) (less := less) h
    go_enter Try.func9, Try.ntmps9
    go_wp2_with (first | (go_at_call 33; refine (alive7_any _).mono ?_; rintro e w1 ⟨rfl, hb1⟩; obtain ⟨hc1, hf1⟩ := bcell hb1; have hz1 : w.heap.size + 2 ≤ w1.heap.size := (by have := hb1.size; (try simp at this); omega); have y1_0 : w.heap.size < w.heap.size + 1 + 1 := (by omega); have z1_0 : w.heap.size < w1.heap.size := (by omega); have y1_1 : w.heap.size + 1 < w.heap.size + 1 + 1 := (by omega); have z1_1 : w.heap.size + 1 < w1.heap.size := (by omega)) | (go_at_call 31; refine (page_u _ _ _ _ _ _ _ _ _ _ _ _ _ _).mono ?_; rintro e w' ⟨rfl, rfl⟩))
    refine wp_loop_rounds 5 ?_
    repeat any_goals (rw [rounds_succ]; go_wp2_with (first | (go_at_call 33; refine (alive7_any _).mono ?_; rintro e w1 ⟨rfl, hb1⟩; obtain ⟨hc1, hf1⟩ := bcell hb1; have hz1 : w.heap.size + 2 ≤ w1.heap.size := (by have := hb1.size; (try simp at this); omega); have y1_0 : w.heap.size < w.heap.size + 1 + 1 := (by omega); have z1_0 : w.heap.size < w1.heap.size := (by omega); have y1_1 : w.heap.size + 1 < w.heap.size + 1 + 1 := (by omega); have z1_1 : w.heap.size + 1 < w1.heap.size := (by omega)) | (go_at_call 31; refine (page_u _ _ _ _ _ _ _ _ _ _ _ _ _ _).mono ?_; rintro e w' ⟨rfl, rfl⟩)))
    all_goals go_ret
    all_goals exact ⟨rfl, (by repeat' first | exact Below.refl _ _ | refine Below.alloc ?_ ?_ _ | refine Below.drew ?_ | refine Below.setCell ?_ ?_ _ | refine below_thru ?_ (by assumption) ?_ | omega | (simp; done) | (simp; omega))⟩
  · have hn : (pageF r key ⟨t0, d0, t1, d1, t2, d2, t3, d3⟩ way != 0) = true := by simp [h]
    clear h
    go_enter Try.func9, Try.ntmps9
    go_wp2_with (first | (go_at_call 33; refine (alive7_any _).mono ?_; rintro e w1 ⟨rfl, hb1⟩; obtain ⟨hc1, hf1⟩ := bcell hb1; have hz1 : w.heap.size + 2 ≤ w1.heap.size := (by have := hb1.size; (try simp at this); omega); have y1_0 : w.heap.size < w.heap.size + 1 + 1 := (by omega); have z1_0 : w.heap.size < w1.heap.size := (by omega); have y1_1 : w.heap.size + 1 < w.heap.size + 1 + 1 := (by omega); have z1_1 : w.heap.size + 1 < w1.heap.size := (by omega)) | (go_at_call 31; refine (page_u _ _ _ _ _ _ _ _ _ _ _ _ _ _).mono ?_; rintro e w' ⟨rfl, rfl⟩))
    refine wp_loop_rounds 5 ?_
    repeat any_goals (rw [rounds_succ]; go_wp2_with (first | (go_at_call 33; refine (alive7_any _).mono ?_; rintro e w1 ⟨rfl, hb1⟩; obtain ⟨hc1, hf1⟩ := bcell hb1; have hz1 : w.heap.size + 2 ≤ w1.heap.size := (by have := hb1.size; (try simp at this); omega); have y1_0 : w.heap.size < w.heap.size + 1 + 1 := (by omega); have z1_0 : w.heap.size < w1.heap.size := (by omega); have y1_1 : w.heap.size + 1 < w.heap.size + 1 + 1 := (by omega); have z1_1 : w.heap.size + 1 < w1.heap.size := (by omega)) | (go_at_call 31; refine (page_u _ _ _ _ _ _ _ _ _ _ _ _ _ _).mono ?_; rintro e w' ⟨rfl, rfl⟩)))
    all_goals go_ret
    all_goals exact ⟨rfl, (by repeat' first | exact Below.refl _ _ | refine Below.alloc ?_ ?_ _ | refine Below.drew ?_ | refine Below.setCell ?_ ?_ _ | refine below_thru ?_ (by assumption) ?_ | omega | (simp; done) | (simp; omega))⟩
end Go.Proofs.Ytokpodmefnmmcaa
