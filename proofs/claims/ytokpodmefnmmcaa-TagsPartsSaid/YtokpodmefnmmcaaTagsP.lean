/- TagsParts: its walk. -/
import Derived.Test.YtokpodmefnmmcaaTagsB
namespace Go.Proofs.Ytokpodmefnmmcaa
open Go.RowKit
set_option linter.unusedVariables false

theorem tsetP_parts {zs : List Int} {f a b tag : Int} (hb : Bytes zs) (t0 : 0 ≤ tag) (t1 : tag < 16) (ha : 0 ≤ a) (hb0 : 0 ≤ b) : tsetP (tsetP zs f a tag) (f + a) b tag = tsetP zs f (a + b) tag := by
  apply list_ext (by rw [tsetP_len, tsetP_len, tsetP_len])
  intro k hk
  rw [tsetP_len, tsetP_len] at hk
  rw [tsetP_at (by rw [tsetP_len]; exact hk), tsetP_at hk, tsetP_at hk]
  have := hb k
  generalize zs.getD k 0 = z at *
  unfold hvLo hvHi
  by_cases h1 : f ≤ 2 * (k : Int) ∧ 2 * (k : Int) < f + a <;> by_cases h2 : f ≤ 2 * (k : Int) + 1 ∧ 2 * (k : Int) + 1 < f + a <;>
    by_cases h3 : f + a ≤ 2 * (k : Int) ∧ 2 * (k : Int) < f + a + b <;> by_cases h4 : f + a ≤ 2 * (k : Int) + 1 ∧ 2 * (k : Int) + 1 < f + a + b <;>
    by_cases h5 : f ≤ 2 * (k : Int) ∧ 2 * (k : Int) < f + (a + b) <;> by_cases h6 : f ≤ 2 * (k : Int) + 1 ∧ 2 * (k : Int) + 1 < f + (a + b) <;>
    simp only [h1, h2, h3, h4, h5, h6, if_true, if_false, true_and, and_self] <;> omega

set_option maxHeartbeats 4000000 in
theorem tagsParts_0 {w : World} (A : Option Addr) (len c : Nat) (zs : List Int) (hz : Row .u8 w w.heap.size A len zs) (hwf : Bytes zs) (hl : len ≤ 140737488355328) (f a b tag : Int) (fi : I64 f) (h : a < 0 ∨ b < 0 ∨ 1000 < a ∨ 1000 < b) :
    Calls Try.prog 14 #[.slice A len c, .int .i64 f, .int .i64 a, .int .i64 b, .int .i64 tag] w fun e w' => e = .returned (.bool true) ∧ Below w.heap.size w w' := by
  rcases h with h | h | h | h
  all_goals
    have HZ := Lib.hid hz
    have HB := Lib.hid hwf
    clear hz hwf
    go_enter Try.func14, Try.ntmps14
    go_wp2_with fail
    refine (alive3_any _).mono ?_
    rintro e w1 ⟨rfl, hb1⟩
    have hz1 := hb1.size
    have HZ1 := Lib.hid (HZ.out.below hb1)
    go_wp2
    all_goals go_ret
    all_goals exact ⟨rfl, (by repeat' first | exact Below.refl _ _ | refine Below.alloc ?_ ?_ _ | refine below_thru ?_ (by assumption) ?_ | omega | (simp; done) | (simp; omega))⟩

set_option maxHeartbeats 4000000 in
theorem tagsParts_A {w : World} (A : Option Addr) (len c : Nat) (zs : List Int) (hz : Row .u8 w w.heap.size A len zs) (hwf : Bytes zs) (hl : len ≤ 140737488355328) (f a b tag : Int) (fi : I64 f) (a0 : 0 ≤ a) (b0 : 0 ≤ b) (a1 : a ≤ 1000) (b1 : b ≤ 1000) (t0 : 0 ≤ tag) (t1 : tag < 16) (f0 : 0 ≤ f) (hs : f + a + b ≤ 2 * (len : Int)) (E1 : Hid (tsetE zs f (a + b) tag = 0 ∧ tsetL zs f (a + b) tag = tsetP zs f (a + b) tag)) (E2 : Hid (tsetE zs f a tag = 0 ∧ tsetL zs f a tag = tsetP zs f a tag)) (E3 : Hid (tsetE (tsetP zs f a tag) (f + a) b tag = 0 ∧ tsetL (tsetP zs f a tag) (f + a) b tag = tsetP zs f (a + b) tag)) :
    Calls Try.prog 14 #[.slice A len c, .int .i64 f, .int .i64 a, .int .i64 b, .int .i64 tag] w fun e w' => e = .returned (.bool true) ∧ Below w.heap.size w w' := by
  have HZ := Lib.hid hz
  have HB := Lib.hid hwf
  clear hz hwf
  go_enter Try.func14, Try.ntmps14
  go_wp2_with fail
  refine (alive3_any _).mono ?_
  rintro e w1 ⟨rfl, hb1⟩
  have hz1 := hb1.size
  have HZ1 := Lib.hid (HZ.out.below hb1)
  obtain ⟨fi1, fi2⟩ := fi
  have F1 := Lib.hid fi1
  clear fi1
  go_wp2_with fail
  refine (tset_any A len c zs f (a + b) tag _ w.heap.size HZ1.out HB.out hz1 hl fi2 (by omega)).mono ?_
  rintro e w2 ⟨A1, n1, c1, rfl, ho1, hb2⟩
  have hz2 := hb2.size
  have HZ2 := Lib.hid (HZ1.out.below (hb2.mono hz1))
  have HX := Lib.hid ho1.row
  clear ho1
  go_wp2_with fail
  refine (tset_any A len c zs f a tag _ w.heap.size HZ2.out HB.out (by omega) hl fi2 (by omega)).mono ?_
  rintro e w3 ⟨A2, n2, c2, rfl, ho2, hb3⟩
  have hz3 := hb3.size
  have hl2 := ho2.1
  have HX2 := Lib.hid (HX.out.below hb3)
  have HY := Lib.hid ho2.row
  clear ho2
  go_wp2_with fail
  rw [E2.out.2, tsetP_len] at hl2
  have hn2 : n2 = len := by rw [← hl2]; exact HZ.out.1
  clear hl2
  subst hn2
  rw [E2.out.2] at HY
  rw [E1.out.2] at HX2
  rw [E1.out.1, E2.out.1]
  refine (tset_any A2 n2 c2 (tsetP zs f a tag) (f + a) b tag _ _ HY.out (tsetP_bytes HB.out t0 t1) (Nat.le_refl _) hl (by omega) (by omega)).mono ?_
  rintro e w4 ⟨A3, n3, c3, rfl, ho3, hb4⟩
  have hz4 := hb4.size
  rw [E3.out.1]
  have HQ := Lib.hid ho3.row
  clear ho3
  rw [E3.out.2] at HQ
  have s1 := conv_row (c := c1) (HX2.out.below (hb4.mono (by omega)))
  have s2 := conv_row (c := c3) HQ.out
  go_wp2
  all_goals go_ret
  all_goals exact ⟨rfl, (by repeat' first | exact Below.refl _ _ | refine Below.alloc ?_ ?_ _ | refine below_thru ?_ (by assumption) ?_ | omega | (simp; done) | (simp; omega))⟩

set_option maxHeartbeats 4000000 in
theorem tagsParts_B {w : World} (A : Option Addr) (len c : Nat) (zs : List Int) (hz : Row .u8 w w.heap.size A len zs) (hwf : Bytes zs) (hl : len ≤ 140737488355328) (f a b tag : Int) (fi : I64 f) (a0 : 0 ≤ a) (b0 : 0 ≤ b) (a1 : a ≤ 1000) (b1 : b ≤ 1000) (E1 : Hid (tsetE zs f (a + b) tag = 2)) (E2 : Hid (tsetE zs f a tag = 2 ∧ tsetL zs f a tag = [])) :
    Calls Try.prog 14 #[.slice A len c, .int .i64 f, .int .i64 a, .int .i64 b, .int .i64 tag] w fun e w' => e = .returned (.bool true) ∧ Below w.heap.size w w' := by
  have HZ := Lib.hid hz
  have HB := Lib.hid hwf
  clear hz hwf
  go_enter Try.func14, Try.ntmps14
  go_wp2_with fail
  refine (alive3_any _).mono ?_
  rintro e w1 ⟨rfl, hb1⟩
  have hz1 := hb1.size
  have HZ1 := Lib.hid (HZ.out.below hb1)
  obtain ⟨fi1, fi2⟩ := fi
  have F1 := Lib.hid fi1
  clear fi1
  go_wp2_with fail
  refine (tset_any A len c zs f (a + b) tag _ w.heap.size HZ1.out HB.out hz1 hl fi2 (by omega)).mono ?_
  rintro e w2 ⟨A1, n1, c1, rfl, ho1, hb2⟩
  have hz2 := hb2.size
  have HZ2 := Lib.hid (HZ1.out.below (hb2.mono hz1))
  have HX := Lib.hid ho1.row
  clear ho1
  go_wp2_with fail
  refine (tset_any A len c zs f a tag _ w.heap.size HZ2.out HB.out (by omega) hl fi2 (by omega)).mono ?_
  rintro e w3 ⟨A2, n2, c2, rfl, ho2, hb3⟩
  have hz3 := hb3.size
  have hl2 := ho2.1
  have HX2 := Lib.hid (HX.out.below hb3)
  have HY := Lib.hid ho2.row
  clear ho2
  go_wp2_with fail
  rw [E2.out.2] at hl2
  simp at hl2
  subst hl2
  rw [E2.out.2] at HY
  rw [E1.out, E2.out.1]
  refine (tset_any A2 0 c2 [] _ b tag _ _ HY.out (fun i => by simp [List.getD]) (Nat.le_refl _) (by omega) (by first | omega | (unfold wrap64; omega)) (by omega)).mono ?_
  rintro e w4 ⟨A3, n3, c3, rfl, ho3, hb4⟩
  have hz4 := hb4.size
  clear ho3
  go_wp2
  all_goals go_ret
  all_goals exact ⟨rfl, (by repeat' first | exact Below.refl _ _ | refine Below.alloc ?_ ?_ _ | refine below_thru ?_ (by assumption) ?_ | omega | (simp; done) | (simp; omega))⟩

set_option maxHeartbeats 4000000 in
theorem tagsParts_C {w : World} (A : Option Addr) (len c : Nat) (zs : List Int) (hz : Row .u8 w w.heap.size A len zs) (hwf : Bytes zs) (hl : len ≤ 140737488355328) (f a b tag : Int) (fi : I64 f) (a0 : 0 ≤ a) (b0 : 0 ≤ b) (a1 : a ≤ 1000) (b1 : b ≤ 1000) (t0 : 0 ≤ tag) (t1 : tag < 16) (f0 : 0 ≤ f) (hs : f + a ≤ 2 * (len : Int)) (E1 : Hid (tsetE zs f (a + b) tag = 2)) (E2 : Hid (tsetE zs f a tag = 0 ∧ tsetL zs f a tag = tsetP zs f a tag)) (E3 : Hid (tsetE (tsetP zs f a tag) (f + a) b tag = 2)) :
    Calls Try.prog 14 #[.slice A len c, .int .i64 f, .int .i64 a, .int .i64 b, .int .i64 tag] w fun e w' => e = .returned (.bool true) ∧ Below w.heap.size w w' := by
  have HZ := Lib.hid hz
  have HB := Lib.hid hwf
  clear hz hwf
  go_enter Try.func14, Try.ntmps14
  go_wp2_with fail
  refine (alive3_any _).mono ?_
  rintro e w1 ⟨rfl, hb1⟩
  have hz1 := hb1.size
  have HZ1 := Lib.hid (HZ.out.below hb1)
  obtain ⟨fi1, fi2⟩ := fi
  have F1 := Lib.hid fi1
  clear fi1
  go_wp2_with fail
  refine (tset_any A len c zs f (a + b) tag _ w.heap.size HZ1.out HB.out hz1 hl fi2 (by omega)).mono ?_
  rintro e w2 ⟨A1, n1, c1, rfl, ho1, hb2⟩
  have hz2 := hb2.size
  have HZ2 := Lib.hid (HZ1.out.below (hb2.mono hz1))
  have HX := Lib.hid ho1.row
  clear ho1
  go_wp2_with fail
  refine (tset_any A len c zs f a tag _ w.heap.size HZ2.out HB.out (by omega) hl fi2 (by omega)).mono ?_
  rintro e w3 ⟨A2, n2, c2, rfl, ho2, hb3⟩
  have hz3 := hb3.size
  have hl2 := ho2.1
  have HX2 := Lib.hid (HX.out.below hb3)
  have HY := Lib.hid ho2.row
  clear ho2
  go_wp2_with fail
  rw [E2.out.2, tsetP_len] at hl2
  have hn2 : n2 = len := by rw [← hl2]; exact HZ.out.1
  clear hl2
  subst hn2
  rw [E2.out.2] at HY
  rw [E1.out, E2.out.1]
  refine (tset_any A2 n2 c2 (tsetP zs f a tag) (f + a) b tag _ _ HY.out (tsetP_bytes HB.out t0 t1) (Nat.le_refl _) hl (by omega) (by omega)).mono ?_
  rintro e w4 ⟨A3, n3, c3, rfl, ho3, hb4⟩
  have hz4 := hb4.size
  rw [E3.out]
  clear ho3
  go_wp2
  all_goals go_ret
  all_goals exact ⟨rfl, (by repeat' first | exact Below.refl _ _ | refine Below.alloc ?_ ?_ _ | refine below_thru ?_ (by assumption) ?_ | omega | (simp; done) | (simp; omega))⟩

theorem tagsParts_walk {w : World} (A : Option Addr) (len c : Nat) (zs : List Int) (hz : Row .u8 w w.heap.size A len zs) (hwf : ∀ z ∈ zs, (Lit.int .u8 z).wf = true) (hcap : len ≤ c) (_ : c ≤ maxLen) (hbig : c ≤ 140737488351232) (f : Int) (fi : I64 f) (a : Int) (_ : I64 a) (b : Int) (_ : I64 b) (tag : Int) (_ : I64 tag) :
    Calls Try.prog 14 #[.slice A len c, .int .i64 f, .int .i64 a, .int .i64 b, .int .i64 tag] w fun e w' => e = .returned (.bool true) ∧ Below w.heap.size w w' := by
  have hb := bytes_of_wf hwf
  have hl := hz.1
  by_cases h0 : a < 0 ∨ b < 0 ∨ 1000 < a ∨ 1000 < b
  · exact tagsParts_0 A len c zs hz hb (by omega) f a b tag fi h0
  · by_cases h : tag < 0 ∨ 15 < tag ∨ f < 0 ∨ a + b < 0 ∨ 2 * (zs.length : Int) < f + (a + b)
    · have e1 := tsetE_no h
      by_cases h2 : tag < 0 ∨ 15 < tag ∨ f < 0 ∨ a < 0 ∨ 2 * (zs.length : Int) < f + a
      · exact tagsParts_B A len c zs hz hb (by omega) f a b tag fi (by omega) (by omega) (by omega) (by omega) (Lib.hid e1.1) (Lib.hid (tsetE_no h2))
      · have e3 := tsetE_no (zs := tsetP zs f a tag) (f := f + a) (m := b) (tag := tag) (by rw [tsetP_len]; omega)
        exact tagsParts_C A len c zs hz hb (by omega) f a b tag fi (by omega) (by omega) (by omega) (by omega) (by omega) (by omega) (by omega) (by omega) (Lib.hid e1.1) (Lib.hid (tsetE_yes h2)) (Lib.hid e3.1)
    · have e2 := tsetE_yes (zs := zs) (f := f) (m := a) (tag := tag) (by omega)
      have e3 := tsetE_yes (zs := tsetP zs f a tag) (f := f + a) (m := b) (tag := tag) (by rw [tsetP_len]; omega)
      rw [tsetP_parts hb (by omega) (by omega) (by omega) (by omega)] at e3
      exact tagsParts_A A len c zs hz hb (by omega) f a b tag fi (by omega) (by omega) (by omega) (by omega) (by omega) (by omega) (by omega) (by omega) (Lib.hid (tsetE_yes h)) (Lib.hid e2) (Lib.hid e3)
end Go.Proofs.Ytokpodmefnmmcaa
