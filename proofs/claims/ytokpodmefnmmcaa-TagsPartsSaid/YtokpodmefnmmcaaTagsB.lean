/- alive3, TagsBack and TagsParts: their walks. -/
import Derived.Test.YtokpodmefnmmcaaTagsN
import Derived.Deep.RegionHeld3
namespace Go.Proofs.Ytokpodmefnmmcaa
open Go.RowKit
set_option linter.unusedVariables false

theorem bytes_of_wf {zs : List Int} (h : ∀ z ∈ zs, (Lit.int .u8 z).wf = true) : Bytes zs := by
  intro i
  by_cases hi : i < zs.length
  · rw [getD_get0 hi]
    have := h _ (List.getElem_mem hi)
    simp [Lit.wf, IntKind.min, IntKind.max, IntKind.signed, IntKind.bits] at this
    omega
  · have : zs.getD i 0 = 0 := by simp [List.getD, List.getElem?_eq_none (show zs.length ≤ i by omega)]
    rw [this]; omega
theorem tsetP_get {zs : List Int} {f m tag g : Int} (hb : Bytes zs) (t0 : 0 ≤ tag) (t1 : tag < 16) (g0 : 0 ≤ g) (g1 : g < 2 * (zs.length : Int)) :
    tgetV (tsetP zs f m tag) g = if f ≤ g ∧ g < f + m then tag else tgetV zs g := by
  obtain ⟨k, hk⟩ : ∃ k : Nat, g = 2 * (k : Int) ∨ g = 2 * (k : Int) + 1 := ⟨(g / 2).toNat, by omega⟩
  have hkl : k < zs.length := by omega
  have hbk := hb k
  rcases hk with rfl | rfl
  · rw [tgetV_lo (by rw [tsetP_len]; exact hkl), tgetV_lo hkl, tsetP_at hkl]
    unfold hvLo hvHi
    by_cases h1 : f ≤ 2 * (k : Int) ∧ 2 * (k : Int) < f + m <;> by_cases h2 : f ≤ 2 * (k : Int) + 1 ∧ 2 * (k : Int) + 1 < f + m
    · rw [if_pos h1, if_pos h2]; omega
    · rw [if_pos h1, if_neg h2]; omega
    · rw [if_neg h1, if_pos h2]; omega
    · rw [if_neg h1, if_neg h2]; omega
  · rw [tgetV_hi (by rw [tsetP_len]; exact hkl), tgetV_hi hkl, tsetP_at hkl]
    unfold hvLo hvHi
    by_cases h1 : f ≤ 2 * (k : Int) ∧ 2 * (k : Int) < f + m <;> by_cases h2 : f ≤ 2 * (k : Int) + 1 ∧ 2 * (k : Int) + 1 < f + m
    · rw [if_pos h1, if_pos h2]; omega
    · rw [if_pos h1, if_neg h2]; omega
    · rw [if_neg h1, if_pos h2]; omega
    · rw [if_neg h1, if_neg h2]; omega
theorem tsetP_E {zs : List Int} {f m tag g : Int} : tgetE (tsetP zs f m tag) g = tgetE zs g := by unfold tgetE; rw [tsetP_len]

set_option maxHeartbeats 1000000 in
theorem alive3_any (w : World) : Calls Try.prog 39 #[] w fun e w' => e = .returned (.bool true) ∧ Below w.heap.size w w' := by
  have e5 : newLen 5 = 3 := by decide
  have b0 : Bytes (List.replicate 3 0) := fun i => by
    have : (List.replicate 3 (0 : Int)).getD i 0 = 0 := by
      rcases Nat.lt_or_ge i 3 with h | h
      · have : i = 0 ∨ i = 1 ∨ i = 2 := by omega
        rcases this with rfl | rfl | rfl <;> rfl
      · simp [List.getD, h]
    rw [this]; omega
  have l1 : tsetE (List.replicate 3 0) 1 2 9 = 0 := by decide
  have l2 : tsetL (List.replicate 3 0) 1 2 9 = [144, 9, 0] := by decide
  have l3 : tgetV [144, 9, 0] 2 = 9 := by decide
  have l4 : tgetE [144, 9, 0] 2 = 0 := by decide
  have l5 : strOfNums [144, 9, 0] = ⟨#[144, 9, 0]⟩ := by decide
  have HB := Lib.hid b0
  clear b0
  go_enter Try.func39, Try.ntmps39
  go_wp2_with fail
  refine (tnew_any 5 _).mono ?_
  rintro e w1 ⟨rfl, rfl⟩
  have hr := tnew_row 5 w
  rw [e5] at hr
  have HR := Lib.hid hr
  clear hr
  rw [e5]
  go_wp2_with fail
  refine (tset_any _ 3 3 (List.replicate 3 0) 1 2 9 _ _ HR.out HB.out (by simp) (by omega) (by omega) (by omega)).mono ?_
  rintro e w2 ⟨A1, n1, c1, rfl, ho1, hb1⟩
  rw [l1]
  rw [l2] at ho1
  have HX := Lib.hid ho1.row
  have hn1 : n1 = 3 := by have := ho1.1; simp at this; omega
  subst hn1
  clear ho1
  have s1 := conv_row (c := c1) HX.out
  rw [l5] at s1
  have B2 : Bytes [144, 9, 0] := fun i => by
    rcases Nat.lt_or_ge i 3 with h | h
    · have : i = 0 ∨ i = 1 ∨ i = 2 := by omega
      rcases this with rfl | rfl | rfl <;> decide
    · have : ([144, 9, 0] : List Int).getD i 0 = 0 := by simp [List.getD, h]
      rw [this]; omega
  have HB2 := Lib.hid B2
  clear B2
  go_wp2_with fail
  refine (tget_any A1 3 c1 [144, 9, 0] 2 _ _ HX.out HB2.out (Nat.le_refl _) (by omega)).mono ?_
  rintro e w3 ⟨rfl, hw3⟩
  rw [hw3, l3, l4]
  clear hw3
  go_wp2
  go_ret
  exact ⟨rfl, (by repeat' first | exact Below.refl _ _ | refine Below.alloc ?_ ?_ _ | refine below_thru ?_ (by assumption) ?_ | omega | (simp; done) | (simp; omega))⟩
/-! laws -/
set_option maxHeartbeats 4000000 in
theorem tagsBack_1 {w : World} (A : Option Addr) (len c : Nat) (zs : List Int) (hz : Row .u8 w w.heap.size A len zs) (hwf : Bytes zs) (hl : len ≤ 140737488355328) (f m tag g : Int) (fi : f ≤ 9223372036854775807) (mi : m ≤ 9223372036854775807) (LE : Hid (tsetE zs f m tag = 2)) (LL : Hid (tsetL zs f m tag = [])) :
    Calls Try.prog 13 #[.slice A len c, .int .i64 f, .int .i64 m, .int .i64 tag, .int .i64 g] w fun e w' => e = .returned (.bool true) ∧ Below w.heap.size w w' := by
  have HZ := Lib.hid hz
  have HB := Lib.hid hwf
  clear hz hwf
  go_enter Try.func13, Try.ntmps13
  go_wp2_with fail
  refine (alive3_any _).mono ?_
  rintro e w1 ⟨rfl, hb1⟩
  have hz1 := hb1.size
  have HZ1 := Lib.hid (HZ.out.below hb1)
  go_wp2_with fail
  refine (tset_any A len c zs f m tag _ w.heap.size HZ1.out HB.out hz1 hl fi mi).mono ?_
  rintro e w2 ⟨A1, n1, c1, rfl, ho1, hb2⟩
  have hz2 := hb2.size
  have HZ2 := Lib.hid (HZ1.out.below (hb2.mono hz1))
  have hn1 : n1 = (tsetL zs f m tag).length := ho1.1.symm
  have HX := Lib.hid ho1.row
  clear ho1
  rw [LE.out]
  rw [LL.out] at hn1
  simp at hn1
  subst hn1
  go_wp2
  go_ret
  exact ⟨rfl, (by repeat' first | exact Below.refl _ _ | refine Below.alloc ?_ ?_ _ | refine below_thru ?_ (by assumption) ?_ | omega | (simp; done) | (simp; omega))⟩

set_option maxHeartbeats 4000000 in
theorem tagsBack_2 {w : World} (A : Option Addr) (len c : Nat) (zs : List Int) (hz : Row .u8 w w.heap.size A len zs) (hwf : Bytes zs) (hl : len ≤ 140737488355328) (f m tag g : Int) (fi : f ≤ 9223372036854775807) (mi : m ≤ 9223372036854775807) (LE : Hid (tsetE zs f m tag = 0)) (LL : Hid (tsetL zs f m tag = tsetP zs f m tag)) (t0 : 0 ≤ tag) (t1 : tag < 16) (f0 : 0 ≤ f) (m0 : 0 ≤ m) (hs : f + m ≤ 2 * (len : Int)) (GE : Hid (tgetE (tsetP zs f m tag) g = tgetE zs g)) (GV : Hid (tgetV (tsetP zs f m tag) g = tag)) (g1 : f ≤ g) (g2 : g < f + m) :
    Calls Try.prog 13 #[.slice A len c, .int .i64 f, .int .i64 m, .int .i64 tag, .int .i64 g] w fun e w' => e = .returned (.bool true) ∧ Below w.heap.size w w' := by
  have HZ := Lib.hid hz
  have HB := Lib.hid hwf
  clear hz hwf
  go_enter Try.func13, Try.ntmps13
  go_wp2_with fail
  refine (alive3_any _).mono ?_
  rintro e w1 ⟨rfl, hb1⟩
  have hz1 := hb1.size
  have HZ1 := Lib.hid (HZ.out.below hb1)
  go_wp2_with fail
  refine (tset_any A len c zs f m tag _ w.heap.size HZ1.out HB.out hz1 hl fi mi).mono ?_
  rintro e w2 ⟨A1, n1, c1, rfl, ho1, hb2⟩
  have hz2 := hb2.size
  have HZ2 := Lib.hid (HZ1.out.below (hb2.mono hz1))
  have hn1 : n1 = (tsetL zs f m tag).length := ho1.1.symm
  have HX := Lib.hid ho1.row
  clear ho1
  rw [LE.out]
  rw [LL.out, tsetP_len] at hn1
  have hn2 : n1 = len := by rw [hn1]; exact HZ.out.1
  clear hn1
  subst hn2
  rw [LL.out] at HX
  go_wp2_with fail
  refine (tget_any A1 n1 c1 (tsetP zs f m tag) g _ _ HX.out (tsetP_bytes HB.out t0 t1) (Nat.le_refl _) hl).mono ?_
  rintro e w3 ⟨rfl, hw3⟩
  rw [hw3, GE.out, GV.out]
  clear hw3
  go_wp2_with fail
  refine (tget_any A n1 c zs g _ w.heap.size HZ2.out HB.out (by omega) hl).mono ?_
  rintro e w4 ⟨rfl, hw4⟩
  rw [hw4]
  clear hw4
  go_wp2
  go_ret
  exact ⟨rfl, (by repeat' first | exact Below.refl _ _ | refine Below.alloc ?_ ?_ _ | refine below_thru ?_ (by assumption) ?_ | omega | (simp; done) | (simp; omega))⟩

set_option maxHeartbeats 4000000 in
theorem tagsBack_3 {w : World} (A : Option Addr) (len c : Nat) (zs : List Int) (hz : Row .u8 w w.heap.size A len zs) (hwf : Bytes zs) (hl : len ≤ 140737488355328) (f m tag g : Int) (fi : f ≤ 9223372036854775807) (mi : m ≤ 9223372036854775807) (LE : Hid (tsetE zs f m tag = 0)) (LL : Hid (tsetL zs f m tag = tsetP zs f m tag)) (t0 : 0 ≤ tag) (t1 : tag < 16) (f0 : 0 ≤ f) (m0 : 0 ≤ m) (hs : f + m ≤ 2 * (len : Int)) (GE : Hid (tgetE (tsetP zs f m tag) g = tgetE zs g)) (GV : Hid (tgetV (tsetP zs f m tag) g = tgetV zs g)) (g1 : g < f) :
    Calls Try.prog 13 #[.slice A len c, .int .i64 f, .int .i64 m, .int .i64 tag, .int .i64 g] w fun e w' => e = .returned (.bool true) ∧ Below w.heap.size w w' := by
  have HZ := Lib.hid hz
  have HB := Lib.hid hwf
  clear hz hwf
  go_enter Try.func13, Try.ntmps13
  go_wp2_with fail
  refine (alive3_any _).mono ?_
  rintro e w1 ⟨rfl, hb1⟩
  have hz1 := hb1.size
  have HZ1 := Lib.hid (HZ.out.below hb1)
  go_wp2_with fail
  refine (tset_any A len c zs f m tag _ w.heap.size HZ1.out HB.out hz1 hl fi mi).mono ?_
  rintro e w2 ⟨A1, n1, c1, rfl, ho1, hb2⟩
  have hz2 := hb2.size
  have HZ2 := Lib.hid (HZ1.out.below (hb2.mono hz1))
  have hn1 : n1 = (tsetL zs f m tag).length := ho1.1.symm
  have HX := Lib.hid ho1.row
  clear ho1
  rw [LE.out]
  rw [LL.out, tsetP_len] at hn1
  have hn2 : n1 = len := by rw [hn1]; exact HZ.out.1
  clear hn1
  subst hn2
  rw [LL.out] at HX
  go_wp2_with fail
  refine (tget_any A1 n1 c1 (tsetP zs f m tag) g _ _ HX.out (tsetP_bytes HB.out t0 t1) (Nat.le_refl _) hl).mono ?_
  rintro e w3 ⟨rfl, hw3⟩
  rw [hw3, GE.out, GV.out]
  clear hw3
  go_wp2_with fail
  refine (tget_any A n1 c zs g _ w.heap.size HZ2.out HB.out (by omega) hl).mono ?_
  rintro e w4 ⟨rfl, hw4⟩
  rw [hw4]
  clear hw4
  go_wp2
  go_ret
  exact ⟨rfl, (by repeat' first | exact Below.refl _ _ | refine Below.alloc ?_ ?_ _ | refine below_thru ?_ (by assumption) ?_ | omega | (simp; done) | (simp; omega))⟩

set_option maxHeartbeats 4000000 in
theorem tagsBack_4 {w : World} (A : Option Addr) (len c : Nat) (zs : List Int) (hz : Row .u8 w w.heap.size A len zs) (hwf : Bytes zs) (hl : len ≤ 140737488355328) (f m tag g : Int) (fi : f ≤ 9223372036854775807) (mi : m ≤ 9223372036854775807) (LE : Hid (tsetE zs f m tag = 0)) (LL : Hid (tsetL zs f m tag = tsetP zs f m tag)) (t0 : 0 ≤ tag) (t1 : tag < 16) (f0 : 0 ≤ f) (m0 : 0 ≤ m) (hs : f + m ≤ 2 * (len : Int)) (GE : Hid (tgetE (tsetP zs f m tag) g = tgetE zs g)) (GV : Hid (tgetV (tsetP zs f m tag) g = tgetV zs g)) (g1 : f ≤ g) (g2 : f + m ≤ g) :
    Calls Try.prog 13 #[.slice A len c, .int .i64 f, .int .i64 m, .int .i64 tag, .int .i64 g] w fun e w' => e = .returned (.bool true) ∧ Below w.heap.size w w' := by
  have HZ := Lib.hid hz
  have HB := Lib.hid hwf
  clear hz hwf
  go_enter Try.func13, Try.ntmps13
  go_wp2_with fail
  refine (alive3_any _).mono ?_
  rintro e w1 ⟨rfl, hb1⟩
  have hz1 := hb1.size
  have HZ1 := Lib.hid (HZ.out.below hb1)
  go_wp2_with fail
  refine (tset_any A len c zs f m tag _ w.heap.size HZ1.out HB.out hz1 hl fi mi).mono ?_
  rintro e w2 ⟨A1, n1, c1, rfl, ho1, hb2⟩
  have hz2 := hb2.size
  have HZ2 := Lib.hid (HZ1.out.below (hb2.mono hz1))
  have hn1 : n1 = (tsetL zs f m tag).length := ho1.1.symm
  have HX := Lib.hid ho1.row
  clear ho1
  rw [LE.out]
  rw [LL.out, tsetP_len] at hn1
  have hn2 : n1 = len := by rw [hn1]; exact HZ.out.1
  clear hn1
  subst hn2
  rw [LL.out] at HX
  go_wp2_with fail
  refine (tget_any A1 n1 c1 (tsetP zs f m tag) g _ _ HX.out (tsetP_bytes HB.out t0 t1) (Nat.le_refl _) hl).mono ?_
  rintro e w3 ⟨rfl, hw3⟩
  rw [hw3, GE.out, GV.out]
  clear hw3
  go_wp2_with fail
  refine (tget_any A n1 c zs g _ w.heap.size HZ2.out HB.out (by omega) hl).mono ?_
  rintro e w4 ⟨rfl, hw4⟩
  rw [hw4]
  clear hw4
  go_wp2
  go_ret
  exact ⟨rfl, (by repeat' first | exact Below.refl _ _ | refine Below.alloc ?_ ?_ _ | refine below_thru ?_ (by assumption) ?_ | omega | (simp; done) | (simp; omega))⟩

theorem tagsBack_walk {w : World} (A : Option Addr) (len c : Nat) (zs : List Int) (hz : Row .u8 w w.heap.size A len zs) (hwf : ∀ z ∈ zs, (Lit.int .u8 z).wf = true) (hcap : len ≤ c) (_ : c ≤ maxLen) (hbig : c ≤ 140737488351232) (f : Int) (fi : I64 f) (m : Int) (mi : I64 m) (tag : Int) (_ : I64 tag) (g : Int) (gi : I64 g) :
    Calls Try.prog 13 #[.slice A len c, .int .i64 f, .int .i64 m, .int .i64 tag, .int .i64 g] w fun e w' => e = .returned (.bool true) ∧ Below w.heap.size w w' := by
  have hb := bytes_of_wf hwf
  have hl := hz.1
  by_cases h : tag < 0 ∨ 15 < tag ∨ f < 0 ∨ m < 0 ∨ 2 * (zs.length : Int) < f + m
  · obtain ⟨h1, h2⟩ := tsetE_no h
    exact tagsBack_1 A len c zs hz hb (by omega) f m tag g fi.2 mi.2 (Lib.hid h1) (Lib.hid h2)
  · obtain ⟨h1, h2⟩ := tsetE_yes h
    have ge := tsetP_E (zs := zs) (f := f) (m := m) (tag := tag) (g := g)
    by_cases i1 : g < f
    · have gv : tgetV (tsetP zs f m tag) g = tgetV zs g := by
        by_cases r : g < 0 ∨ 2 * (zs.length : Int) ≤ g
        · unfold tgetV; rw [tsetP_len, if_pos r, if_pos r]
        · rw [tsetP_get hb (by omega) (by omega) (by omega) (by omega), if_neg (by omega)]
      exact tagsBack_3 A len c zs hz hb (by omega) f m tag g fi.2 mi.2 (Lib.hid h1) (Lib.hid h2) (by omega) (by omega) (by omega) (by omega) (by omega) (Lib.hid ge) (Lib.hid gv) i1
    · by_cases i2 : g < f + m
      · have gv : tgetV (tsetP zs f m tag) g = tag := by
          rw [tsetP_get hb (by omega) (by omega) (by omega) (by omega), if_pos (by omega)]
        exact tagsBack_2 A len c zs hz hb (by omega) f m tag g fi.2 mi.2 (Lib.hid h1) (Lib.hid h2) (by omega) (by omega) (by omega) (by omega) (by omega) (Lib.hid ge) (Lib.hid gv) (by omega) i2
      · have gv : tgetV (tsetP zs f m tag) g = tgetV zs g := by
          by_cases r : g < 0 ∨ 2 * (zs.length : Int) ≤ g
          · unfold tgetV; rw [tsetP_len, if_pos r, if_pos r]
          · rw [tsetP_get hb (by omega) (by omega) (by omega) (by omega), if_neg (by omega)]
        exact tagsBack_4 A len c zs hz hb (by omega) f m tag g fi.2 mi.2 (Lib.hid h1) (Lib.hid h2) (by omega) (by omega) (by omega) (by omega) (by omega) (Lib.hid ge) (Lib.hid gv) (by omega) (by omega)
end Go.Proofs.Ytokpodmefnmmcaa
