/- RamBack: its walk. -/
import Derived.Test.YtidfngplhjegpaaRamK
namespace Go.Proofs.Ytidfngplhjegpaa
open Go.RowKit Go.Sort
set_option linter.unusedVariables false
theorem rputL_yes {zs : List Int} {a m : Nat} {v : Int} (h1 : 1 ≤ m) (h4 : m ≤ 4) (h : a + m ≤ zs.length) : rgetE zs a m = 0 ∧ rputL zs a m v = putN zs a v m := by
  have e2 : rgetE zs a m = 0 := by unfold rgetE; rw [if_neg (by omega)]
  exact ⟨e2, by unfold rputL; rw [if_pos e2, Int.toNat_natCast, Int.toNat_natCast]⟩
theorem rgetV_yes {zs : List Int} {a m : Nat} (h1 : 1 ≤ m) (h4 : m ≤ 4) (h : a + m ≤ zs.length) : rgetE zs a m = 0 ∧ rgetV zs a m = num zs a m :=
  ⟨by unfold rgetE; rw [if_neg (by omega)], by unfold rgetV; rw [if_neg (by omega), Int.toNat_natCast, Int.toNat_natCast]⟩

set_option maxHeartbeats 4000000 in
theorem ramBack_0 {w : World} (A : Option Addr) (len c : Nat) (zs : List Int) (hz : Row .u8 w w.heap.size A len zs) (hwf : Bytes zs) (hl : len ≤ 140737488355328) (p n v q k : Int) (LE : Hid (rgetE zs p n = 2)) (LL : Hid (rputL zs p n v = [])) :
    Calls Try.prog 3 #[.slice A len c, .int .i64 p, .int .i64 n, .int .i64 v, .int .i64 q, .int .i64 k] w fun e w' => e = .returned (.bool true) ∧ Below w.heap.size w w' := by
  have HZ := Lib.hid hz
  have HB := Lib.hid hwf
  clear hz hwf
  go_enter Try.func3, Try.ntmps3
  go_wp2_with fail
  refine (alive1_any _).mono ?_
  rintro e w1 ⟨rfl, hb1⟩
  have hz1 := hb1.size
  have HZ1 := Lib.hid (HZ.out.below hb1)
  go_wp2_with fail
  refine (rPut_any A len c zs p n v _ w.heap.size HZ1.out hz1 hl).mono ?_
  rintro e w2 ⟨A1, n1, c1, rfl, ho1, hb2⟩
  have hn1 : n1 = (rputL zs p n v).length := ho1.1.symm
  clear ho1
  rw [LE.out]
  rw [LL.out] at hn1
  simp at hn1
  subst hn1
  go_wp2
  go_ret
  exact ⟨rfl, (by repeat' first | exact Below.refl _ _ | refine Below.alloc ?_ ?_ _ | refine below_thru ?_ (by assumption) ?_ | omega | (simp; done) | (simp; omega))⟩

set_option maxHeartbeats 4000000 in
theorem ramBack_out_1 {w : World} (A : Option Addr) (len c : Nat) (zs : List Int) (hz : Row .u8 w w.heap.size A len zs) (hwf : Bytes zs) (hl : len ≤ 140737488355328) (a : Nat) (v : Int) (q k : Int) (ha : a + 1 ≤ len) (h : k < 1 ∨ 4 < k ∨ q < 0 ∨ (1 ≤ k ∧ k ≤ 4 ∧ 0 ≤ q ∧ (len : Int) - k < q) ∨ (1 ≤ k ∧ k ≤ 4 ∧ 0 ≤ q ∧ q ≤ (len : Int) - k ∧ q < (a : Int) + 1 ∧ (a : Int) < q + k)) :
    Calls Try.prog 3 #[.slice A len c, .int .i64 a, .int .i64 1, .int .i64 v, .int .i64 q, .int .i64 k] w fun e w' => e = .returned (.bool true) ∧ Below w.heap.size w w' := by
  have hlen := hz.1
  obtain ⟨le, ll⟩ := rputL_yes (zs := zs) (a := a) (m := 1) (v := v) (by omega) (by omega) (by omega)
  obtain ⟨ge, gv⟩ := rgetV_yes (zs := putN zs a v 1) (a := a) (m := 1) (by omega) (by omega) (by rw [putN_len]; omega)
  have gn := num_put (zs := zs) (a := a) (m := 1) (v := v) (by omega) (by omega)
  have LE : Hid (rgetE zs a 1 = 0) := Lib.hid le
  have LL : Hid (rputL zs a 1 v = putN zs a v 1) := Lib.hid ll
  have GE : Hid (rgetE (putN zs a v 1) a 1 = 0) := Lib.hid ge
  have GV : Hid (rgetV (putN zs a v 1) a 1 = v % 256) := Lib.hid (gv.trans gn)
  have HLN := Lib.hid hlen
  clear le ll ge gv gn hlen
  have k1 : IntKind.i64.wrap ((IntKind.u64.wrap v).tmod 256) = v % 256 := by
    have h1 : IntKind.u64.wrap v = v % 18446744073709551616 := rfl
    rw [h1, Int.tmod_eq_emod_of_nonneg (by omega), IntKind.wrap_i64]; omega
  have HZ := Lib.hid hz
  have HB := Lib.hid hwf
  clear hz hwf
  go_enter Try.func3, Try.ntmps3
  go_wp2_with fail
  refine (alive1_any _).mono ?_
  rintro e w1 ⟨rfl, hb1⟩
  have hz1 := hb1.size
  have HZ1 := Lib.hid (HZ.out.below hb1)
  go_wp2_with fail
  refine (rPut_any A len c zs a 1 v _ w.heap.size HZ1.out hz1 hl).mono ?_
  rintro e w2 ⟨A1, n1, c1, rfl, ho1, hb2⟩
  rw [LE.out]
  rw [LL.out] at ho1
  have hn1 : n1 = len := by have := ho1.1; rw [putN_len, HLN.out] at this; exact this.symm
  subst hn1
  have HO := Lib.hid ho1.row
  have hz2 := hb2.size
  have HB2 := Lib.hid (putN_bytes HB.out a v 1)
  clear ho1
  go_wp2_with fail
  refine (rget_any A1 _ c1 (putN zs a v 1) a 1 _ _ HO.out HB2.out hl).mono ?_
  rintro e w3 ⟨rfl, hw3⟩
  rw [hw3, GE.out, GV.out]
  clear hw3
  rcases h with h | h | h | ⟨h1, h2, h3, h4⟩ | ⟨h1, h2, h3, h4, h5, h6⟩
  all_goals
    go_wp2
    all_goals go_ret
    all_goals exact ⟨rfl, (by repeat' first | exact Below.refl _ _ | refine Below.alloc ?_ ?_ _ | refine below_thru ?_ (by assumption) ?_ | omega | (simp; done) | (simp; omega))⟩

set_option maxHeartbeats 4000000 in
theorem ramBack_in_1 {w : World} (A : Option Addr) (len c : Nat) (zs : List Int) (hz : Row .u8 w w.heap.size A len zs) (hwf : Bytes zs) (hl : len ≤ 140737488355328) (a : Nat) (v : Int) (q k : Int) (ha : a + 1 ≤ len) (h1 : 1 ≤ k) (h2 : k ≤ 4) (h3 : 0 ≤ q) (h4 : q ≤ (len : Int) - k) (h5 : q + k ≤ (a : Int) ∨ (a : Int) + 1 ≤ q) :
    Calls Try.prog 3 #[.slice A len c, .int .i64 a, .int .i64 1, .int .i64 v, .int .i64 q, .int .i64 k] w fun e w' => e = .returned (.bool true) ∧ Below w.heap.size w w' := by
  have hlen := hz.1
  obtain ⟨le, ll⟩ := rputL_yes (zs := zs) (a := a) (m := 1) (v := v) (by omega) (by omega) (by omega)
  obtain ⟨ge, gv⟩ := rgetV_yes (zs := putN zs a v 1) (a := a) (m := 1) (by omega) (by omega) (by rw [putN_len]; omega)
  have gn := num_put (zs := zs) (a := a) (m := 1) (v := v) (by omega) (by omega)
  have LE : Hid (rgetE zs a 1 = 0) := Lib.hid le
  have LL : Hid (rputL zs a 1 v = putN zs a v 1) := Lib.hid ll
  have GE : Hid (rgetE (putN zs a v 1) a 1 = 0) := Lib.hid ge
  have GV : Hid (rgetV (putN zs a v 1) a 1 = v % 256) := Lib.hid (gv.trans gn)
  have HLN := Lib.hid hlen
  clear le ll ge gv gn hlen
  have k1 : IntKind.i64.wrap ((IntKind.u64.wrap v).tmod 256) = v % 256 := by
    have h1 : IntKind.u64.wrap v = v % 18446744073709551616 := rfl
    rw [h1, Int.tmod_eq_emod_of_nonneg (by omega), IntKind.wrap_i64]; omega
  have HZ := Lib.hid hz
  have HB := Lib.hid hwf
  clear hz hwf
  go_enter Try.func3, Try.ntmps3
  go_wp2_with fail
  refine (alive1_any _).mono ?_
  rintro e w1 ⟨rfl, hb1⟩
  have hz1 := hb1.size
  have HZ1 := Lib.hid (HZ.out.below hb1)
  go_wp2_with fail
  refine (rPut_any A len c zs a 1 v _ w.heap.size HZ1.out hz1 hl).mono ?_
  rintro e w2 ⟨A1, n1, c1, rfl, ho1, hb2⟩
  rw [LE.out]
  rw [LL.out] at ho1
  have hn1 : n1 = len := by have := ho1.1; rw [putN_len, HLN.out] at this; exact this.symm
  subst hn1
  have HO := Lib.hid ho1.row
  have hz2 := hb2.size
  have HB2 := Lib.hid (putN_bytes HB.out a v 1)
  clear ho1
  go_wp2_with fail
  refine (rget_any A1 _ c1 (putN zs a v 1) a 1 _ _ HO.out HB2.out hl).mono ?_
  rintro e w3 ⟨rfl, hw3⟩
  rw [hw3, GE.out, GV.out]
  clear hw3
  have HS : Hid (rgetV (putN zs a v 1) q k = rgetV zs q k ∧ rgetE zs q k = 0 ∧ rgetE (putN zs a v 1) q k = 0) := by
    have hlen := HLN.out
    obtain ⟨q, rfl⟩ := Int.eq_ofNat_of_zero_le h3
    obtain ⟨k, rfl⟩ := Int.eq_ofNat_of_zero_le (show 0 ≤ k by omega)
    obtain ⟨g1, g2⟩ := rgetV_yes (zs := zs) (a := q) (m := k) (by omega) (by omega) (by omega)
    obtain ⟨g3, g4⟩ := rgetV_yes (zs := putN zs a v 1) (a := q) (m := k) (by omega) (by omega) (by rw [putN_len]; omega)
    exact Lib.hid ⟨by rw [g2, g4]; exact num_apart (by omega) (by omega), g1, g3⟩
  rcases h5 with h5 | h5
  all_goals
    go_wp2_with fail
    refine (rget_any A _ c zs q k _ w.heap.size (HZ1.out.below (hb2.mono hz1)) HB.out hl).mono ?_
    rintro e w3 ⟨rfl, hw3⟩
    rw [hw3, HS.out.2.1]
    clear hw3
    go_wp2_with fail
    refine (rget_any A1 _ c1 (putN zs a v 1) q k _ _ HO.out HB2.out hl).mono ?_
    rintro e w3 ⟨rfl, hw3⟩
    rw [hw3, HS.out.2.2, HS.out.1]
    clear hw3
    go_wp2
    go_ret
    exact ⟨rfl, (by repeat' first | exact Below.refl _ _ | refine Below.alloc ?_ ?_ _ | refine below_thru ?_ (by assumption) ?_ | omega | (simp; done) | (simp; omega))⟩

set_option maxHeartbeats 4000000 in
theorem ramBack_out_2 {w : World} (A : Option Addr) (len c : Nat) (zs : List Int) (hz : Row .u8 w w.heap.size A len zs) (hwf : Bytes zs) (hl : len ≤ 140737488355328) (a : Nat) (v : Int) (q k : Int) (ha : a + 2 ≤ len) (h : k < 1 ∨ 4 < k ∨ q < 0 ∨ (1 ≤ k ∧ k ≤ 4 ∧ 0 ≤ q ∧ (len : Int) - k < q) ∨ (1 ≤ k ∧ k ≤ 4 ∧ 0 ≤ q ∧ q ≤ (len : Int) - k ∧ q < (a : Int) + 2 ∧ (a : Int) < q + k)) :
    Calls Try.prog 3 #[.slice A len c, .int .i64 a, .int .i64 2, .int .i64 v, .int .i64 q, .int .i64 k] w fun e w' => e = .returned (.bool true) ∧ Below w.heap.size w w' := by
  have hlen := hz.1
  obtain ⟨le, ll⟩ := rputL_yes (zs := zs) (a := a) (m := 2) (v := v) (by omega) (by omega) (by omega)
  obtain ⟨ge, gv⟩ := rgetV_yes (zs := putN zs a v 2) (a := a) (m := 2) (by omega) (by omega) (by rw [putN_len]; omega)
  have gn := num_put (zs := zs) (a := a) (m := 2) (v := v) (by omega) (by omega)
  have LE : Hid (rgetE zs a 2 = 0) := Lib.hid le
  have LL : Hid (rputL zs a 2 v = putN zs a v 2) := Lib.hid ll
  have GE : Hid (rgetE (putN zs a v 2) a 2 = 0) := Lib.hid ge
  have GV : Hid (rgetV (putN zs a v 2) a 2 = v % 65536) := Lib.hid (gv.trans gn)
  have HLN := Lib.hid hlen
  clear le ll ge gv gn hlen
  have k1 : IntKind.i64.wrap ((IntKind.u64.wrap v).tmod 65536) = v % 65536 := by
    have h1 : IntKind.u64.wrap v = v % 18446744073709551616 := rfl
    rw [h1, Int.tmod_eq_emod_of_nonneg (by omega), IntKind.wrap_i64]; omega
  have HZ := Lib.hid hz
  have HB := Lib.hid hwf
  clear hz hwf
  go_enter Try.func3, Try.ntmps3
  go_wp2_with fail
  refine (alive1_any _).mono ?_
  rintro e w1 ⟨rfl, hb1⟩
  have hz1 := hb1.size
  have HZ1 := Lib.hid (HZ.out.below hb1)
  go_wp2_with fail
  refine (rPut_any A len c zs a 2 v _ w.heap.size HZ1.out hz1 hl).mono ?_
  rintro e w2 ⟨A1, n1, c1, rfl, ho1, hb2⟩
  rw [LE.out]
  rw [LL.out] at ho1
  have hn1 : n1 = len := by have := ho1.1; rw [putN_len, HLN.out] at this; exact this.symm
  subst hn1
  have HO := Lib.hid ho1.row
  have hz2 := hb2.size
  have HB2 := Lib.hid (putN_bytes HB.out a v 2)
  clear ho1
  go_wp2_with fail
  refine (rget_any A1 _ c1 (putN zs a v 2) a 2 _ _ HO.out HB2.out hl).mono ?_
  rintro e w3 ⟨rfl, hw3⟩
  rw [hw3, GE.out, GV.out]
  clear hw3
  rcases h with h | h | h | ⟨h1, h2, h3, h4⟩ | ⟨h1, h2, h3, h4, h5, h6⟩
  all_goals
    go_wp2
    all_goals go_ret
    all_goals exact ⟨rfl, (by repeat' first | exact Below.refl _ _ | refine Below.alloc ?_ ?_ _ | refine below_thru ?_ (by assumption) ?_ | omega | (simp; done) | (simp; omega))⟩

set_option maxHeartbeats 4000000 in
theorem ramBack_in_2 {w : World} (A : Option Addr) (len c : Nat) (zs : List Int) (hz : Row .u8 w w.heap.size A len zs) (hwf : Bytes zs) (hl : len ≤ 140737488355328) (a : Nat) (v : Int) (q k : Int) (ha : a + 2 ≤ len) (h1 : 1 ≤ k) (h2 : k ≤ 4) (h3 : 0 ≤ q) (h4 : q ≤ (len : Int) - k) (h5 : q + k ≤ (a : Int) ∨ (a : Int) + 2 ≤ q) :
    Calls Try.prog 3 #[.slice A len c, .int .i64 a, .int .i64 2, .int .i64 v, .int .i64 q, .int .i64 k] w fun e w' => e = .returned (.bool true) ∧ Below w.heap.size w w' := by
  have hlen := hz.1
  obtain ⟨le, ll⟩ := rputL_yes (zs := zs) (a := a) (m := 2) (v := v) (by omega) (by omega) (by omega)
  obtain ⟨ge, gv⟩ := rgetV_yes (zs := putN zs a v 2) (a := a) (m := 2) (by omega) (by omega) (by rw [putN_len]; omega)
  have gn := num_put (zs := zs) (a := a) (m := 2) (v := v) (by omega) (by omega)
  have LE : Hid (rgetE zs a 2 = 0) := Lib.hid le
  have LL : Hid (rputL zs a 2 v = putN zs a v 2) := Lib.hid ll
  have GE : Hid (rgetE (putN zs a v 2) a 2 = 0) := Lib.hid ge
  have GV : Hid (rgetV (putN zs a v 2) a 2 = v % 65536) := Lib.hid (gv.trans gn)
  have HLN := Lib.hid hlen
  clear le ll ge gv gn hlen
  have k1 : IntKind.i64.wrap ((IntKind.u64.wrap v).tmod 65536) = v % 65536 := by
    have h1 : IntKind.u64.wrap v = v % 18446744073709551616 := rfl
    rw [h1, Int.tmod_eq_emod_of_nonneg (by omega), IntKind.wrap_i64]; omega
  have HZ := Lib.hid hz
  have HB := Lib.hid hwf
  clear hz hwf
  go_enter Try.func3, Try.ntmps3
  go_wp2_with fail
  refine (alive1_any _).mono ?_
  rintro e w1 ⟨rfl, hb1⟩
  have hz1 := hb1.size
  have HZ1 := Lib.hid (HZ.out.below hb1)
  go_wp2_with fail
  refine (rPut_any A len c zs a 2 v _ w.heap.size HZ1.out hz1 hl).mono ?_
  rintro e w2 ⟨A1, n1, c1, rfl, ho1, hb2⟩
  rw [LE.out]
  rw [LL.out] at ho1
  have hn1 : n1 = len := by have := ho1.1; rw [putN_len, HLN.out] at this; exact this.symm
  subst hn1
  have HO := Lib.hid ho1.row
  have hz2 := hb2.size
  have HB2 := Lib.hid (putN_bytes HB.out a v 2)
  clear ho1
  go_wp2_with fail
  refine (rget_any A1 _ c1 (putN zs a v 2) a 2 _ _ HO.out HB2.out hl).mono ?_
  rintro e w3 ⟨rfl, hw3⟩
  rw [hw3, GE.out, GV.out]
  clear hw3
  have HS : Hid (rgetV (putN zs a v 2) q k = rgetV zs q k ∧ rgetE zs q k = 0 ∧ rgetE (putN zs a v 2) q k = 0) := by
    have hlen := HLN.out
    obtain ⟨q, rfl⟩ := Int.eq_ofNat_of_zero_le h3
    obtain ⟨k, rfl⟩ := Int.eq_ofNat_of_zero_le (show 0 ≤ k by omega)
    obtain ⟨g1, g2⟩ := rgetV_yes (zs := zs) (a := q) (m := k) (by omega) (by omega) (by omega)
    obtain ⟨g3, g4⟩ := rgetV_yes (zs := putN zs a v 2) (a := q) (m := k) (by omega) (by omega) (by rw [putN_len]; omega)
    exact Lib.hid ⟨by rw [g2, g4]; exact num_apart (by omega) (by omega), g1, g3⟩
  rcases h5 with h5 | h5
  all_goals
    go_wp2_with fail
    refine (rget_any A _ c zs q k _ w.heap.size (HZ1.out.below (hb2.mono hz1)) HB.out hl).mono ?_
    rintro e w3 ⟨rfl, hw3⟩
    rw [hw3, HS.out.2.1]
    clear hw3
    go_wp2_with fail
    refine (rget_any A1 _ c1 (putN zs a v 2) q k _ _ HO.out HB2.out hl).mono ?_
    rintro e w3 ⟨rfl, hw3⟩
    rw [hw3, HS.out.2.2, HS.out.1]
    clear hw3
    go_wp2
    go_ret
    exact ⟨rfl, (by repeat' first | exact Below.refl _ _ | refine Below.alloc ?_ ?_ _ | refine below_thru ?_ (by assumption) ?_ | omega | (simp; done) | (simp; omega))⟩

set_option maxHeartbeats 4000000 in
theorem ramBack_out_3 {w : World} (A : Option Addr) (len c : Nat) (zs : List Int) (hz : Row .u8 w w.heap.size A len zs) (hwf : Bytes zs) (hl : len ≤ 140737488355328) (a : Nat) (v : Int) (q k : Int) (ha : a + 3 ≤ len) (h : k < 1 ∨ 4 < k ∨ q < 0 ∨ (1 ≤ k ∧ k ≤ 4 ∧ 0 ≤ q ∧ (len : Int) - k < q) ∨ (1 ≤ k ∧ k ≤ 4 ∧ 0 ≤ q ∧ q ≤ (len : Int) - k ∧ q < (a : Int) + 3 ∧ (a : Int) < q + k)) :
    Calls Try.prog 3 #[.slice A len c, .int .i64 a, .int .i64 3, .int .i64 v, .int .i64 q, .int .i64 k] w fun e w' => e = .returned (.bool true) ∧ Below w.heap.size w w' := by
  have hlen := hz.1
  obtain ⟨le, ll⟩ := rputL_yes (zs := zs) (a := a) (m := 3) (v := v) (by omega) (by omega) (by omega)
  obtain ⟨ge, gv⟩ := rgetV_yes (zs := putN zs a v 3) (a := a) (m := 3) (by omega) (by omega) (by rw [putN_len]; omega)
  have gn := num_put (zs := zs) (a := a) (m := 3) (v := v) (by omega) (by omega)
  have LE : Hid (rgetE zs a 3 = 0) := Lib.hid le
  have LL : Hid (rputL zs a 3 v = putN zs a v 3) := Lib.hid ll
  have GE : Hid (rgetE (putN zs a v 3) a 3 = 0) := Lib.hid ge
  have GV : Hid (rgetV (putN zs a v 3) a 3 = v % 16777216) := Lib.hid (gv.trans gn)
  have HLN := Lib.hid hlen
  clear le ll ge gv gn hlen
  have k1 : IntKind.i64.wrap ((IntKind.u64.wrap v).tmod 16777216) = v % 16777216 := by
    have h1 : IntKind.u64.wrap v = v % 18446744073709551616 := rfl
    rw [h1, Int.tmod_eq_emod_of_nonneg (by omega), IntKind.wrap_i64]; omega
  have HZ := Lib.hid hz
  have HB := Lib.hid hwf
  clear hz hwf
  go_enter Try.func3, Try.ntmps3
  go_wp2_with fail
  refine (alive1_any _).mono ?_
  rintro e w1 ⟨rfl, hb1⟩
  have hz1 := hb1.size
  have HZ1 := Lib.hid (HZ.out.below hb1)
  go_wp2_with fail
  refine (rPut_any A len c zs a 3 v _ w.heap.size HZ1.out hz1 hl).mono ?_
  rintro e w2 ⟨A1, n1, c1, rfl, ho1, hb2⟩
  rw [LE.out]
  rw [LL.out] at ho1
  have hn1 : n1 = len := by have := ho1.1; rw [putN_len, HLN.out] at this; exact this.symm
  subst hn1
  have HO := Lib.hid ho1.row
  have hz2 := hb2.size
  have HB2 := Lib.hid (putN_bytes HB.out a v 3)
  clear ho1
  go_wp2_with fail
  refine (rget_any A1 _ c1 (putN zs a v 3) a 3 _ _ HO.out HB2.out hl).mono ?_
  rintro e w3 ⟨rfl, hw3⟩
  rw [hw3, GE.out, GV.out]
  clear hw3
  rcases h with h | h | h | ⟨h1, h2, h3, h4⟩ | ⟨h1, h2, h3, h4, h5, h6⟩
  all_goals
    go_wp2
    all_goals go_ret
    all_goals exact ⟨rfl, (by repeat' first | exact Below.refl _ _ | refine Below.alloc ?_ ?_ _ | refine below_thru ?_ (by assumption) ?_ | omega | (simp; done) | (simp; omega))⟩

set_option maxHeartbeats 4000000 in
theorem ramBack_in_3 {w : World} (A : Option Addr) (len c : Nat) (zs : List Int) (hz : Row .u8 w w.heap.size A len zs) (hwf : Bytes zs) (hl : len ≤ 140737488355328) (a : Nat) (v : Int) (q k : Int) (ha : a + 3 ≤ len) (h1 : 1 ≤ k) (h2 : k ≤ 4) (h3 : 0 ≤ q) (h4 : q ≤ (len : Int) - k) (h5 : q + k ≤ (a : Int) ∨ (a : Int) + 3 ≤ q) :
    Calls Try.prog 3 #[.slice A len c, .int .i64 a, .int .i64 3, .int .i64 v, .int .i64 q, .int .i64 k] w fun e w' => e = .returned (.bool true) ∧ Below w.heap.size w w' := by
  have hlen := hz.1
  obtain ⟨le, ll⟩ := rputL_yes (zs := zs) (a := a) (m := 3) (v := v) (by omega) (by omega) (by omega)
  obtain ⟨ge, gv⟩ := rgetV_yes (zs := putN zs a v 3) (a := a) (m := 3) (by omega) (by omega) (by rw [putN_len]; omega)
  have gn := num_put (zs := zs) (a := a) (m := 3) (v := v) (by omega) (by omega)
  have LE : Hid (rgetE zs a 3 = 0) := Lib.hid le
  have LL : Hid (rputL zs a 3 v = putN zs a v 3) := Lib.hid ll
  have GE : Hid (rgetE (putN zs a v 3) a 3 = 0) := Lib.hid ge
  have GV : Hid (rgetV (putN zs a v 3) a 3 = v % 16777216) := Lib.hid (gv.trans gn)
  have HLN := Lib.hid hlen
  clear le ll ge gv gn hlen
  have k1 : IntKind.i64.wrap ((IntKind.u64.wrap v).tmod 16777216) = v % 16777216 := by
    have h1 : IntKind.u64.wrap v = v % 18446744073709551616 := rfl
    rw [h1, Int.tmod_eq_emod_of_nonneg (by omega), IntKind.wrap_i64]; omega
  have HZ := Lib.hid hz
  have HB := Lib.hid hwf
  clear hz hwf
  go_enter Try.func3, Try.ntmps3
  go_wp2_with fail
  refine (alive1_any _).mono ?_
  rintro e w1 ⟨rfl, hb1⟩
  have hz1 := hb1.size
  have HZ1 := Lib.hid (HZ.out.below hb1)
  go_wp2_with fail
  refine (rPut_any A len c zs a 3 v _ w.heap.size HZ1.out hz1 hl).mono ?_
  rintro e w2 ⟨A1, n1, c1, rfl, ho1, hb2⟩
  rw [LE.out]
  rw [LL.out] at ho1
  have hn1 : n1 = len := by have := ho1.1; rw [putN_len, HLN.out] at this; exact this.symm
  subst hn1
  have HO := Lib.hid ho1.row
  have hz2 := hb2.size
  have HB2 := Lib.hid (putN_bytes HB.out a v 3)
  clear ho1
  go_wp2_with fail
  refine (rget_any A1 _ c1 (putN zs a v 3) a 3 _ _ HO.out HB2.out hl).mono ?_
  rintro e w3 ⟨rfl, hw3⟩
  rw [hw3, GE.out, GV.out]
  clear hw3
  have HS : Hid (rgetV (putN zs a v 3) q k = rgetV zs q k ∧ rgetE zs q k = 0 ∧ rgetE (putN zs a v 3) q k = 0) := by
    have hlen := HLN.out
    obtain ⟨q, rfl⟩ := Int.eq_ofNat_of_zero_le h3
    obtain ⟨k, rfl⟩ := Int.eq_ofNat_of_zero_le (show 0 ≤ k by omega)
    obtain ⟨g1, g2⟩ := rgetV_yes (zs := zs) (a := q) (m := k) (by omega) (by omega) (by omega)
    obtain ⟨g3, g4⟩ := rgetV_yes (zs := putN zs a v 3) (a := q) (m := k) (by omega) (by omega) (by rw [putN_len]; omega)
    exact Lib.hid ⟨by rw [g2, g4]; exact num_apart (by omega) (by omega), g1, g3⟩
  rcases h5 with h5 | h5
  all_goals
    go_wp2_with fail
    refine (rget_any A _ c zs q k _ w.heap.size (HZ1.out.below (hb2.mono hz1)) HB.out hl).mono ?_
    rintro e w3 ⟨rfl, hw3⟩
    rw [hw3, HS.out.2.1]
    clear hw3
    go_wp2_with fail
    refine (rget_any A1 _ c1 (putN zs a v 3) q k _ _ HO.out HB2.out hl).mono ?_
    rintro e w3 ⟨rfl, hw3⟩
    rw [hw3, HS.out.2.2, HS.out.1]
    clear hw3
    go_wp2
    go_ret
    exact ⟨rfl, (by repeat' first | exact Below.refl _ _ | refine Below.alloc ?_ ?_ _ | refine below_thru ?_ (by assumption) ?_ | omega | (simp; done) | (simp; omega))⟩

set_option maxHeartbeats 4000000 in
theorem ramBack_out_4 {w : World} (A : Option Addr) (len c : Nat) (zs : List Int) (hz : Row .u8 w w.heap.size A len zs) (hwf : Bytes zs) (hl : len ≤ 140737488355328) (a : Nat) (v : Int) (q k : Int) (ha : a + 4 ≤ len) (h : k < 1 ∨ 4 < k ∨ q < 0 ∨ (1 ≤ k ∧ k ≤ 4 ∧ 0 ≤ q ∧ (len : Int) - k < q) ∨ (1 ≤ k ∧ k ≤ 4 ∧ 0 ≤ q ∧ q ≤ (len : Int) - k ∧ q < (a : Int) + 4 ∧ (a : Int) < q + k)) :
    Calls Try.prog 3 #[.slice A len c, .int .i64 a, .int .i64 4, .int .i64 v, .int .i64 q, .int .i64 k] w fun e w' => e = .returned (.bool true) ∧ Below w.heap.size w w' := by
  have hlen := hz.1
  obtain ⟨le, ll⟩ := rputL_yes (zs := zs) (a := a) (m := 4) (v := v) (by omega) (by omega) (by omega)
  obtain ⟨ge, gv⟩ := rgetV_yes (zs := putN zs a v 4) (a := a) (m := 4) (by omega) (by omega) (by rw [putN_len]; omega)
  have gn := num_put (zs := zs) (a := a) (m := 4) (v := v) (by omega) (by omega)
  have LE : Hid (rgetE zs a 4 = 0) := Lib.hid le
  have LL : Hid (rputL zs a 4 v = putN zs a v 4) := Lib.hid ll
  have GE : Hid (rgetE (putN zs a v 4) a 4 = 0) := Lib.hid ge
  have GV : Hid (rgetV (putN zs a v 4) a 4 = v % 4294967296) := Lib.hid (gv.trans gn)
  have HLN := Lib.hid hlen
  clear le ll ge gv gn hlen
  have k1 : IntKind.i64.wrap ((IntKind.u64.wrap v).tmod 4294967296) = v % 4294967296 := by
    have h1 : IntKind.u64.wrap v = v % 18446744073709551616 := rfl
    rw [h1, Int.tmod_eq_emod_of_nonneg (by omega), IntKind.wrap_i64]; omega
  have HZ := Lib.hid hz
  have HB := Lib.hid hwf
  clear hz hwf
  go_enter Try.func3, Try.ntmps3
  go_wp2_with fail
  refine (alive1_any _).mono ?_
  rintro e w1 ⟨rfl, hb1⟩
  have hz1 := hb1.size
  have HZ1 := Lib.hid (HZ.out.below hb1)
  go_wp2_with fail
  refine (rPut_any A len c zs a 4 v _ w.heap.size HZ1.out hz1 hl).mono ?_
  rintro e w2 ⟨A1, n1, c1, rfl, ho1, hb2⟩
  rw [LE.out]
  rw [LL.out] at ho1
  have hn1 : n1 = len := by have := ho1.1; rw [putN_len, HLN.out] at this; exact this.symm
  subst hn1
  have HO := Lib.hid ho1.row
  have hz2 := hb2.size
  have HB2 := Lib.hid (putN_bytes HB.out a v 4)
  clear ho1
  go_wp2_with fail
  refine (rget_any A1 _ c1 (putN zs a v 4) a 4 _ _ HO.out HB2.out hl).mono ?_
  rintro e w3 ⟨rfl, hw3⟩
  rw [hw3, GE.out, GV.out]
  clear hw3
  rcases h with h | h | h | ⟨h1, h2, h3, h4⟩ | ⟨h1, h2, h3, h4, h5, h6⟩
  all_goals
    go_wp2
    all_goals go_ret
    all_goals exact ⟨rfl, (by repeat' first | exact Below.refl _ _ | refine Below.alloc ?_ ?_ _ | refine below_thru ?_ (by assumption) ?_ | omega | (simp; done) | (simp; omega))⟩

set_option maxHeartbeats 4000000 in
theorem ramBack_in_4 {w : World} (A : Option Addr) (len c : Nat) (zs : List Int) (hz : Row .u8 w w.heap.size A len zs) (hwf : Bytes zs) (hl : len ≤ 140737488355328) (a : Nat) (v : Int) (q k : Int) (ha : a + 4 ≤ len) (h1 : 1 ≤ k) (h2 : k ≤ 4) (h3 : 0 ≤ q) (h4 : q ≤ (len : Int) - k) (h5 : q + k ≤ (a : Int) ∨ (a : Int) + 4 ≤ q) :
    Calls Try.prog 3 #[.slice A len c, .int .i64 a, .int .i64 4, .int .i64 v, .int .i64 q, .int .i64 k] w fun e w' => e = .returned (.bool true) ∧ Below w.heap.size w w' := by
  have hlen := hz.1
  obtain ⟨le, ll⟩ := rputL_yes (zs := zs) (a := a) (m := 4) (v := v) (by omega) (by omega) (by omega)
  obtain ⟨ge, gv⟩ := rgetV_yes (zs := putN zs a v 4) (a := a) (m := 4) (by omega) (by omega) (by rw [putN_len]; omega)
  have gn := num_put (zs := zs) (a := a) (m := 4) (v := v) (by omega) (by omega)
  have LE : Hid (rgetE zs a 4 = 0) := Lib.hid le
  have LL : Hid (rputL zs a 4 v = putN zs a v 4) := Lib.hid ll
  have GE : Hid (rgetE (putN zs a v 4) a 4 = 0) := Lib.hid ge
  have GV : Hid (rgetV (putN zs a v 4) a 4 = v % 4294967296) := Lib.hid (gv.trans gn)
  have HLN := Lib.hid hlen
  clear le ll ge gv gn hlen
  have k1 : IntKind.i64.wrap ((IntKind.u64.wrap v).tmod 4294967296) = v % 4294967296 := by
    have h1 : IntKind.u64.wrap v = v % 18446744073709551616 := rfl
    rw [h1, Int.tmod_eq_emod_of_nonneg (by omega), IntKind.wrap_i64]; omega
  have HZ := Lib.hid hz
  have HB := Lib.hid hwf
  clear hz hwf
  go_enter Try.func3, Try.ntmps3
  go_wp2_with fail
  refine (alive1_any _).mono ?_
  rintro e w1 ⟨rfl, hb1⟩
  have hz1 := hb1.size
  have HZ1 := Lib.hid (HZ.out.below hb1)
  go_wp2_with fail
  refine (rPut_any A len c zs a 4 v _ w.heap.size HZ1.out hz1 hl).mono ?_
  rintro e w2 ⟨A1, n1, c1, rfl, ho1, hb2⟩
  rw [LE.out]
  rw [LL.out] at ho1
  have hn1 : n1 = len := by have := ho1.1; rw [putN_len, HLN.out] at this; exact this.symm
  subst hn1
  have HO := Lib.hid ho1.row
  have hz2 := hb2.size
  have HB2 := Lib.hid (putN_bytes HB.out a v 4)
  clear ho1
  go_wp2_with fail
  refine (rget_any A1 _ c1 (putN zs a v 4) a 4 _ _ HO.out HB2.out hl).mono ?_
  rintro e w3 ⟨rfl, hw3⟩
  rw [hw3, GE.out, GV.out]
  clear hw3
  have HS : Hid (rgetV (putN zs a v 4) q k = rgetV zs q k ∧ rgetE zs q k = 0 ∧ rgetE (putN zs a v 4) q k = 0) := by
    have hlen := HLN.out
    obtain ⟨q, rfl⟩ := Int.eq_ofNat_of_zero_le h3
    obtain ⟨k, rfl⟩ := Int.eq_ofNat_of_zero_le (show 0 ≤ k by omega)
    obtain ⟨g1, g2⟩ := rgetV_yes (zs := zs) (a := q) (m := k) (by omega) (by omega) (by omega)
    obtain ⟨g3, g4⟩ := rgetV_yes (zs := putN zs a v 4) (a := q) (m := k) (by omega) (by omega) (by rw [putN_len]; omega)
    exact Lib.hid ⟨by rw [g2, g4]; exact num_apart (by omega) (by omega), g1, g3⟩
  rcases h5 with h5 | h5
  all_goals
    go_wp2_with fail
    refine (rget_any A _ c zs q k _ w.heap.size (HZ1.out.below (hb2.mono hz1)) HB.out hl).mono ?_
    rintro e w3 ⟨rfl, hw3⟩
    rw [hw3, HS.out.2.1]
    clear hw3
    go_wp2_with fail
    refine (rget_any A1 _ c1 (putN zs a v 4) q k _ _ HO.out HB2.out hl).mono ?_
    rintro e w3 ⟨rfl, hw3⟩
    rw [hw3, HS.out.2.2, HS.out.1]
    clear hw3
    go_wp2
    go_ret
    exact ⟨rfl, (by repeat' first | exact Below.refl _ _ | refine Below.alloc ?_ ?_ _ | refine below_thru ?_ (by assumption) ?_ | omega | (simp; done) | (simp; omega))⟩

theorem ramBack_walk {w : World} (A : Option Addr) (len c : Nat) (zs : List Int) (hz : Row .u8 w w.heap.size A len zs) (hwf : ∀ z ∈ zs, (Lit.int .u8 z).wf = true) (hlc : len ≤ c) (_ : c ≤ maxLen) (hbig : c ≤ 140737488351232) (p : Int) (_ : I64 p) (n : Int) (_ : I64 n) (v : Int) (_ : I64 v) (q : Int) (_ : I64 q) (k : Int) (_ : I64 k) :
    Calls Try.prog 3 #[.slice A len c, .int .i64 p, .int .i64 n, .int .i64 v, .int .i64 q, .int .i64 k] w fun e w' => e = .returned (.bool true) ∧ Below w.heap.size w w' := by
  have hb := bytes_of_wf hwf
  have hlen := hz.1
  by_cases h : n < 1 ∨ 4 < n ∨ p < 0 ∨ (len : Int) < p + n
  · have e2 : rgetE zs p n = 2 := by unfold rgetE; rw [if_pos (by omega)]
    exact ramBack_0 A len c zs hz hb (by omega) p n v q k (Lib.hid e2) (Lib.hid (by unfold rputL; rw [if_neg (by rw [e2]; decide)]))
  · obtain ⟨a, rfl⟩ := Int.eq_ofNat_of_zero_le (show 0 ≤ p by omega)
    have hn : n = 1 ∨ n = 2 ∨ n = 3 ∨ n = 4 := by omega
    by_cases g : 1 ≤ k ∧ k ≤ 4 ∧ 0 ≤ q ∧ q ≤ (len : Int) - k ∧ (q + k ≤ (a : Int) ∨ (a : Int) + n ≤ q)
    · obtain ⟨g1, g2, g3, g4, g5⟩ := g
      rcases hn with rfl | rfl | rfl | rfl
      · exact ramBack_in_1 A len c zs hz hb (by omega) a v q k (by omega) g1 g2 g3 g4 g5
      · exact ramBack_in_2 A len c zs hz hb (by omega) a v q k (by omega) g1 g2 g3 g4 g5
      · exact ramBack_in_3 A len c zs hz hb (by omega) a v q k (by omega) g1 g2 g3 g4 g5
      · exact ramBack_in_4 A len c zs hz hb (by omega) a v q k (by omega) g1 g2 g3 g4 g5
    · rcases hn with rfl | rfl | rfl | rfl
      · exact ramBack_out_1 A len c zs hz hb (by omega) a v q k (by omega) (by omega)
      · exact ramBack_out_2 A len c zs hz hb (by omega) a v q k (by omega) (by omega)
      · exact ramBack_out_3 A len c zs hz hb (by omega) a v q k (by omega) (by omega)
      · exact ramBack_out_4 A len c zs hz hb (by omega) a v q k (by omega) (by omega)
end Go.Proofs.Ytidfngplhjegpaa
