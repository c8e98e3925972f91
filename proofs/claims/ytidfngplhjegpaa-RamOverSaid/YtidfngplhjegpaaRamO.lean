/- RamOver: its walk. -/
import Derived.Test.YtidfngplhjegpaaRamW
namespace Go.Proofs.Ytidfngplhjegpaa
open Go.RowKit Go.Sort
set_option linter.unusedVariables false
theorem rget_len {zs zs' : List Int} (h : zs.length = zs'.length) (p n : Int) : rgetE zs p n = rgetE zs' p n := by unfold rgetE; rw [h]
theorem rget_E {zs : List Int} {p n : Int} : rgetE zs p n = 0 ↔ ¬ (n < 1 ∨ 4 < n ∨ p < 0 ∨ (zs.length : Int) < p + n) := by
  unfold rgetE
  split
  · rename_i h; simp [h]
  · rename_i h; simp [h]
theorem rget_02 (zs : List Int) (p n : Int) : rgetE zs p n = 0 ∨ rgetE zs p n = 2 := by unfold rgetE; split <;> simp
theorem rputL_len {zs : List Int} {p n v : Int} (h : rgetE zs p n = 0) : (rputL zs p n v).length = zs.length := by unfold rputL; rw [if_pos h, putN_len]
theorem rput_twice {zs : List Int} {p n : Int} (v u : Int) (h : rgetE zs p n = 0) : rputL (rputL zs p n v) p n u = rputL zs p n u := by
  have h2 : rgetE (rputL zs p n v) p n = 0 := by rw [rget_len (rputL_len h)]; exact h
  have e1 : rputL (rputL zs p n v) p n u = putN (rputL zs p n v) p.toNat u n.toNat := by show (if rgetE (rputL zs p n v) p n = 0 then _ else _) = _; rw [if_pos h2]
  have e2 : rputL zs p n u = putN zs p.toNat u n.toNat := by unfold rputL; rw [if_pos h]
  have e3 : rputL zs p n v = putN zs p.toNat v n.toNat := by unfold rputL; rw [if_pos h]
  rw [e1, e2, e3]; exact putN_twice _ _ _ _ _
theorem rput_swap {zs : List Int} {p n q k : Int} (v u : Int) (h : rgetE zs p n = 0) (g : rgetE zs q k = 0) (hd : q + k ≤ p ∨ p + n ≤ q) : rputL (rputL zs p n v) q k u = rputL (rputL zs q k u) p n v := by
  have h2 : rgetE (rputL zs p n v) q k = 0 := by rw [rget_len (rputL_len h)]; exact g
  have g2 : rgetE (rputL zs q k u) p n = 0 := by rw [rget_len (rputL_len g)]; exact h
  have e1 : rputL (rputL zs p n v) q k u = putN (rputL zs p n v) q.toNat u k.toNat := by show (if rgetE (rputL zs p n v) q k = 0 then _ else _) = _; rw [if_pos h2]
  have e4 : rputL (rputL zs q k u) p n v = putN (rputL zs q k u) p.toNat v n.toNat := by show (if rgetE (rputL zs q k u) p n = 0 then _ else _) = _; rw [if_pos g2]
  have e2 : rputL zs q k u = putN zs q.toNat u k.toNat := by unfold rputL; rw [if_pos g]
  have e3 : rputL zs p n v = putN zs p.toNat v n.toNat := by unfold rputL; rw [if_pos h]
  rw [e1, e4, e2, e3]
  have h3 := rget_E.1 h
  have g3 := rget_E.1 g
  exact putN_swap _ _ _ _ _ _ _ (by omega)

set_option maxHeartbeats 4000000 in
theorem ramOver_0 {w : World} (A : Option Addr) (len c : Nat) (zs : List Int) (hz : Row .u8 w w.heap.size A len zs) (hwf : Bytes zs) (hl : len ≤ 140737488355328) (p n v u q k : Int) (LE : Hid (rgetE zs p n = 2)) :
    Calls Try.prog 4 #[.slice A len c, .int .i64 p, .int .i64 n, .int .i64 v, .int .i64 u, .int .i64 q, .int .i64 k] w fun e w' => e = .returned (.bool true) ∧ Below w.heap.size w w' := by
  have HZ := Lib.hid hz
  have HLN := Lib.hid hz.1
  clear hz
  go_enter Try.func4, Try.ntmps4
  go_wp2_with fail
  refine (alive1_any _).mono ?_
  rintro e w1 ⟨rfl, hb1⟩
  have hz1 := hb1.size
  have HZ1 := Lib.hid ((HZ.out.below hb1).any hz1)
  go_wp2_with fail
  refine (rPut_any A len c (zs) p n v _ _ HZ1.out (Nat.le_refl _) (by omega)).mono ?_
  rintro e w2 ⟨A2, n2, c2, rfl, ho2, hb2⟩
  have hz2 := hb2.size
  have hl2 := ho2.1
  have HO2 := Lib.hid ho2.row
  clear ho2
  have hm2 : n2 ≤ 140737488355328 := by
    rw [← hl2]
    have h9 : ∀ (zs : List Int) (p n v : Int), (rputL zs p n v).length ≤ zs.length := fun zs p n v => by unfold rputL; split <;> simp [putN_len]
    have := HLN.out
    have := h9 zs p n v
    omega
  clear hl2
  have HZ2 := Lib.hid ((HZ1.out.below hb2).any hz2)
  go_wp2_with fail
  refine (rPut_any A2 n2 c2 (rputL zs p n v) p n u _ _ HO2.out (Nat.le_refl _) (by omega)).mono ?_
  rintro e w3 ⟨A3, n3, c3, rfl, ho3, hb3⟩
  have hz3 := hb3.size
  have hl3 := ho3.1
  have HO3 := Lib.hid ho3.row
  clear ho3
  clear hl3
  have HZ3 := Lib.hid ((HZ2.out.below hb3).any hz3)
  have HO23 := Lib.hid ((HO2.out.below hb3).any hz3)
  go_wp2_with fail
  refine (rPut_any A len c (zs) p n u _ _ HZ3.out (Nat.le_refl _) (by omega)).mono ?_
  rintro e w4 ⟨A4, n4, c4, rfl, ho4, hb4⟩
  have hz4 := hb4.size
  have hl4 := ho4.1
  have HO4 := Lib.hid ho4.row
  clear ho4
  clear hl4
  have HO34 := Lib.hid ((HO3.out.below hb4).any hz4)
  have HO24 := Lib.hid ((HO23.out.below hb4).any hz4)
  have HZ4 := Lib.hid ((HZ3.out.below hb4).any hz4)
  rw [LE.out]
  go_wp2
  go_ret
  exact ⟨rfl, (by repeat' first | exact Below.refl _ _ | refine Below.alloc ?_ ?_ _ | refine below_thru ?_ (by assumption) ?_ | omega | (simp; done) | (simp; omega))⟩

set_option maxHeartbeats 4000000 in
theorem ramOver_1 {w : World} (A : Option Addr) (len c : Nat) (zs : List Int) (hz : Row .u8 w w.heap.size A len zs) (hwf : Bytes zs) (hl : len ≤ 140737488355328) (p n v u q k : Int) (LE : Hid (rgetE zs p n = 0)) (TW : Hid (rputL (rputL zs p n v) p n u = rputL zs p n u)) (G1 : Hid (rgetE (rputL zs p n v) q k = 2)) (G2 : Hid (rgetE zs q k = 2)) :
    Calls Try.prog 4 #[.slice A len c, .int .i64 p, .int .i64 n, .int .i64 v, .int .i64 u, .int .i64 q, .int .i64 k] w fun e w' => e = .returned (.bool true) ∧ Below w.heap.size w w' := by
  have HZ := Lib.hid hz
  have HLN := Lib.hid hz.1
  clear hz
  go_enter Try.func4, Try.ntmps4
  go_wp2_with fail
  refine (alive1_any _).mono ?_
  rintro e w1 ⟨rfl, hb1⟩
  have hz1 := hb1.size
  have HZ1 := Lib.hid ((HZ.out.below hb1).any hz1)
  go_wp2_with fail
  refine (rPut_any A len c (zs) p n v _ _ HZ1.out (Nat.le_refl _) (by omega)).mono ?_
  rintro e w2 ⟨A2, n2, c2, rfl, ho2, hb2⟩
  have hz2 := hb2.size
  have hl2 := ho2.1
  have HO2 := Lib.hid ho2.row
  clear ho2
  have hm2 : n2 ≤ 140737488355328 := by
    rw [← hl2]
    have h9 : ∀ (zs : List Int) (p n v : Int), (rputL zs p n v).length ≤ zs.length := fun zs p n v => by unfold rputL; split <;> simp [putN_len]
    have := HLN.out
    have := h9 zs p n v
    omega
  clear hl2
  have HZ2 := Lib.hid ((HZ1.out.below hb2).any hz2)
  go_wp2_with fail
  refine (rPut_any A2 n2 c2 (rputL zs p n v) p n u _ _ HO2.out (Nat.le_refl _) (by omega)).mono ?_
  rintro e w3 ⟨A3, n3, c3, rfl, ho3, hb3⟩
  have hz3 := hb3.size
  have hl3 := ho3.1
  have HO3 := Lib.hid ho3.row
  clear ho3
  clear hl3
  have HZ3 := Lib.hid ((HZ2.out.below hb3).any hz3)
  have HO23 := Lib.hid ((HO2.out.below hb3).any hz3)
  go_wp2_with fail
  refine (rPut_any A len c (zs) p n u _ _ HZ3.out (Nat.le_refl _) (by omega)).mono ?_
  rintro e w4 ⟨A4, n4, c4, rfl, ho4, hb4⟩
  have hz4 := hb4.size
  have hl4 := ho4.1
  have HO4 := Lib.hid ho4.row
  clear ho4
  clear hl4
  have HO34 := Lib.hid ((HO3.out.below hb4).any hz4)
  have HO24 := Lib.hid ((HO23.out.below hb4).any hz4)
  have HZ4 := Lib.hid ((HZ3.out.below hb4).any hz4)
  have s3 := conv_row (c := c3) HO34.out
  have s4 := conv_row (c := c4) HO4.out
  rw [TW.out] at s3
  rw [LE.out]
  generalize strOfNums (rputL zs p n u) = str at *
  go_wp2_with fail
  refine (rPut_any A2 n2 c2 (rputL zs p n v) q k u _ _ HO24.out (Nat.le_refl _) (by omega)).mono ?_
  rintro e w5 ⟨A5, n5, c5, rfl, ho5, hb5⟩
  have hz5 := hb5.size
  have hl5 := ho5.1
  have HO5 := Lib.hid ho5.row
  clear ho5
  clear hl5
  have HZ5 := Lib.hid ((HZ4.out.below hb5).any hz5)
  go_wp2_with fail
  refine (rPut_any A len c (zs) q k u _ _ HZ5.out (Nat.le_refl _) (by omega)).mono ?_
  rintro e w6 ⟨A6, n6, c6, rfl, ho6, hb6⟩
  have hz6 := hb6.size
  have hl6 := ho6.1
  have HO6 := Lib.hid ho6.row
  clear ho6
  have hm6 : n6 ≤ 140737488355328 := by
    rw [← hl6]
    have h9 : ∀ (zs : List Int) (p n v : Int), (rputL zs p n v).length ≤ zs.length := fun zs p n v => by unfold rputL; split <;> simp [putN_len]
    have := HLN.out
    have := h9 zs q k u
    omega
  clear hl6
  have HO56 := Lib.hid ((HO5.out.below hb6).any hz6)
  go_wp2_with fail
  refine (rPut_any A6 n6 c6 (rputL zs q k u) p n v _ _ HO6.out (Nat.le_refl _) (by omega)).mono ?_
  rintro e w7 ⟨A7, n7, c7, rfl, ho7, hb7⟩
  have hz7 := hb7.size
  have hl7 := ho7.1
  have HO7 := Lib.hid ho7.row
  clear ho7
  clear hl7
  have HO57 := Lib.hid ((HO56.out.below hb7).any hz7)
  rw [G1.out, G2.out]
  go_wp2
  all_goals go_ret
  all_goals exact ⟨rfl, (by repeat' first | exact Below.refl _ _ | refine Below.alloc ?_ ?_ _ | refine below_thru ?_ (by assumption) ?_ | omega | (simp; done) | (simp; omega))⟩

set_option maxHeartbeats 4000000 in
theorem ramOver_2 {w : World} (A : Option Addr) (len c : Nat) (zs : List Int) (hz : Row .u8 w w.heap.size A len zs) (hwf : Bytes zs) (hl : len ≤ 140737488355328) (p n v u q k : Int) (LE : Hid (rgetE zs p n = 0)) (TW : Hid (rputL (rputL zs p n v) p n u = rputL zs p n u)) (G1 : Hid (rgetE (rputL zs p n v) q k = 0)) (G2 : Hid (rgetE zs q k = 0)) (p0 : 0 ≤ p) (n0 : 1 ≤ n) (n4 : n ≤ 4) (pn : p + n ≤ (len : Int)) (q0 : 0 ≤ q) (k0 : 1 ≤ k) (k4 : k ≤ 4) (qk : q + k ≤ (len : Int)) (h1 : q < p + n) (h2 : p < q + k) :
    Calls Try.prog 4 #[.slice A len c, .int .i64 p, .int .i64 n, .int .i64 v, .int .i64 u, .int .i64 q, .int .i64 k] w fun e w' => e = .returned (.bool true) ∧ Below w.heap.size w w' := by
  have HZ := Lib.hid hz
  have HLN := Lib.hid hz.1
  clear hz
  go_enter Try.func4, Try.ntmps4
  go_wp2_with fail
  refine (alive1_any _).mono ?_
  rintro e w1 ⟨rfl, hb1⟩
  have hz1 := hb1.size
  have HZ1 := Lib.hid ((HZ.out.below hb1).any hz1)
  go_wp2_with fail
  refine (rPut_any A len c (zs) p n v _ _ HZ1.out (Nat.le_refl _) (by omega)).mono ?_
  rintro e w2 ⟨A2, n2, c2, rfl, ho2, hb2⟩
  have hz2 := hb2.size
  have hl2 := ho2.1
  have HO2 := Lib.hid ho2.row
  clear ho2
  have hm2 : n2 ≤ 140737488355328 := by
    rw [← hl2]
    have h9 : ∀ (zs : List Int) (p n v : Int), (rputL zs p n v).length ≤ zs.length := fun zs p n v => by unfold rputL; split <;> simp [putN_len]
    have := HLN.out
    have := h9 zs p n v
    omega
  clear hl2
  have HZ2 := Lib.hid ((HZ1.out.below hb2).any hz2)
  go_wp2_with fail
  refine (rPut_any A2 n2 c2 (rputL zs p n v) p n u _ _ HO2.out (Nat.le_refl _) (by omega)).mono ?_
  rintro e w3 ⟨A3, n3, c3, rfl, ho3, hb3⟩
  have hz3 := hb3.size
  have hl3 := ho3.1
  have HO3 := Lib.hid ho3.row
  clear ho3
  clear hl3
  have HZ3 := Lib.hid ((HZ2.out.below hb3).any hz3)
  have HO23 := Lib.hid ((HO2.out.below hb3).any hz3)
  go_wp2_with fail
  refine (rPut_any A len c (zs) p n u _ _ HZ3.out (Nat.le_refl _) (by omega)).mono ?_
  rintro e w4 ⟨A4, n4, c4, rfl, ho4, hb4⟩
  have hz4 := hb4.size
  have hl4 := ho4.1
  have HO4 := Lib.hid ho4.row
  clear ho4
  clear hl4
  have HO34 := Lib.hid ((HO3.out.below hb4).any hz4)
  have HO24 := Lib.hid ((HO23.out.below hb4).any hz4)
  have HZ4 := Lib.hid ((HZ3.out.below hb4).any hz4)
  have s3 := conv_row (c := c3) HO34.out
  have s4 := conv_row (c := c4) HO4.out
  rw [TW.out] at s3
  rw [LE.out]
  generalize strOfNums (rputL zs p n u) = str at *
  go_wp2_with fail
  refine (rPut_any A2 n2 c2 (rputL zs p n v) q k u _ _ HO24.out (Nat.le_refl _) (by omega)).mono ?_
  rintro e w5 ⟨A5, n5, c5, rfl, ho5, hb5⟩
  have hz5 := hb5.size
  have hl5 := ho5.1
  have HO5 := Lib.hid ho5.row
  clear ho5
  clear hl5
  have HZ5 := Lib.hid ((HZ4.out.below hb5).any hz5)
  go_wp2_with fail
  refine (rPut_any A len c (zs) q k u _ _ HZ5.out (Nat.le_refl _) (by omega)).mono ?_
  rintro e w6 ⟨A6, n6, c6, rfl, ho6, hb6⟩
  have hz6 := hb6.size
  have hl6 := ho6.1
  have HO6 := Lib.hid ho6.row
  clear ho6
  have hm6 : n6 ≤ 140737488355328 := by
    rw [← hl6]
    have h9 : ∀ (zs : List Int) (p n v : Int), (rputL zs p n v).length ≤ zs.length := fun zs p n v => by unfold rputL; split <;> simp [putN_len]
    have := HLN.out
    have := h9 zs q k u
    omega
  clear hl6
  have HO56 := Lib.hid ((HO5.out.below hb6).any hz6)
  go_wp2_with fail
  refine (rPut_any A6 n6 c6 (rputL zs q k u) p n v _ _ HO6.out (Nat.le_refl _) (by omega)).mono ?_
  rintro e w7 ⟨A7, n7, c7, rfl, ho7, hb7⟩
  have hz7 := hb7.size
  have hl7 := ho7.1
  have HO7 := Lib.hid ho7.row
  clear ho7
  clear hl7
  have HO57 := Lib.hid ((HO56.out.below hb7).any hz7)
  rw [G1.out, G2.out]
  go_wp2
  all_goals go_ret
  all_goals exact ⟨rfl, (by repeat' first | exact Below.refl _ _ | refine Below.alloc ?_ ?_ _ | refine below_thru ?_ (by assumption) ?_ | omega | (simp; done) | (simp; omega))⟩

set_option maxHeartbeats 4000000 in
theorem ramOver_3 {w : World} (A : Option Addr) (len c : Nat) (zs : List Int) (hz : Row .u8 w w.heap.size A len zs) (hwf : Bytes zs) (hl : len ≤ 140737488355328) (p n v u q k : Int) (LE : Hid (rgetE zs p n = 0)) (TW : Hid (rputL (rputL zs p n v) p n u = rputL zs p n u)) (G1 : Hid (rgetE (rputL zs p n v) q k = 0)) (G2 : Hid (rgetE zs q k = 0)) (p0 : 0 ≤ p) (n0 : 1 ≤ n) (n4 : n ≤ 4) (pn : p + n ≤ (len : Int)) (q0 : 0 ≤ q) (k0 : 1 ≤ k) (k4 : k ≤ 4) (qk : q + k ≤ (len : Int)) (SW : Hid (rputL (rputL zs p n v) q k u = rputL (rputL zs q k u) p n v)) (h1 : q + k ≤ p) :
    Calls Try.prog 4 #[.slice A len c, .int .i64 p, .int .i64 n, .int .i64 v, .int .i64 u, .int .i64 q, .int .i64 k] w fun e w' => e = .returned (.bool true) ∧ Below w.heap.size w w' := by
  have HZ := Lib.hid hz
  have HLN := Lib.hid hz.1
  clear hz
  go_enter Try.func4, Try.ntmps4
  go_wp2_with fail
  refine (alive1_any _).mono ?_
  rintro e w1 ⟨rfl, hb1⟩
  have hz1 := hb1.size
  have HZ1 := Lib.hid ((HZ.out.below hb1).any hz1)
  go_wp2_with fail
  refine (rPut_any A len c (zs) p n v _ _ HZ1.out (Nat.le_refl _) (by omega)).mono ?_
  rintro e w2 ⟨A2, n2, c2, rfl, ho2, hb2⟩
  have hz2 := hb2.size
  have hl2 := ho2.1
  have HO2 := Lib.hid ho2.row
  clear ho2
  have hm2 : n2 ≤ 140737488355328 := by
    rw [← hl2]
    have h9 : ∀ (zs : List Int) (p n v : Int), (rputL zs p n v).length ≤ zs.length := fun zs p n v => by unfold rputL; split <;> simp [putN_len]
    have := HLN.out
    have := h9 zs p n v
    omega
  clear hl2
  have HZ2 := Lib.hid ((HZ1.out.below hb2).any hz2)
  go_wp2_with fail
  refine (rPut_any A2 n2 c2 (rputL zs p n v) p n u _ _ HO2.out (Nat.le_refl _) (by omega)).mono ?_
  rintro e w3 ⟨A3, n3, c3, rfl, ho3, hb3⟩
  have hz3 := hb3.size
  have hl3 := ho3.1
  have HO3 := Lib.hid ho3.row
  clear ho3
  clear hl3
  have HZ3 := Lib.hid ((HZ2.out.below hb3).any hz3)
  have HO23 := Lib.hid ((HO2.out.below hb3).any hz3)
  go_wp2_with fail
  refine (rPut_any A len c (zs) p n u _ _ HZ3.out (Nat.le_refl _) (by omega)).mono ?_
  rintro e w4 ⟨A4, n4, c4, rfl, ho4, hb4⟩
  have hz4 := hb4.size
  have hl4 := ho4.1
  have HO4 := Lib.hid ho4.row
  clear ho4
  clear hl4
  have HO34 := Lib.hid ((HO3.out.below hb4).any hz4)
  have HO24 := Lib.hid ((HO23.out.below hb4).any hz4)
  have HZ4 := Lib.hid ((HZ3.out.below hb4).any hz4)
  have s3 := conv_row (c := c3) HO34.out
  have s4 := conv_row (c := c4) HO4.out
  rw [TW.out] at s3
  rw [LE.out]
  generalize strOfNums (rputL zs p n u) = str at *
  go_wp2_with fail
  refine (rPut_any A2 n2 c2 (rputL zs p n v) q k u _ _ HO24.out (Nat.le_refl _) (by omega)).mono ?_
  rintro e w5 ⟨A5, n5, c5, rfl, ho5, hb5⟩
  have hz5 := hb5.size
  have hl5 := ho5.1
  have HO5 := Lib.hid ho5.row
  clear ho5
  clear hl5
  have HZ5 := Lib.hid ((HZ4.out.below hb5).any hz5)
  go_wp2_with fail
  refine (rPut_any A len c (zs) q k u _ _ HZ5.out (Nat.le_refl _) (by omega)).mono ?_
  rintro e w6 ⟨A6, n6, c6, rfl, ho6, hb6⟩
  have hz6 := hb6.size
  have hl6 := ho6.1
  have HO6 := Lib.hid ho6.row
  clear ho6
  have hm6 : n6 ≤ 140737488355328 := by
    rw [← hl6]
    have h9 : ∀ (zs : List Int) (p n v : Int), (rputL zs p n v).length ≤ zs.length := fun zs p n v => by unfold rputL; split <;> simp [putN_len]
    have := HLN.out
    have := h9 zs q k u
    omega
  clear hl6
  have HO56 := Lib.hid ((HO5.out.below hb6).any hz6)
  go_wp2_with fail
  refine (rPut_any A6 n6 c6 (rputL zs q k u) p n v _ _ HO6.out (Nat.le_refl _) (by omega)).mono ?_
  rintro e w7 ⟨A7, n7, c7, rfl, ho7, hb7⟩
  have hz7 := hb7.size
  have hl7 := ho7.1
  have HO7 := Lib.hid ho7.row
  clear ho7
  clear hl7
  have HO57 := Lib.hid ((HO56.out.below hb7).any hz7)
  rw [G1.out, G2.out]
  have s5 := conv_row (c := c5) HO57.out
  have s7 := conv_row (c := c7) HO7.out
  rw [SW.out] at s5
  generalize strOfNums (rputL (rputL zs q k u) p n v) = str at *
  go_wp2
  all_goals go_ret
  all_goals exact ⟨rfl, (by repeat' first | exact Below.refl _ _ | refine Below.alloc ?_ ?_ _ | refine below_thru ?_ (by assumption) ?_ | omega | (simp; done) | (simp; omega))⟩

set_option maxHeartbeats 4000000 in
theorem ramOver_4 {w : World} (A : Option Addr) (len c : Nat) (zs : List Int) (hz : Row .u8 w w.heap.size A len zs) (hwf : Bytes zs) (hl : len ≤ 140737488355328) (p n v u q k : Int) (LE : Hid (rgetE zs p n = 0)) (TW : Hid (rputL (rputL zs p n v) p n u = rputL zs p n u)) (G1 : Hid (rgetE (rputL zs p n v) q k = 0)) (G2 : Hid (rgetE zs q k = 0)) (p0 : 0 ≤ p) (n0 : 1 ≤ n) (n4 : n ≤ 4) (pn : p + n ≤ (len : Int)) (q0 : 0 ≤ q) (k0 : 1 ≤ k) (k4 : k ≤ 4) (qk : q + k ≤ (len : Int)) (SW : Hid (rputL (rputL zs p n v) q k u = rputL (rputL zs q k u) p n v)) (h1 : p + n ≤ q) :
    Calls Try.prog 4 #[.slice A len c, .int .i64 p, .int .i64 n, .int .i64 v, .int .i64 u, .int .i64 q, .int .i64 k] w fun e w' => e = .returned (.bool true) ∧ Below w.heap.size w w' := by
  have HZ := Lib.hid hz
  have HLN := Lib.hid hz.1
  clear hz
  go_enter Try.func4, Try.ntmps4
  go_wp2_with fail
  refine (alive1_any _).mono ?_
  rintro e w1 ⟨rfl, hb1⟩
  have hz1 := hb1.size
  have HZ1 := Lib.hid ((HZ.out.below hb1).any hz1)
  go_wp2_with fail
  refine (rPut_any A len c (zs) p n v _ _ HZ1.out (Nat.le_refl _) (by omega)).mono ?_
  rintro e w2 ⟨A2, n2, c2, rfl, ho2, hb2⟩
  have hz2 := hb2.size
  have hl2 := ho2.1
  have HO2 := Lib.hid ho2.row
  clear ho2
  have hm2 : n2 ≤ 140737488355328 := by
    rw [← hl2]
    have h9 : ∀ (zs : List Int) (p n v : Int), (rputL zs p n v).length ≤ zs.length := fun zs p n v => by unfold rputL; split <;> simp [putN_len]
    have := HLN.out
    have := h9 zs p n v
    omega
  clear hl2
  have HZ2 := Lib.hid ((HZ1.out.below hb2).any hz2)
  go_wp2_with fail
  refine (rPut_any A2 n2 c2 (rputL zs p n v) p n u _ _ HO2.out (Nat.le_refl _) (by omega)).mono ?_
  rintro e w3 ⟨A3, n3, c3, rfl, ho3, hb3⟩
  have hz3 := hb3.size
  have hl3 := ho3.1
  have HO3 := Lib.hid ho3.row
  clear ho3
  clear hl3
  have HZ3 := Lib.hid ((HZ2.out.below hb3).any hz3)
  have HO23 := Lib.hid ((HO2.out.below hb3).any hz3)
  go_wp2_with fail
  refine (rPut_any A len c (zs) p n u _ _ HZ3.out (Nat.le_refl _) (by omega)).mono ?_
  rintro e w4 ⟨A4, n4, c4, rfl, ho4, hb4⟩
  have hz4 := hb4.size
  have hl4 := ho4.1
  have HO4 := Lib.hid ho4.row
  clear ho4
  clear hl4
  have HO34 := Lib.hid ((HO3.out.below hb4).any hz4)
  have HO24 := Lib.hid ((HO23.out.below hb4).any hz4)
  have HZ4 := Lib.hid ((HZ3.out.below hb4).any hz4)
  have s3 := conv_row (c := c3) HO34.out
  have s4 := conv_row (c := c4) HO4.out
  rw [TW.out] at s3
  rw [LE.out]
  generalize strOfNums (rputL zs p n u) = str at *
  go_wp2_with fail
  refine (rPut_any A2 n2 c2 (rputL zs p n v) q k u _ _ HO24.out (Nat.le_refl _) (by omega)).mono ?_
  rintro e w5 ⟨A5, n5, c5, rfl, ho5, hb5⟩
  have hz5 := hb5.size
  have hl5 := ho5.1
  have HO5 := Lib.hid ho5.row
  clear ho5
  clear hl5
  have HZ5 := Lib.hid ((HZ4.out.below hb5).any hz5)
  go_wp2_with fail
  refine (rPut_any A len c (zs) q k u _ _ HZ5.out (Nat.le_refl _) (by omega)).mono ?_
  rintro e w6 ⟨A6, n6, c6, rfl, ho6, hb6⟩
  have hz6 := hb6.size
  have hl6 := ho6.1
  have HO6 := Lib.hid ho6.row
  clear ho6
  have hm6 : n6 ≤ 140737488355328 := by
    rw [← hl6]
    have h9 : ∀ (zs : List Int) (p n v : Int), (rputL zs p n v).length ≤ zs.length := fun zs p n v => by unfold rputL; split <;> simp [putN_len]
    have := HLN.out
    have := h9 zs q k u
    omega
  clear hl6
  have HO56 := Lib.hid ((HO5.out.below hb6).any hz6)
  go_wp2_with fail
  refine (rPut_any A6 n6 c6 (rputL zs q k u) p n v _ _ HO6.out (Nat.le_refl _) (by omega)).mono ?_
  rintro e w7 ⟨A7, n7, c7, rfl, ho7, hb7⟩
  have hz7 := hb7.size
  have hl7 := ho7.1
  have HO7 := Lib.hid ho7.row
  clear ho7
  clear hl7
  have HO57 := Lib.hid ((HO56.out.below hb7).any hz7)
  rw [G1.out, G2.out]
  have s5 := conv_row (c := c5) HO57.out
  have s7 := conv_row (c := c7) HO7.out
  rw [SW.out] at s5
  generalize strOfNums (rputL (rputL zs q k u) p n v) = str at *
  go_wp2
  all_goals go_ret
  all_goals exact ⟨rfl, (by repeat' first | exact Below.refl _ _ | refine Below.alloc ?_ ?_ _ | refine below_thru ?_ (by assumption) ?_ | omega | (simp; done) | (simp; omega))⟩

theorem ramOver_walk {w : World} (A : Option Addr) (len c : Nat) (zs : List Int) (hz : Row .u8 w w.heap.size A len zs) (hwf : ∀ z ∈ zs, (Lit.int .u8 z).wf = true) (hlc : len ≤ c) (_ : c ≤ maxLen) (hbig : c ≤ 140737488351232) (p : Int) (_ : I64 p) (n : Int) (_ : I64 n) (v : Int) (_ : I64 v) (u : Int) (_ : I64 u) (q : Int) (_ : I64 q) (k : Int) (_ : I64 k) :
    Calls Try.prog 4 #[.slice A len c, .int .i64 p, .int .i64 n, .int .i64 v, .int .i64 u, .int .i64 q, .int .i64 k] w fun e w' => e = .returned (.bool true) ∧ Below w.heap.size w w' := by
  have hb := bytes_of_wf hwf
  have hlen := hz.1
  rcases rget_02 zs p n with h | h
  · have h1 := rget_E.1 h
    have h2 := rget_len (rputL_len (v := v) h) q k
    rcases rget_02 zs q k with g | g
    · have g1 := rget_E.1 g
      rw [g] at h2
      by_cases c1 : q + k ≤ p
      · exact ramOver_3 A len c zs hz hb (by omega) p n v u q k (Lib.hid h) (Lib.hid (rput_twice v u h)) (Lib.hid h2) (Lib.hid g) (by omega) (by omega) (by omega) (by omega) (by omega) (by omega) (by omega) (by omega) (Lib.hid (rput_swap v u h g (.inl c1))) c1
      · by_cases c2 : p + n ≤ q
        · exact ramOver_4 A len c zs hz hb (by omega) p n v u q k (Lib.hid h) (Lib.hid (rput_twice v u h)) (Lib.hid h2) (Lib.hid g) (by omega) (by omega) (by omega) (by omega) (by omega) (by omega) (by omega) (by omega) (Lib.hid (rput_swap v u h g (.inr c2))) c2
        · exact ramOver_2 A len c zs hz hb (by omega) p n v u q k (Lib.hid h) (Lib.hid (rput_twice v u h)) (Lib.hid h2) (Lib.hid g) (by omega) (by omega) (by omega) (by omega) (by omega) (by omega) (by omega) (by omega) (by omega) (by omega)
    · rw [g] at h2
      exact ramOver_1 A len c zs hz hb (by omega) p n v u q k (Lib.hid h) (Lib.hid (rput_twice v u h)) (Lib.hid h2) (Lib.hid g)
  · exact ramOver_0 A len c zs hz hb (by omega) p n v u q k (Lib.hid h)
end Go.Proofs.Ytidfngplhjegpaa
