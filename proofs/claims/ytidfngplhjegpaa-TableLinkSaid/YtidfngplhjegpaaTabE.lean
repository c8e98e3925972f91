/- TableBack: its walk. -/
import Derived.Test.YtidfngplhjegpaaTabD
namespace Go.Proofs.Ytidfngplhjegpaa
open Go.RowKit
set_option linter.unusedVariables false
theorem blk_on {w w' : World} {b : Nat} {x : Obj} (h : w.heap[b]? = some x) (hb : Below w.heap.size w w') : w'.heap[b]? = some x := (hb.block b (blk_lt h)).trans h
theorem div8 {x : Int} (h0 : 0 ≤ x) (h1 : x < 64) : wrap64 (x.tdiv 8) = x / 8 := by
  rw [Int.tdiv_eq_ediv_of_nonneg h0]; unfold wrap64; omega

set_option maxHeartbeats 4000000 in
theorem tableBack_0 {w : World} (A : Option Addr) (len c : Nat) (zs : List Int) (hz : Row .u8 w w.heap.size A len zs) (hn : len ≤ 140737488355328) (root page K N other E : Int) (S : List Int) (H1 : Hid (∀ W A n c, Row .u8 W W.heap.size A n zs → n ≤ 140737488355328 → Calls Try.prog 25 #[.slice A n c, .int .i64 root, .int .i64 page, .agg #[.int .i64 K, .int .i64 N]] W (TPutP 5 E S W))) (HS : Hid (S = [])) (hE : (E != 0) = true) :
    Calls Try.prog 8 #[.slice A len c, .int .i64 root, .int .i64 page, .agg #[.int .i64 K, .int .i64 N], .int .i64 other] w fun e w' => e = .returned (.bool true) ∧ Below w.heap.size w w' := by
  have Rr0 := Lib.hid hz
  clear hz
  go_enter Try.func8, Try.ntmps8
  go_wp2_with fail
  refine (alive5_any _).mono ?_
  rintro e w1 ⟨rfl, hb1⟩
  simp only [World.size_alloc] at hb1
  have hv1 : Below w.heap.size w w1 := ((Below.refl w.heap.size w).alloc (by simp) _).trans (hb1.mono (by omega))
  have hw1 : Below w.heap.size w w1 := hv1
  have Kx1z := heap_alloc_new w (.cells #[.int .i64 K, .int .i64 N] 36)
  have Kx1 := Lib.hid (blk_on Kx1z (by simpa using hb1))
  have xx1 : ∀ o, w1.cell? ⟨w.heap.size, o, none⟩ = (#[.int .i64 K, .int .i64 N] : Array Value)[o]? := fun o => blk_cell Kx1.out o
  have lx1 : w.heap.size < w1.heap.size := blk_lt Kx1.out
  clear Kx1z
  have Rr1 := Lib.hid (Rr0.out.any' hv1 (Nat.le_refl _))
  go_wp2_with fail
  refine (H1.out _ A len c (Rr1.out) hn).mono ?_
  rintro e w2 ⟨As, ns, cs, rfl, ho, hb2⟩
  have hv2 := hb2
  have hw2 : Below w.heap.size w w2 := hw1.trans (hv2.mono hw1.size)
  have Kx2 := Lib.hid (blk_on Kx1.out hv2)
  have xx2 : ∀ o, w2.cell? ⟨w.heap.size, o, none⟩ = (#[.int .i64 K, .int .i64 N] : Array Value)[o]? := fun o => blk_cell Kx2.out o
  have lx2 : w.heap.size < w2.heap.size := blk_lt Kx2.out
  clear xx1 lx1
  have Rr2 := Lib.hid (Rr1.out.any' hv2 (Nat.le_refl _))
  have hns := ho.1
  have Rs2 := Lib.hid (ho.row)
  have hns0 : ns = 0 := by rw [HS.out] at hns; exact hns.symm
  subst hns0
  clear hns ho
  go_wp2
  go_ret
  exact ⟨rfl, hw2⟩

set_option maxHeartbeats 4000000 in
theorem tableBack_1 {w : World} (A : Option Addr) (len c : Nat) (zs : List Int) (hz : Row .u8 w w.heap.size A len zs) (hn : len ≤ 140737488355328) (root page K N other E : Int) (S : List Int) (H1 : Hid (∀ W A n c, Row .u8 W W.heap.size A n zs → n ≤ 140737488355328 → Calls Try.prog 25 #[.slice A n c, .int .i64 root, .int .i64 page, .agg #[.int .i64 K, .int .i64 N]] W (TPutP 5 E S W))) (K2 N2 E2 : Int) (HSL : Hid (S.length ≤ 140737488355328)) (H2 : Hid (∀ W A n c, Row .u8 W W.heap.size A n S → n ≤ 140737488355328 → Calls Try.prog 23 #[.slice A n c, .int .i64 root, .int .i64 page] W fun e w' => e = .returned (.tuple #[.agg #[.int .i64 K2, .int .i64 N2], .int .i64 E2]) ∧ Below W.heap.size W w')) (H3 : Hid (∀ W A n c, Row .u8 W W.heap.size A n zs → n ≤ 140737488355328 → Calls Try.prog 21 #[.slice A n c, .int .i64 root, .int .i64 page] W fun e w' => e = .returned (.tuple #[.int .i64 root, .int .i64 0]) ∧ Below W.heap.size W w')) (hE : (E == 0) = true) (hE2 : (E != 0) = false) :
    Calls Try.prog 8 #[.slice A len c, .int .i64 root, .int .i64 page, .agg #[.int .i64 K, .int .i64 N], .int .i64 other] w fun e w' => e = .returned (.bool true) ∧ Below w.heap.size w w' := by
  have Rr0 := Lib.hid hz
  clear hz
  go_enter Try.func8, Try.ntmps8
  go_wp2_with fail
  refine (alive5_any _).mono ?_
  rintro e w1 ⟨rfl, hb1⟩
  simp only [World.size_alloc] at hb1
  have hv1 : Below w.heap.size w w1 := ((Below.refl w.heap.size w).alloc (by simp) _).trans (hb1.mono (by omega))
  have hw1 : Below w.heap.size w w1 := hv1
  have Kx1z := heap_alloc_new w (.cells #[.int .i64 K, .int .i64 N] 36)
  have Kx1 := Lib.hid (blk_on Kx1z (by simpa using hb1))
  have xx1 : ∀ o, w1.cell? ⟨w.heap.size, o, none⟩ = (#[.int .i64 K, .int .i64 N] : Array Value)[o]? := fun o => blk_cell Kx1.out o
  have lx1 : w.heap.size < w1.heap.size := blk_lt Kx1.out
  clear Kx1z
  have Rr1 := Lib.hid (Rr0.out.any' hv1 (Nat.le_refl _))
  go_wp2_with fail
  refine (H1.out _ A len c (Rr1.out) hn).mono ?_
  rintro e w2 ⟨As, ns, cs, rfl, ho, hb2⟩
  have hv2 := hb2
  have hw2 : Below w.heap.size w w2 := hw1.trans (hv2.mono hw1.size)
  have Kx2 := Lib.hid (blk_on Kx1.out hv2)
  have xx2 : ∀ o, w2.cell? ⟨w.heap.size, o, none⟩ = (#[.int .i64 K, .int .i64 N] : Array Value)[o]? := fun o => blk_cell Kx2.out o
  have lx2 : w.heap.size < w2.heap.size := blk_lt Kx2.out
  clear xx1 lx1
  have Rr2 := Lib.hid (Rr1.out.any' hv2 (Nat.le_refl _))
  have hns := ho.1
  have Rs2 := Lib.hid (ho.row)
  have hns2 : ns ≤ 140737488355328 := by rw [← hns]; exact HSL.out
  clear hns ho
  go_wp2_with fail
  refine (H2.out _ As ns cs (Rs2.out) hns2).mono ?_
  rintro e w3 ⟨rfl, hb3⟩
  have hv3 := hb3
  have hw3 : Below w.heap.size w w3 := hw2.trans (hv3.mono hw2.size)
  have Kx3 := Lib.hid (blk_on Kx2.out hv3)
  have xx3 : ∀ o, w3.cell? ⟨w.heap.size, o, none⟩ = (#[.int .i64 K, .int .i64 N] : Array Value)[o]? := fun o => blk_cell Kx3.out o
  have lx3 : w.heap.size < w3.heap.size := blk_lt Kx3.out
  clear xx2 lx2
  have Rr3 := Lib.hid (Rr2.out.any' hv3 (Nat.le_refl _))
  have Rs3 := Lib.hid (Rs2.out.any' hv3 (Nat.le_refl _))
  go_wp2_with fail
  refine (H3.out _ A len c ((Rr3.out.any' ((Below.refl _ _).alloc (Nat.le_refl _) (.cells #[.int .i64 K2, .int .i64 N2] 36)) (Nat.le_refl _))) hn).mono ?_
  rintro e w4 ⟨rfl, hb4⟩
  simp only [World.size_alloc] at hb4
  have hv4 : Below w3.heap.size w3 w4 := ((Below.refl w3.heap.size w3).alloc (by simp) _).trans (hb4.mono (by omega))
  have hw4 : Below w.heap.size w w4 := hw3.trans (hv4.mono hw3.size)
  have Kx4 := Lib.hid (blk_on Kx3.out hv4)
  have xx4 : ∀ o, w4.cell? ⟨w.heap.size, o, none⟩ = (#[.int .i64 K, .int .i64 N] : Array Value)[o]? := fun o => blk_cell Kx4.out o
  have lx4 : w.heap.size < w4.heap.size := blk_lt Kx4.out
  clear xx3 lx3
  have Ky4z := heap_alloc_new w3 (.cells #[.int .i64 K2, .int .i64 N2] 36)
  have Ky4 := Lib.hid (blk_on Ky4z (by simpa using hb4))
  have xy4 : ∀ o, w4.cell? ⟨w3.heap.size, o, none⟩ = (#[.int .i64 K2, .int .i64 N2] : Array Value)[o]? := fun o => blk_cell Ky4.out o
  have ly4 : w3.heap.size < w4.heap.size := blk_lt Ky4.out
  clear Ky4z
  have Rr4 := Lib.hid (Rr3.out.any' hv4 (Nat.le_refl _))
  have Rs4 := Lib.hid (Rs3.out.any' hv4 (Nat.le_refl _))
  go_wp2
  go_ret
  exact ⟨rfl, hw4⟩

set_option maxHeartbeats 4000000 in
theorem tableBack_2 {w : World} (A : Option Addr) (len c : Nat) (zs : List Int) (hz : Row .u8 w w.heap.size A len zs) (hn : len ≤ 140737488355328) (root page K N other E : Int) (S : List Int) (H1 : Hid (∀ W A n c, Row .u8 W W.heap.size A n zs → n ≤ 140737488355328 → Calls Try.prog 25 #[.slice A n c, .int .i64 root, .int .i64 page, .agg #[.int .i64 K, .int .i64 N]] W (TPutP 5 E S W))) (V V2 E2 : Int) (HSL : Hid (S.length ≤ 140737488355328)) (H2 : Hid (∀ W A n c, Row .u8 W W.heap.size A n S → n ≤ 140737488355328 → Calls Try.prog 23 #[.slice A n c, .int .i64 root, .int .i64 page] W fun e w' => e = .returned (.tuple #[.agg #[.int .i64 K, .int .i64 N], .int .i64 0]) ∧ Below W.heap.size W w')) (H3 : Hid (∀ W A n c, Row .u8 W W.heap.size A n zs → n ≤ 140737488355328 → Calls Try.prog 21 #[.slice A n c, .int .i64 root, .int .i64 page] W fun e w' => e = .returned (.tuple #[.int .i64 V, .int .i64 0]) ∧ Below W.heap.size W w')) (H4 : Hid (∀ W A n c, Row .u8 W W.heap.size A n zs → n ≤ 140737488355328 → Calls Try.prog 21 #[.slice A n c, .int .i64 root, .int .i64 other] W fun e w' => e = .returned (.tuple #[.int .i64 V2, .int .i64 E2]) ∧ Below W.heap.size W w')) (hE2 : (E != 0) = false) (hV : (V == root) = false) (g1 : (E2 == 0) = true) (g2 : (V2 == V) = true) (p0 : 0 ≤ page) (q0 : 0 ≤ other) (g3 : (wrap64 (other.tdiv 8) != wrap64 (page.tdiv 8)) = true) :
    Calls Try.prog 8 #[.slice A len c, .int .i64 root, .int .i64 page, .agg #[.int .i64 K, .int .i64 N], .int .i64 other] w fun e w' => e = .returned (.bool true) ∧ Below w.heap.size w w' := by
  have Rr0 := Lib.hid hz
  clear hz
  go_enter Try.func8, Try.ntmps8
  go_wp2_with fail
  refine (alive5_any _).mono ?_
  rintro e w1 ⟨rfl, hb1⟩
  simp only [World.size_alloc] at hb1
  have hv1 : Below w.heap.size w w1 := ((Below.refl w.heap.size w).alloc (by simp) _).trans (hb1.mono (by omega))
  have hw1 : Below w.heap.size w w1 := hv1
  have Kx1z := heap_alloc_new w (.cells #[.int .i64 K, .int .i64 N] 36)
  have Kx1 := Lib.hid (blk_on Kx1z (by simpa using hb1))
  have xx1 : ∀ o, w1.cell? ⟨w.heap.size, o, none⟩ = (#[.int .i64 K, .int .i64 N] : Array Value)[o]? := fun o => blk_cell Kx1.out o
  have lx1 : w.heap.size < w1.heap.size := blk_lt Kx1.out
  clear Kx1z
  have Rr1 := Lib.hid (Rr0.out.any' hv1 (Nat.le_refl _))
  go_wp2_with fail
  refine (H1.out _ A len c (Rr1.out) hn).mono ?_
  rintro e w2 ⟨As, ns, cs, rfl, ho, hb2⟩
  have hv2 := hb2
  have hw2 : Below w.heap.size w w2 := hw1.trans (hv2.mono hw1.size)
  have Kx2 := Lib.hid (blk_on Kx1.out hv2)
  have xx2 : ∀ o, w2.cell? ⟨w.heap.size, o, none⟩ = (#[.int .i64 K, .int .i64 N] : Array Value)[o]? := fun o => blk_cell Kx2.out o
  have lx2 : w.heap.size < w2.heap.size := blk_lt Kx2.out
  clear xx1 lx1
  have Rr2 := Lib.hid (Rr1.out.any' hv2 (Nat.le_refl _))
  have hns := ho.1
  have Rs2 := Lib.hid (ho.row)
  have hns2 : ns ≤ 140737488355328 := by rw [← hns]; exact HSL.out
  clear hns ho
  go_wp2_with fail
  refine (H2.out _ As ns cs (Rs2.out) hns2).mono ?_
  rintro e w3 ⟨rfl, hb3⟩
  have hv3 := hb3
  have hw3 : Below w.heap.size w w3 := hw2.trans (hv3.mono hw2.size)
  have Kx3 := Lib.hid (blk_on Kx2.out hv3)
  have xx3 : ∀ o, w3.cell? ⟨w.heap.size, o, none⟩ = (#[.int .i64 K, .int .i64 N] : Array Value)[o]? := fun o => blk_cell Kx3.out o
  have lx3 : w.heap.size < w3.heap.size := blk_lt Kx3.out
  clear xx2 lx2
  have Rr3 := Lib.hid (Rr2.out.any' hv3 (Nat.le_refl _))
  have Rs3 := Lib.hid (Rs2.out.any' hv3 (Nat.le_refl _))
  go_wp2_with fail
  refine (H3.out _ A len c ((Rr3.out.any' ((Below.refl _ _).alloc (Nat.le_refl _) (.cells #[.int .i64 K, .int .i64 N] 36)) (Nat.le_refl _))) hn).mono ?_
  rintro e w4 ⟨rfl, hb4⟩
  simp only [World.size_alloc] at hb4
  have hv4 : Below w3.heap.size w3 w4 := ((Below.refl w3.heap.size w3).alloc (by simp) _).trans (hb4.mono (by omega))
  have hw4 : Below w.heap.size w w4 := hw3.trans (hv4.mono hw3.size)
  have Kx4 := Lib.hid (blk_on Kx3.out hv4)
  have xx4 : ∀ o, w4.cell? ⟨w.heap.size, o, none⟩ = (#[.int .i64 K, .int .i64 N] : Array Value)[o]? := fun o => blk_cell Kx4.out o
  have lx4 : w.heap.size < w4.heap.size := blk_lt Kx4.out
  clear xx3 lx3
  have Ky4z := heap_alloc_new w3 (.cells #[.int .i64 K, .int .i64 N] 36)
  have Ky4 := Lib.hid (blk_on Ky4z (by simpa using hb4))
  have xy4 : ∀ o, w4.cell? ⟨w3.heap.size, o, none⟩ = (#[.int .i64 K, .int .i64 N] : Array Value)[o]? := fun o => blk_cell Ky4.out o
  have ly4 : w3.heap.size < w4.heap.size := blk_lt Ky4.out
  clear Ky4z
  have Rr4 := Lib.hid (Rr3.out.any' hv4 (Nat.le_refl _))
  have Rs4 := Lib.hid (Rs3.out.any' hv4 (Nat.le_refl _))
  go_wp2_with fail
  refine (H4.out _ A len c (Rr4.out) hn).mono ?_
  rintro e w5 ⟨rfl, hb5⟩
  have hv5 := hb5
  have hw5 : Below w.heap.size w w5 := hw4.trans (hv5.mono hw4.size)
  have Kx5 := Lib.hid (blk_on Kx4.out hv5)
  have xx5 : ∀ o, w5.cell? ⟨w.heap.size, o, none⟩ = (#[.int .i64 K, .int .i64 N] : Array Value)[o]? := fun o => blk_cell Kx5.out o
  have lx5 : w.heap.size < w5.heap.size := blk_lt Kx5.out
  clear xx4 lx4
  have Ky5 := Lib.hid (blk_on Ky4.out hv5)
  have xy5 : ∀ o, w5.cell? ⟨w3.heap.size, o, none⟩ = (#[.int .i64 K, .int .i64 N] : Array Value)[o]? := fun o => blk_cell Ky5.out o
  have ly5 : w3.heap.size < w5.heap.size := blk_lt Ky5.out
  clear xy4 ly4
  have Rr5 := Lib.hid (Rr4.out.any' hv5 (Nat.le_refl _))
  have Rs5 := Lib.hid (Rs4.out.any' hv5 (Nat.le_refl _))
  go_wp2
  go_ret
  exact ⟨rfl, hw5⟩

set_option maxHeartbeats 4000000 in
theorem tableBack_3 {w : World} (A : Option Addr) (len c : Nat) (zs : List Int) (hz : Row .u8 w w.heap.size A len zs) (hn : len ≤ 140737488355328) (root page K N other E : Int) (S : List Int) (H1 : Hid (∀ W A n c, Row .u8 W W.heap.size A n zs → n ≤ 140737488355328 → Calls Try.prog 25 #[.slice A n c, .int .i64 root, .int .i64 page, .agg #[.int .i64 K, .int .i64 N]] W (TPutP 5 E S W))) (V V2 E2 : Int) (HSL : Hid (S.length ≤ 140737488355328)) (H2 : Hid (∀ W A n c, Row .u8 W W.heap.size A n S → n ≤ 140737488355328 → Calls Try.prog 23 #[.slice A n c, .int .i64 root, .int .i64 page] W fun e w' => e = .returned (.tuple #[.agg #[.int .i64 K, .int .i64 N], .int .i64 0]) ∧ Below W.heap.size W w')) (H3 : Hid (∀ W A n c, Row .u8 W W.heap.size A n zs → n ≤ 140737488355328 → Calls Try.prog 21 #[.slice A n c, .int .i64 root, .int .i64 page] W fun e w' => e = .returned (.tuple #[.int .i64 V, .int .i64 0]) ∧ Below W.heap.size W w')) (H4 : Hid (∀ W A n c, Row .u8 W W.heap.size A n zs → n ≤ 140737488355328 → Calls Try.prog 21 #[.slice A n c, .int .i64 root, .int .i64 other] W fun e w' => e = .returned (.tuple #[.int .i64 V2, .int .i64 E2]) ∧ Below W.heap.size W w')) (hE2 : (E != 0) = false) (hV : (V == root) = false) (g1 : (E2 == 0) = true) (g2 : (V2 == V) = true) (p0 : 0 ≤ page) (q0 : 0 ≤ other) (g3 : (wrap64 (other.tdiv 8) != wrap64 (page.tdiv 8)) = false) (g4 : (other == page) = true) :
    Calls Try.prog 8 #[.slice A len c, .int .i64 root, .int .i64 page, .agg #[.int .i64 K, .int .i64 N], .int .i64 other] w fun e w' => e = .returned (.bool true) ∧ Below w.heap.size w w' := by
  have Rr0 := Lib.hid hz
  clear hz
  go_enter Try.func8, Try.ntmps8
  go_wp2_with fail
  refine (alive5_any _).mono ?_
  rintro e w1 ⟨rfl, hb1⟩
  simp only [World.size_alloc] at hb1
  have hv1 : Below w.heap.size w w1 := ((Below.refl w.heap.size w).alloc (by simp) _).trans (hb1.mono (by omega))
  have hw1 : Below w.heap.size w w1 := hv1
  have Kx1z := heap_alloc_new w (.cells #[.int .i64 K, .int .i64 N] 36)
  have Kx1 := Lib.hid (blk_on Kx1z (by simpa using hb1))
  have xx1 : ∀ o, w1.cell? ⟨w.heap.size, o, none⟩ = (#[.int .i64 K, .int .i64 N] : Array Value)[o]? := fun o => blk_cell Kx1.out o
  have lx1 : w.heap.size < w1.heap.size := blk_lt Kx1.out
  clear Kx1z
  have Rr1 := Lib.hid (Rr0.out.any' hv1 (Nat.le_refl _))
  go_wp2_with fail
  refine (H1.out _ A len c (Rr1.out) hn).mono ?_
  rintro e w2 ⟨As, ns, cs, rfl, ho, hb2⟩
  have hv2 := hb2
  have hw2 : Below w.heap.size w w2 := hw1.trans (hv2.mono hw1.size)
  have Kx2 := Lib.hid (blk_on Kx1.out hv2)
  have xx2 : ∀ o, w2.cell? ⟨w.heap.size, o, none⟩ = (#[.int .i64 K, .int .i64 N] : Array Value)[o]? := fun o => blk_cell Kx2.out o
  have lx2 : w.heap.size < w2.heap.size := blk_lt Kx2.out
  clear xx1 lx1
  have Rr2 := Lib.hid (Rr1.out.any' hv2 (Nat.le_refl _))
  have hns := ho.1
  have Rs2 := Lib.hid (ho.row)
  have hns2 : ns ≤ 140737488355328 := by rw [← hns]; exact HSL.out
  clear hns ho
  go_wp2_with fail
  refine (H2.out _ As ns cs (Rs2.out) hns2).mono ?_
  rintro e w3 ⟨rfl, hb3⟩
  have hv3 := hb3
  have hw3 : Below w.heap.size w w3 := hw2.trans (hv3.mono hw2.size)
  have Kx3 := Lib.hid (blk_on Kx2.out hv3)
  have xx3 : ∀ o, w3.cell? ⟨w.heap.size, o, none⟩ = (#[.int .i64 K, .int .i64 N] : Array Value)[o]? := fun o => blk_cell Kx3.out o
  have lx3 : w.heap.size < w3.heap.size := blk_lt Kx3.out
  clear xx2 lx2
  have Rr3 := Lib.hid (Rr2.out.any' hv3 (Nat.le_refl _))
  have Rs3 := Lib.hid (Rs2.out.any' hv3 (Nat.le_refl _))
  go_wp2_with fail
  refine (H3.out _ A len c ((Rr3.out.any' ((Below.refl _ _).alloc (Nat.le_refl _) (.cells #[.int .i64 K, .int .i64 N] 36)) (Nat.le_refl _))) hn).mono ?_
  rintro e w4 ⟨rfl, hb4⟩
  simp only [World.size_alloc] at hb4
  have hv4 : Below w3.heap.size w3 w4 := ((Below.refl w3.heap.size w3).alloc (by simp) _).trans (hb4.mono (by omega))
  have hw4 : Below w.heap.size w w4 := hw3.trans (hv4.mono hw3.size)
  have Kx4 := Lib.hid (blk_on Kx3.out hv4)
  have xx4 : ∀ o, w4.cell? ⟨w.heap.size, o, none⟩ = (#[.int .i64 K, .int .i64 N] : Array Value)[o]? := fun o => blk_cell Kx4.out o
  have lx4 : w.heap.size < w4.heap.size := blk_lt Kx4.out
  clear xx3 lx3
  have Ky4z := heap_alloc_new w3 (.cells #[.int .i64 K, .int .i64 N] 36)
  have Ky4 := Lib.hid (blk_on Ky4z (by simpa using hb4))
  have xy4 : ∀ o, w4.cell? ⟨w3.heap.size, o, none⟩ = (#[.int .i64 K, .int .i64 N] : Array Value)[o]? := fun o => blk_cell Ky4.out o
  have ly4 : w3.heap.size < w4.heap.size := blk_lt Ky4.out
  clear Ky4z
  have Rr4 := Lib.hid (Rr3.out.any' hv4 (Nat.le_refl _))
  have Rs4 := Lib.hid (Rs3.out.any' hv4 (Nat.le_refl _))
  go_wp2_with fail
  refine (H4.out _ A len c (Rr4.out) hn).mono ?_
  rintro e w5 ⟨rfl, hb5⟩
  have hv5 := hb5
  have hw5 : Below w.heap.size w w5 := hw4.trans (hv5.mono hw4.size)
  have Kx5 := Lib.hid (blk_on Kx4.out hv5)
  have xx5 : ∀ o, w5.cell? ⟨w.heap.size, o, none⟩ = (#[.int .i64 K, .int .i64 N] : Array Value)[o]? := fun o => blk_cell Kx5.out o
  have lx5 : w.heap.size < w5.heap.size := blk_lt Kx5.out
  clear xx4 lx4
  have Ky5 := Lib.hid (blk_on Ky4.out hv5)
  have xy5 : ∀ o, w5.cell? ⟨w3.heap.size, o, none⟩ = (#[.int .i64 K, .int .i64 N] : Array Value)[o]? := fun o => blk_cell Ky5.out o
  have ly5 : w3.heap.size < w5.heap.size := blk_lt Ky5.out
  clear xy4 ly4
  have Rr5 := Lib.hid (Rr4.out.any' hv5 (Nat.le_refl _))
  have Rs5 := Lib.hid (Rs4.out.any' hv5 (Nat.le_refl _))
  go_wp2
  go_ret
  exact ⟨rfl, hw5⟩

set_option maxHeartbeats 4000000 in
theorem tableBack_4 {w : World} (A : Option Addr) (len c : Nat) (zs : List Int) (hz : Row .u8 w w.heap.size A len zs) (hn : len ≤ 140737488355328) (root page K N other E : Int) (S : List Int) (H1 : Hid (∀ W A n c, Row .u8 W W.heap.size A n zs → n ≤ 140737488355328 → Calls Try.prog 25 #[.slice A n c, .int .i64 root, .int .i64 page, .agg #[.int .i64 K, .int .i64 N]] W (TPutP 5 E S W))) (V V2 E2 : Int) (HSL : Hid (S.length ≤ 140737488355328)) (H2 : Hid (∀ W A n c, Row .u8 W W.heap.size A n S → n ≤ 140737488355328 → Calls Try.prog 23 #[.slice A n c, .int .i64 root, .int .i64 page] W fun e w' => e = .returned (.tuple #[.agg #[.int .i64 K, .int .i64 N], .int .i64 0]) ∧ Below W.heap.size W w')) (H3 : Hid (∀ W A n c, Row .u8 W W.heap.size A n zs → n ≤ 140737488355328 → Calls Try.prog 21 #[.slice A n c, .int .i64 root, .int .i64 page] W fun e w' => e = .returned (.tuple #[.int .i64 V, .int .i64 0]) ∧ Below W.heap.size W w')) (H4 : Hid (∀ W A n c, Row .u8 W W.heap.size A n zs → n ≤ 140737488355328 → Calls Try.prog 21 #[.slice A n c, .int .i64 root, .int .i64 other] W fun e w' => e = .returned (.tuple #[.int .i64 V2, .int .i64 E2]) ∧ Below W.heap.size W w')) (hE2 : (E != 0) = false) (hV : (V == root) = false) (G P Q : Int) (H5 : Hid (∀ W A n c, Row .u8 W W.heap.size A n zs → n ≤ 140737488355328 → Calls Try.prog 23 #[.slice A n c, .int .i64 root, .int .i64 other] W fun e w' => e = .returned (.tuple #[.agg #[.int .i64 P, .int .i64 Q], .int .i64 G]) ∧ Below W.heap.size W w')) (H6 : Hid (∀ W A n c, Row .u8 W W.heap.size A n S → n ≤ 140737488355328 → Calls Try.prog 23 #[.slice A n c, .int .i64 root, .int .i64 other] W fun e w' => e = .returned (.tuple #[.agg #[.int .i64 P, .int .i64 Q], .int .i64 G]) ∧ Below W.heap.size W w')) (g1 : (E2 == 0) = false) (g4 : (other == page) = false) :
    Calls Try.prog 8 #[.slice A len c, .int .i64 root, .int .i64 page, .agg #[.int .i64 K, .int .i64 N], .int .i64 other] w fun e w' => e = .returned (.bool true) ∧ Below w.heap.size w w' := by
  have Rr0 := Lib.hid hz
  clear hz
  go_enter Try.func8, Try.ntmps8
  go_wp2_with fail
  refine (alive5_any _).mono ?_
  rintro e w1 ⟨rfl, hb1⟩
  simp only [World.size_alloc] at hb1
  have hv1 : Below w.heap.size w w1 := ((Below.refl w.heap.size w).alloc (by simp) _).trans (hb1.mono (by omega))
  have hw1 : Below w.heap.size w w1 := hv1
  have Kx1z := heap_alloc_new w (.cells #[.int .i64 K, .int .i64 N] 36)
  have Kx1 := Lib.hid (blk_on Kx1z (by simpa using hb1))
  have xx1 : ∀ o, w1.cell? ⟨w.heap.size, o, none⟩ = (#[.int .i64 K, .int .i64 N] : Array Value)[o]? := fun o => blk_cell Kx1.out o
  have lx1 : w.heap.size < w1.heap.size := blk_lt Kx1.out
  clear Kx1z
  have Rr1 := Lib.hid (Rr0.out.any' hv1 (Nat.le_refl _))
  go_wp2_with fail
  refine (H1.out _ A len c (Rr1.out) hn).mono ?_
  rintro e w2 ⟨As, ns, cs, rfl, ho, hb2⟩
  have hv2 := hb2
  have hw2 : Below w.heap.size w w2 := hw1.trans (hv2.mono hw1.size)
  have Kx2 := Lib.hid (blk_on Kx1.out hv2)
  have xx2 : ∀ o, w2.cell? ⟨w.heap.size, o, none⟩ = (#[.int .i64 K, .int .i64 N] : Array Value)[o]? := fun o => blk_cell Kx2.out o
  have lx2 : w.heap.size < w2.heap.size := blk_lt Kx2.out
  clear xx1 lx1
  have Rr2 := Lib.hid (Rr1.out.any' hv2 (Nat.le_refl _))
  have hns := ho.1
  have Rs2 := Lib.hid (ho.row)
  have hns2 : ns ≤ 140737488355328 := by rw [← hns]; exact HSL.out
  clear hns ho
  go_wp2_with fail
  refine (H2.out _ As ns cs (Rs2.out) hns2).mono ?_
  rintro e w3 ⟨rfl, hb3⟩
  have hv3 := hb3
  have hw3 : Below w.heap.size w w3 := hw2.trans (hv3.mono hw2.size)
  have Kx3 := Lib.hid (blk_on Kx2.out hv3)
  have xx3 : ∀ o, w3.cell? ⟨w.heap.size, o, none⟩ = (#[.int .i64 K, .int .i64 N] : Array Value)[o]? := fun o => blk_cell Kx3.out o
  have lx3 : w.heap.size < w3.heap.size := blk_lt Kx3.out
  clear xx2 lx2
  have Rr3 := Lib.hid (Rr2.out.any' hv3 (Nat.le_refl _))
  have Rs3 := Lib.hid (Rs2.out.any' hv3 (Nat.le_refl _))
  go_wp2_with fail
  refine (H3.out _ A len c ((Rr3.out.any' ((Below.refl _ _).alloc (Nat.le_refl _) (.cells #[.int .i64 K, .int .i64 N] 36)) (Nat.le_refl _))) hn).mono ?_
  rintro e w4 ⟨rfl, hb4⟩
  simp only [World.size_alloc] at hb4
  have hv4 : Below w3.heap.size w3 w4 := ((Below.refl w3.heap.size w3).alloc (by simp) _).trans (hb4.mono (by omega))
  have hw4 : Below w.heap.size w w4 := hw3.trans (hv4.mono hw3.size)
  have Kx4 := Lib.hid (blk_on Kx3.out hv4)
  have xx4 : ∀ o, w4.cell? ⟨w.heap.size, o, none⟩ = (#[.int .i64 K, .int .i64 N] : Array Value)[o]? := fun o => blk_cell Kx4.out o
  have lx4 : w.heap.size < w4.heap.size := blk_lt Kx4.out
  clear xx3 lx3
  have Ky4z := heap_alloc_new w3 (.cells #[.int .i64 K, .int .i64 N] 36)
  have Ky4 := Lib.hid (blk_on Ky4z (by simpa using hb4))
  have xy4 : ∀ o, w4.cell? ⟨w3.heap.size, o, none⟩ = (#[.int .i64 K, .int .i64 N] : Array Value)[o]? := fun o => blk_cell Ky4.out o
  have ly4 : w3.heap.size < w4.heap.size := blk_lt Ky4.out
  clear Ky4z
  have Rr4 := Lib.hid (Rr3.out.any' hv4 (Nat.le_refl _))
  have Rs4 := Lib.hid (Rs3.out.any' hv4 (Nat.le_refl _))
  go_wp2_with fail
  refine (H4.out _ A len c (Rr4.out) hn).mono ?_
  rintro e w5 ⟨rfl, hb5⟩
  have hv5 := hb5
  have hw5 : Below w.heap.size w w5 := hw4.trans (hv5.mono hw4.size)
  have Kx5 := Lib.hid (blk_on Kx4.out hv5)
  have xx5 : ∀ o, w5.cell? ⟨w.heap.size, o, none⟩ = (#[.int .i64 K, .int .i64 N] : Array Value)[o]? := fun o => blk_cell Kx5.out o
  have lx5 : w.heap.size < w5.heap.size := blk_lt Kx5.out
  clear xx4 lx4
  have Ky5 := Lib.hid (blk_on Ky4.out hv5)
  have xy5 : ∀ o, w5.cell? ⟨w3.heap.size, o, none⟩ = (#[.int .i64 K, .int .i64 N] : Array Value)[o]? := fun o => blk_cell Ky5.out o
  have ly5 : w3.heap.size < w5.heap.size := blk_lt Ky5.out
  clear xy4 ly4
  have Rr5 := Lib.hid (Rr4.out.any' hv5 (Nat.le_refl _))
  have Rs5 := Lib.hid (Rs4.out.any' hv5 (Nat.le_refl _))
  go_wp2_with fail
  refine (H5.out _ A len c (Rr5.out) hn).mono ?_
  rintro e w6 ⟨rfl, hb6⟩
  have hv6 := hb6
  have hw6 : Below w.heap.size w w6 := hw5.trans (hv6.mono hw5.size)
  have Kx6 := Lib.hid (blk_on Kx5.out hv6)
  have xx6 : ∀ o, w6.cell? ⟨w.heap.size, o, none⟩ = (#[.int .i64 K, .int .i64 N] : Array Value)[o]? := fun o => blk_cell Kx6.out o
  have lx6 : w.heap.size < w6.heap.size := blk_lt Kx6.out
  clear xx5 lx5
  have Ky6 := Lib.hid (blk_on Ky5.out hv6)
  have xy6 : ∀ o, w6.cell? ⟨w3.heap.size, o, none⟩ = (#[.int .i64 K, .int .i64 N] : Array Value)[o]? := fun o => blk_cell Ky6.out o
  have ly6 : w3.heap.size < w6.heap.size := blk_lt Ky6.out
  clear xy5 ly5
  have Rr6 := Lib.hid (Rr5.out.any' hv6 (Nat.le_refl _))
  have Rs6 := Lib.hid (Rs5.out.any' hv6 (Nat.le_refl _))
  go_wp2_with fail
  refine (H6.out _ As ns cs ((Rs6.out.any' ((Below.refl _ _).alloc (Nat.le_refl _) (.cells #[.int .i64 P, .int .i64 Q] 36)) (Nat.le_refl _))) hns2).mono ?_
  rintro e w7 ⟨rfl, hb7⟩
  simp only [World.size_alloc] at hb7
  have hv7 : Below w6.heap.size w6 w7 := ((Below.refl w6.heap.size w6).alloc (by simp) _).trans (hb7.mono (by omega))
  have hw7 : Below w.heap.size w w7 := hw6.trans (hv7.mono hw6.size)
  have Kx7 := Lib.hid (blk_on Kx6.out hv7)
  have xx7 : ∀ o, w7.cell? ⟨w.heap.size, o, none⟩ = (#[.int .i64 K, .int .i64 N] : Array Value)[o]? := fun o => blk_cell Kx7.out o
  have lx7 : w.heap.size < w7.heap.size := blk_lt Kx7.out
  clear xx6 lx6
  have Ky7 := Lib.hid (blk_on Ky6.out hv7)
  have xy7 : ∀ o, w7.cell? ⟨w3.heap.size, o, none⟩ = (#[.int .i64 K, .int .i64 N] : Array Value)[o]? := fun o => blk_cell Ky7.out o
  have ly7 : w3.heap.size < w7.heap.size := blk_lt Ky7.out
  clear xy6 ly6
  have Ka7z := heap_alloc_new w6 (.cells #[.int .i64 P, .int .i64 Q] 36)
  have Ka7 := Lib.hid (blk_on Ka7z (by simpa using hb7))
  have xa7 : ∀ o, w7.cell? ⟨w6.heap.size, o, none⟩ = (#[.int .i64 P, .int .i64 Q] : Array Value)[o]? := fun o => blk_cell Ka7.out o
  have la7 : w6.heap.size < w7.heap.size := blk_lt Ka7.out
  clear Ka7z
  have Rr7 := Lib.hid (Rr6.out.any' hv7 (Nat.le_refl _))
  have Rs7 := Lib.hid (Rs6.out.any' hv7 (Nat.le_refl _))
  go_wp2
  all_goals go_ret
  all_goals exact ⟨rfl, (hw7.alloc (Nat.le_trans hw7.size (by simp)) _)⟩

set_option maxHeartbeats 4000000 in
theorem tableBack_5 {w : World} (A : Option Addr) (len c : Nat) (zs : List Int) (hz : Row .u8 w w.heap.size A len zs) (hn : len ≤ 140737488355328) (root page K N other E : Int) (S : List Int) (H1 : Hid (∀ W A n c, Row .u8 W W.heap.size A n zs → n ≤ 140737488355328 → Calls Try.prog 25 #[.slice A n c, .int .i64 root, .int .i64 page, .agg #[.int .i64 K, .int .i64 N]] W (TPutP 5 E S W))) (V V2 E2 : Int) (HSL : Hid (S.length ≤ 140737488355328)) (H2 : Hid (∀ W A n c, Row .u8 W W.heap.size A n S → n ≤ 140737488355328 → Calls Try.prog 23 #[.slice A n c, .int .i64 root, .int .i64 page] W fun e w' => e = .returned (.tuple #[.agg #[.int .i64 K, .int .i64 N], .int .i64 0]) ∧ Below W.heap.size W w')) (H3 : Hid (∀ W A n c, Row .u8 W W.heap.size A n zs → n ≤ 140737488355328 → Calls Try.prog 21 #[.slice A n c, .int .i64 root, .int .i64 page] W fun e w' => e = .returned (.tuple #[.int .i64 V, .int .i64 0]) ∧ Below W.heap.size W w')) (H4 : Hid (∀ W A n c, Row .u8 W W.heap.size A n zs → n ≤ 140737488355328 → Calls Try.prog 21 #[.slice A n c, .int .i64 root, .int .i64 other] W fun e w' => e = .returned (.tuple #[.int .i64 V2, .int .i64 E2]) ∧ Below W.heap.size W w')) (hE2 : (E != 0) = false) (hV : (V == root) = false) (G P Q : Int) (H5 : Hid (∀ W A n c, Row .u8 W W.heap.size A n zs → n ≤ 140737488355328 → Calls Try.prog 23 #[.slice A n c, .int .i64 root, .int .i64 other] W fun e w' => e = .returned (.tuple #[.agg #[.int .i64 P, .int .i64 Q], .int .i64 G]) ∧ Below W.heap.size W w')) (H6 : Hid (∀ W A n c, Row .u8 W W.heap.size A n S → n ≤ 140737488355328 → Calls Try.prog 23 #[.slice A n c, .int .i64 root, .int .i64 other] W fun e w' => e = .returned (.tuple #[.agg #[.int .i64 P, .int .i64 Q], .int .i64 G]) ∧ Below W.heap.size W w')) (g1 : (E2 == 0) = true) (g2 : (V2 == V) = false) (g4 : (other == page) = false) :
    Calls Try.prog 8 #[.slice A len c, .int .i64 root, .int .i64 page, .agg #[.int .i64 K, .int .i64 N], .int .i64 other] w fun e w' => e = .returned (.bool true) ∧ Below w.heap.size w w' := by
  have Rr0 := Lib.hid hz
  clear hz
  go_enter Try.func8, Try.ntmps8
  go_wp2_with fail
  refine (alive5_any _).mono ?_
  rintro e w1 ⟨rfl, hb1⟩
  simp only [World.size_alloc] at hb1
  have hv1 : Below w.heap.size w w1 := ((Below.refl w.heap.size w).alloc (by simp) _).trans (hb1.mono (by omega))
  have hw1 : Below w.heap.size w w1 := hv1
  have Kx1z := heap_alloc_new w (.cells #[.int .i64 K, .int .i64 N] 36)
  have Kx1 := Lib.hid (blk_on Kx1z (by simpa using hb1))
  have xx1 : ∀ o, w1.cell? ⟨w.heap.size, o, none⟩ = (#[.int .i64 K, .int .i64 N] : Array Value)[o]? := fun o => blk_cell Kx1.out o
  have lx1 : w.heap.size < w1.heap.size := blk_lt Kx1.out
  clear Kx1z
  have Rr1 := Lib.hid (Rr0.out.any' hv1 (Nat.le_refl _))
  go_wp2_with fail
  refine (H1.out _ A len c (Rr1.out) hn).mono ?_
  rintro e w2 ⟨As, ns, cs, rfl, ho, hb2⟩
  have hv2 := hb2
  have hw2 : Below w.heap.size w w2 := hw1.trans (hv2.mono hw1.size)
  have Kx2 := Lib.hid (blk_on Kx1.out hv2)
  have xx2 : ∀ o, w2.cell? ⟨w.heap.size, o, none⟩ = (#[.int .i64 K, .int .i64 N] : Array Value)[o]? := fun o => blk_cell Kx2.out o
  have lx2 : w.heap.size < w2.heap.size := blk_lt Kx2.out
  clear xx1 lx1
  have Rr2 := Lib.hid (Rr1.out.any' hv2 (Nat.le_refl _))
  have hns := ho.1
  have Rs2 := Lib.hid (ho.row)
  have hns2 : ns ≤ 140737488355328 := by rw [← hns]; exact HSL.out
  clear hns ho
  go_wp2_with fail
  refine (H2.out _ As ns cs (Rs2.out) hns2).mono ?_
  rintro e w3 ⟨rfl, hb3⟩
  have hv3 := hb3
  have hw3 : Below w.heap.size w w3 := hw2.trans (hv3.mono hw2.size)
  have Kx3 := Lib.hid (blk_on Kx2.out hv3)
  have xx3 : ∀ o, w3.cell? ⟨w.heap.size, o, none⟩ = (#[.int .i64 K, .int .i64 N] : Array Value)[o]? := fun o => blk_cell Kx3.out o
  have lx3 : w.heap.size < w3.heap.size := blk_lt Kx3.out
  clear xx2 lx2
  have Rr3 := Lib.hid (Rr2.out.any' hv3 (Nat.le_refl _))
  have Rs3 := Lib.hid (Rs2.out.any' hv3 (Nat.le_refl _))
  go_wp2_with fail
  refine (H3.out _ A len c ((Rr3.out.any' ((Below.refl _ _).alloc (Nat.le_refl _) (.cells #[.int .i64 K, .int .i64 N] 36)) (Nat.le_refl _))) hn).mono ?_
  rintro e w4 ⟨rfl, hb4⟩
  simp only [World.size_alloc] at hb4
  have hv4 : Below w3.heap.size w3 w4 := ((Below.refl w3.heap.size w3).alloc (by simp) _).trans (hb4.mono (by omega))
  have hw4 : Below w.heap.size w w4 := hw3.trans (hv4.mono hw3.size)
  have Kx4 := Lib.hid (blk_on Kx3.out hv4)
  have xx4 : ∀ o, w4.cell? ⟨w.heap.size, o, none⟩ = (#[.int .i64 K, .int .i64 N] : Array Value)[o]? := fun o => blk_cell Kx4.out o
  have lx4 : w.heap.size < w4.heap.size := blk_lt Kx4.out
  clear xx3 lx3
  have Ky4z := heap_alloc_new w3 (.cells #[.int .i64 K, .int .i64 N] 36)
  have Ky4 := Lib.hid (blk_on Ky4z (by simpa using hb4))
  have xy4 : ∀ o, w4.cell? ⟨w3.heap.size, o, none⟩ = (#[.int .i64 K, .int .i64 N] : Array Value)[o]? := fun o => blk_cell Ky4.out o
  have ly4 : w3.heap.size < w4.heap.size := blk_lt Ky4.out
  clear Ky4z
  have Rr4 := Lib.hid (Rr3.out.any' hv4 (Nat.le_refl _))
  have Rs4 := Lib.hid (Rs3.out.any' hv4 (Nat.le_refl _))
  go_wp2_with fail
  refine (H4.out _ A len c (Rr4.out) hn).mono ?_
  rintro e w5 ⟨rfl, hb5⟩
  have hv5 := hb5
  have hw5 : Below w.heap.size w w5 := hw4.trans (hv5.mono hw4.size)
  have Kx5 := Lib.hid (blk_on Kx4.out hv5)
  have xx5 : ∀ o, w5.cell? ⟨w.heap.size, o, none⟩ = (#[.int .i64 K, .int .i64 N] : Array Value)[o]? := fun o => blk_cell Kx5.out o
  have lx5 : w.heap.size < w5.heap.size := blk_lt Kx5.out
  clear xx4 lx4
  have Ky5 := Lib.hid (blk_on Ky4.out hv5)
  have xy5 : ∀ o, w5.cell? ⟨w3.heap.size, o, none⟩ = (#[.int .i64 K, .int .i64 N] : Array Value)[o]? := fun o => blk_cell Ky5.out o
  have ly5 : w3.heap.size < w5.heap.size := blk_lt Ky5.out
  clear xy4 ly4
  have Rr5 := Lib.hid (Rr4.out.any' hv5 (Nat.le_refl _))
  have Rs5 := Lib.hid (Rs4.out.any' hv5 (Nat.le_refl _))
  go_wp2_with fail
  refine (H5.out _ A len c (Rr5.out) hn).mono ?_
  rintro e w6 ⟨rfl, hb6⟩
  have hv6 := hb6
  have hw6 : Below w.heap.size w w6 := hw5.trans (hv6.mono hw5.size)
  have Kx6 := Lib.hid (blk_on Kx5.out hv6)
  have xx6 : ∀ o, w6.cell? ⟨w.heap.size, o, none⟩ = (#[.int .i64 K, .int .i64 N] : Array Value)[o]? := fun o => blk_cell Kx6.out o
  have lx6 : w.heap.size < w6.heap.size := blk_lt Kx6.out
  clear xx5 lx5
  have Ky6 := Lib.hid (blk_on Ky5.out hv6)
  have xy6 : ∀ o, w6.cell? ⟨w3.heap.size, o, none⟩ = (#[.int .i64 K, .int .i64 N] : Array Value)[o]? := fun o => blk_cell Ky6.out o
  have ly6 : w3.heap.size < w6.heap.size := blk_lt Ky6.out
  clear xy5 ly5
  have Rr6 := Lib.hid (Rr5.out.any' hv6 (Nat.le_refl _))
  have Rs6 := Lib.hid (Rs5.out.any' hv6 (Nat.le_refl _))
  go_wp2_with fail
  refine (H6.out _ As ns cs ((Rs6.out.any' ((Below.refl _ _).alloc (Nat.le_refl _) (.cells #[.int .i64 P, .int .i64 Q] 36)) (Nat.le_refl _))) hns2).mono ?_
  rintro e w7 ⟨rfl, hb7⟩
  simp only [World.size_alloc] at hb7
  have hv7 : Below w6.heap.size w6 w7 := ((Below.refl w6.heap.size w6).alloc (by simp) _).trans (hb7.mono (by omega))
  have hw7 : Below w.heap.size w w7 := hw6.trans (hv7.mono hw6.size)
  have Kx7 := Lib.hid (blk_on Kx6.out hv7)
  have xx7 : ∀ o, w7.cell? ⟨w.heap.size, o, none⟩ = (#[.int .i64 K, .int .i64 N] : Array Value)[o]? := fun o => blk_cell Kx7.out o
  have lx7 : w.heap.size < w7.heap.size := blk_lt Kx7.out
  clear xx6 lx6
  have Ky7 := Lib.hid (blk_on Ky6.out hv7)
  have xy7 : ∀ o, w7.cell? ⟨w3.heap.size, o, none⟩ = (#[.int .i64 K, .int .i64 N] : Array Value)[o]? := fun o => blk_cell Ky7.out o
  have ly7 : w3.heap.size < w7.heap.size := blk_lt Ky7.out
  clear xy6 ly6
  have Ka7z := heap_alloc_new w6 (.cells #[.int .i64 P, .int .i64 Q] 36)
  have Ka7 := Lib.hid (blk_on Ka7z (by simpa using hb7))
  have xa7 : ∀ o, w7.cell? ⟨w6.heap.size, o, none⟩ = (#[.int .i64 P, .int .i64 Q] : Array Value)[o]? := fun o => blk_cell Ka7.out o
  have la7 : w6.heap.size < w7.heap.size := blk_lt Ka7.out
  clear Ka7z
  have Rr7 := Lib.hid (Rr6.out.any' hv7 (Nat.le_refl _))
  have Rs7 := Lib.hid (Rs6.out.any' hv7 (Nat.le_refl _))
  go_wp2
  all_goals go_ret
  all_goals exact ⟨rfl, (hw7.alloc (Nat.le_trans hw7.size (by simp)) _)⟩

set_option maxHeartbeats 4000000 in
theorem tableBack_6 {w : World} (A : Option Addr) (len c : Nat) (zs : List Int) (hz : Row .u8 w w.heap.size A len zs) (hn : len ≤ 140737488355328) (root page K N other E : Int) (S : List Int) (H1 : Hid (∀ W A n c, Row .u8 W W.heap.size A n zs → n ≤ 140737488355328 → Calls Try.prog 25 #[.slice A n c, .int .i64 root, .int .i64 page, .agg #[.int .i64 K, .int .i64 N]] W (TPutP 5 E S W))) (V V2 E2 : Int) (HSL : Hid (S.length ≤ 140737488355328)) (H2 : Hid (∀ W A n c, Row .u8 W W.heap.size A n S → n ≤ 140737488355328 → Calls Try.prog 23 #[.slice A n c, .int .i64 root, .int .i64 page] W fun e w' => e = .returned (.tuple #[.agg #[.int .i64 K, .int .i64 N], .int .i64 0]) ∧ Below W.heap.size W w')) (H3 : Hid (∀ W A n c, Row .u8 W W.heap.size A n zs → n ≤ 140737488355328 → Calls Try.prog 21 #[.slice A n c, .int .i64 root, .int .i64 page] W fun e w' => e = .returned (.tuple #[.int .i64 V, .int .i64 0]) ∧ Below W.heap.size W w')) (H4 : Hid (∀ W A n c, Row .u8 W W.heap.size A n zs → n ≤ 140737488355328 → Calls Try.prog 21 #[.slice A n c, .int .i64 root, .int .i64 other] W fun e w' => e = .returned (.tuple #[.int .i64 V2, .int .i64 E2]) ∧ Below W.heap.size W w')) (hE2 : (E != 0) = false) (hV : (V == root) = false) (G P Q : Int) (H5 : Hid (∀ W A n c, Row .u8 W W.heap.size A n zs → n ≤ 140737488355328 → Calls Try.prog 23 #[.slice A n c, .int .i64 root, .int .i64 other] W fun e w' => e = .returned (.tuple #[.agg #[.int .i64 P, .int .i64 Q], .int .i64 G]) ∧ Below W.heap.size W w')) (H6 : Hid (∀ W A n c, Row .u8 W W.heap.size A n S → n ≤ 140737488355328 → Calls Try.prog 23 #[.slice A n c, .int .i64 root, .int .i64 other] W fun e w' => e = .returned (.tuple #[.agg #[.int .i64 P, .int .i64 Q], .int .i64 G]) ∧ Below W.heap.size W w')) (g1 : (E2 == 0) = true) (g2 : (V2 == V) = true) (p0 : 0 ≤ page) (q0 : 0 ≤ other) (g3 : (wrap64 (other.tdiv 8) != wrap64 (page.tdiv 8)) = false) (g4 : (other == page) = false) :
    Calls Try.prog 8 #[.slice A len c, .int .i64 root, .int .i64 page, .agg #[.int .i64 K, .int .i64 N], .int .i64 other] w fun e w' => e = .returned (.bool true) ∧ Below w.heap.size w w' := by
  have Rr0 := Lib.hid hz
  clear hz
  go_enter Try.func8, Try.ntmps8
  go_wp2_with fail
  refine (alive5_any _).mono ?_
  rintro e w1 ⟨rfl, hb1⟩
  simp only [World.size_alloc] at hb1
  have hv1 : Below w.heap.size w w1 := ((Below.refl w.heap.size w).alloc (by simp) _).trans (hb1.mono (by omega))
  have hw1 : Below w.heap.size w w1 := hv1
  have Kx1z := heap_alloc_new w (.cells #[.int .i64 K, .int .i64 N] 36)
  have Kx1 := Lib.hid (blk_on Kx1z (by simpa using hb1))
  have xx1 : ∀ o, w1.cell? ⟨w.heap.size, o, none⟩ = (#[.int .i64 K, .int .i64 N] : Array Value)[o]? := fun o => blk_cell Kx1.out o
  have lx1 : w.heap.size < w1.heap.size := blk_lt Kx1.out
  clear Kx1z
  have Rr1 := Lib.hid (Rr0.out.any' hv1 (Nat.le_refl _))
  go_wp2_with fail
  refine (H1.out _ A len c (Rr1.out) hn).mono ?_
  rintro e w2 ⟨As, ns, cs, rfl, ho, hb2⟩
  have hv2 := hb2
  have hw2 : Below w.heap.size w w2 := hw1.trans (hv2.mono hw1.size)
  have Kx2 := Lib.hid (blk_on Kx1.out hv2)
  have xx2 : ∀ o, w2.cell? ⟨w.heap.size, o, none⟩ = (#[.int .i64 K, .int .i64 N] : Array Value)[o]? := fun o => blk_cell Kx2.out o
  have lx2 : w.heap.size < w2.heap.size := blk_lt Kx2.out
  clear xx1 lx1
  have Rr2 := Lib.hid (Rr1.out.any' hv2 (Nat.le_refl _))
  have hns := ho.1
  have Rs2 := Lib.hid (ho.row)
  have hns2 : ns ≤ 140737488355328 := by rw [← hns]; exact HSL.out
  clear hns ho
  go_wp2_with fail
  refine (H2.out _ As ns cs (Rs2.out) hns2).mono ?_
  rintro e w3 ⟨rfl, hb3⟩
  have hv3 := hb3
  have hw3 : Below w.heap.size w w3 := hw2.trans (hv3.mono hw2.size)
  have Kx3 := Lib.hid (blk_on Kx2.out hv3)
  have xx3 : ∀ o, w3.cell? ⟨w.heap.size, o, none⟩ = (#[.int .i64 K, .int .i64 N] : Array Value)[o]? := fun o => blk_cell Kx3.out o
  have lx3 : w.heap.size < w3.heap.size := blk_lt Kx3.out
  clear xx2 lx2
  have Rr3 := Lib.hid (Rr2.out.any' hv3 (Nat.le_refl _))
  have Rs3 := Lib.hid (Rs2.out.any' hv3 (Nat.le_refl _))
  go_wp2_with fail
  refine (H3.out _ A len c ((Rr3.out.any' ((Below.refl _ _).alloc (Nat.le_refl _) (.cells #[.int .i64 K, .int .i64 N] 36)) (Nat.le_refl _))) hn).mono ?_
  rintro e w4 ⟨rfl, hb4⟩
  simp only [World.size_alloc] at hb4
  have hv4 : Below w3.heap.size w3 w4 := ((Below.refl w3.heap.size w3).alloc (by simp) _).trans (hb4.mono (by omega))
  have hw4 : Below w.heap.size w w4 := hw3.trans (hv4.mono hw3.size)
  have Kx4 := Lib.hid (blk_on Kx3.out hv4)
  have xx4 : ∀ o, w4.cell? ⟨w.heap.size, o, none⟩ = (#[.int .i64 K, .int .i64 N] : Array Value)[o]? := fun o => blk_cell Kx4.out o
  have lx4 : w.heap.size < w4.heap.size := blk_lt Kx4.out
  clear xx3 lx3
  have Ky4z := heap_alloc_new w3 (.cells #[.int .i64 K, .int .i64 N] 36)
  have Ky4 := Lib.hid (blk_on Ky4z (by simpa using hb4))
  have xy4 : ∀ o, w4.cell? ⟨w3.heap.size, o, none⟩ = (#[.int .i64 K, .int .i64 N] : Array Value)[o]? := fun o => blk_cell Ky4.out o
  have ly4 : w3.heap.size < w4.heap.size := blk_lt Ky4.out
  clear Ky4z
  have Rr4 := Lib.hid (Rr3.out.any' hv4 (Nat.le_refl _))
  have Rs4 := Lib.hid (Rs3.out.any' hv4 (Nat.le_refl _))
  go_wp2_with fail
  refine (H4.out _ A len c (Rr4.out) hn).mono ?_
  rintro e w5 ⟨rfl, hb5⟩
  have hv5 := hb5
  have hw5 : Below w.heap.size w w5 := hw4.trans (hv5.mono hw4.size)
  have Kx5 := Lib.hid (blk_on Kx4.out hv5)
  have xx5 : ∀ o, w5.cell? ⟨w.heap.size, o, none⟩ = (#[.int .i64 K, .int .i64 N] : Array Value)[o]? := fun o => blk_cell Kx5.out o
  have lx5 : w.heap.size < w5.heap.size := blk_lt Kx5.out
  clear xx4 lx4
  have Ky5 := Lib.hid (blk_on Ky4.out hv5)
  have xy5 : ∀ o, w5.cell? ⟨w3.heap.size, o, none⟩ = (#[.int .i64 K, .int .i64 N] : Array Value)[o]? := fun o => blk_cell Ky5.out o
  have ly5 : w3.heap.size < w5.heap.size := blk_lt Ky5.out
  clear xy4 ly4
  have Rr5 := Lib.hid (Rr4.out.any' hv5 (Nat.le_refl _))
  have Rs5 := Lib.hid (Rs4.out.any' hv5 (Nat.le_refl _))
  go_wp2_with fail
  refine (H5.out _ A len c (Rr5.out) hn).mono ?_
  rintro e w6 ⟨rfl, hb6⟩
  have hv6 := hb6
  have hw6 : Below w.heap.size w w6 := hw5.trans (hv6.mono hw5.size)
  have Kx6 := Lib.hid (blk_on Kx5.out hv6)
  have xx6 : ∀ o, w6.cell? ⟨w.heap.size, o, none⟩ = (#[.int .i64 K, .int .i64 N] : Array Value)[o]? := fun o => blk_cell Kx6.out o
  have lx6 : w.heap.size < w6.heap.size := blk_lt Kx6.out
  clear xx5 lx5
  have Ky6 := Lib.hid (blk_on Ky5.out hv6)
  have xy6 : ∀ o, w6.cell? ⟨w3.heap.size, o, none⟩ = (#[.int .i64 K, .int .i64 N] : Array Value)[o]? := fun o => blk_cell Ky6.out o
  have ly6 : w3.heap.size < w6.heap.size := blk_lt Ky6.out
  clear xy5 ly5
  have Rr6 := Lib.hid (Rr5.out.any' hv6 (Nat.le_refl _))
  have Rs6 := Lib.hid (Rs5.out.any' hv6 (Nat.le_refl _))
  go_wp2_with fail
  refine (H6.out _ As ns cs ((Rs6.out.any' ((Below.refl _ _).alloc (Nat.le_refl _) (.cells #[.int .i64 P, .int .i64 Q] 36)) (Nat.le_refl _))) hns2).mono ?_
  rintro e w7 ⟨rfl, hb7⟩
  simp only [World.size_alloc] at hb7
  have hv7 : Below w6.heap.size w6 w7 := ((Below.refl w6.heap.size w6).alloc (by simp) _).trans (hb7.mono (by omega))
  have hw7 : Below w.heap.size w w7 := hw6.trans (hv7.mono hw6.size)
  have Kx7 := Lib.hid (blk_on Kx6.out hv7)
  have xx7 : ∀ o, w7.cell? ⟨w.heap.size, o, none⟩ = (#[.int .i64 K, .int .i64 N] : Array Value)[o]? := fun o => blk_cell Kx7.out o
  have lx7 : w.heap.size < w7.heap.size := blk_lt Kx7.out
  clear xx6 lx6
  have Ky7 := Lib.hid (blk_on Ky6.out hv7)
  have xy7 : ∀ o, w7.cell? ⟨w3.heap.size, o, none⟩ = (#[.int .i64 K, .int .i64 N] : Array Value)[o]? := fun o => blk_cell Ky7.out o
  have ly7 : w3.heap.size < w7.heap.size := blk_lt Ky7.out
  clear xy6 ly6
  have Ka7z := heap_alloc_new w6 (.cells #[.int .i64 P, .int .i64 Q] 36)
  have Ka7 := Lib.hid (blk_on Ka7z (by simpa using hb7))
  have xa7 : ∀ o, w7.cell? ⟨w6.heap.size, o, none⟩ = (#[.int .i64 P, .int .i64 Q] : Array Value)[o]? := fun o => blk_cell Ka7.out o
  have la7 : w6.heap.size < w7.heap.size := blk_lt Ka7.out
  clear Ka7z
  have Rr7 := Lib.hid (Rr6.out.any' hv7 (Nat.le_refl _))
  have Rs7 := Lib.hid (Rs6.out.any' hv7 (Nat.le_refl _))
  go_wp2
  all_goals go_ret
  all_goals exact ⟨rfl, (hw7.alloc (Nat.le_trans hw7.size (by simp)) _)⟩

theorem tableBack_walk {w : World} (A : Option Addr) (len c : Nat) (zs : List Int) (hz : Row .u8 w w.heap.size A len zs) (hwf : ∀ z ∈ zs, (Lit.int .u8 z).wf = true) (hlc : len ≤ c) (_ : c ≤ maxLen) (hbig : c ≤ 140737488351232) (root : Int) (_ : I64 root) (page : Int) (_ : I64 page) (K : Int) (_ : I64 K) (N : Int) (_ : I64 N) (other : Int) (_ : I64 other) :
    Calls Try.prog 8 #[.slice A len c, .int .i64 root, .int .i64 page, .agg #[.int .i64 K, .int .i64 N], .int .i64 other] w fun e w' => e = .returned (.bool true) ∧ Below w.heap.size w w' := by
  have hb : Bytes zs := bytes_of_wf hwf
  have hn : len ≤ 140737488355328 := by omega
  have H1 := Lib.hid (fun W A n c hr hn => tPut_any A n c zs root page K N W W.heap.size hr (Nat.le_refl _) hb hn)
  by_cases h : tputE zs root page K N = 0
  · have hS := tputL_bytes hb root page K N
    have hSL : Hid ((tputL zs root page K N).length ≤ 140737488355328) := Lib.hid (by rw [(tput_ok h).2.2.2.2.2, putN_len, hz.1]; exact hn)
    have H2 := Lib.hid (fun W A n c hr hn => tget_any A n c (tputL zs root page K N) root page W W.heap.size hr (Nat.le_refl _) hS hn)
    have H3 := Lib.hid (fun W A n c hr hn => leaf_any A n c zs root page W W.heap.size hr (Nat.le_refl _) hb hn)
    have hl := (tput_ok h).1
    have hp := leaf0_page hl
    rw [hl] at H3
    rw [h] at H1
    by_cases hv : leafV zs root page = root
    · rw [hv] at H3
      exact tableBack_1 A len c zs hz hn root page K N other 0 _ H1 _ _ _ hSL H2 H3 rfl rfl
    · obtain ⟨b1, b2, b3⟩ := tput_back h hv
      rw [b1, b2, b3] at H2
      have H4 := Lib.hid (fun W A n c hr hn => leaf_any A n c zs root other W W.heap.size hr (Nat.le_refl _) hb hn)
      have H5 := Lib.hid (fun W A n c hr hn => tget_any A n c zs root other W W.heap.size hr (Nat.le_refl _) hb hn)
      have H6 := Lib.hid (fun W A n c hr hn => tget_any A n c (tputL zs root page K N) root other W W.heap.size hr (Nat.le_refl _) hS hn)
      have hv' : (leafV zs root page == root) = false := by simp [hv]
      by_cases c1 : leafE zs root other = 0
      · have hq := leaf0_page c1
        by_cases c2 : leafV zs root other = leafV zs root page
        · by_cases c3 : other / 8 = page / 8
          · by_cases c4 : other = page
            · exact tableBack_3 A len c zs hz hn root page K N other 0 _ H1 _ _ _ hSL H2 H3 H4 rfl hv' (by simp [c1]) (by simp [c2]) hp.1 hq.1 (by rw [div8 hq.1 hq.2, div8 hp.1 hp.2]; simp [c3]) (by simp [c4])
            · obtain ⟨d1, d2, d3⟩ := tput_other h hv other (fun _ _ => ⟨c3, c4⟩)
              rw [d1, d2, d3] at H6
              exact tableBack_6 A len c zs hz hn root page K N other 0 _ H1 _ _ _ hSL H2 H3 H4 rfl hv' _ _ _ H5 H6 (by simp [c1]) (by simp [c2]) hp.1 hq.1 (by rw [div8 hq.1 hq.2, div8 hp.1 hp.2]; simp [c3]) (by simp [c4])
          · exact tableBack_2 A len c zs hz hn root page K N other 0 _ H1 _ _ _ hSL H2 H3 H4 rfl hv' (by simp [c1]) (by simp [c2]) hp.1 hq.1 (by rw [div8 hq.1 hq.2, div8 hp.1 hp.2]; simp [c3])
        · obtain ⟨d1, d2, d3⟩ := tput_other h hv other (fun _ e => absurd e c2)
          rw [d1, d2, d3] at H6
          have c4 : other ≠ page := fun e => c2 (by rw [e])
          exact tableBack_5 A len c zs hz hn root page K N other 0 _ H1 _ _ _ hSL H2 H3 H4 rfl hv' _ _ _ H5 H6 (by simp [c1]) (by simp [c2]) (by simp [c4])
      · obtain ⟨d1, d2, d3⟩ := tput_other h hv other (fun e => absurd e c1)
        rw [d1, d2, d3] at H6
        have c4 : other ≠ page := fun e => c1 (by rw [e]; exact hl)
        exact tableBack_4 A len c zs hz hn root page K N other 0 _ H1 _ _ _ hSL H2 H3 H4 rfl hv' _ _ _ H5 H6 (by simp [c1]) (by simp [c4])
  · exact tableBack_0 A len c zs hz hn root page K N other _ _ H1 (Lib.hid (by unfold tputL; rw [if_neg h])) (by simp [h])
end Go.Proofs.Ytidfngplhjegpaa
