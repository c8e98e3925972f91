/- ram.put: what it writes. -/
import Derived.Test.YtidfngplhjegpaaRamG
namespace Go.Proofs.Ytidfngplhjegpaa
open Go.RowKit
set_option linter.unusedVariables false

def putN (zs : List Int) (a : Nat) (v : Int) : Nat → List Int
  | 0 => zs
  | n + 1 => (putN zs a v n).set (a + n) (v / ((256 ^ n : Nat) : Int) % 256)

set_option maxHeartbeats 2000000 in
theorem rput_1 (A : Option Addr) (len c : Nat) (zs : List Int) (a : Nat) (v : Int) (w : World) (base : Nat) (ho : Own .u8 5 w base A len c zs) (hn : len ≤ 140737488355328) (ha : a + 1 ≤ len) :
    Calls Try.prog 46 #[.slice A len c, .int .i64 a, .int .i64 1, .int .i64 v] w fun e w' => e = .returned (.tuple #[]) ∧ Own .u8 5 w' base A len c (putN zs a v 1) ∧ Below base w w' := by
  obtain ⟨gb, cur, rfl, hg, hh, hcur⟩ := ho.2.2.2 (by omega)
  have c0 : w.cell? ⟨gb, a, none⟩ = some (.int .u8 (zs[a]?.getD 0)) := by rw [blk_cell hh]; exact hcur (a) (by omega)
  have f0 : w.frozen? ⟨gb, a, none⟩ = false := blk_free hh (a)
  have HO := Lib.hid ho; have HH := Lib.hid hh; have HC := Lib.hid hcur
  clear ho hh hcur
  have hp : putN zs a v 1 = (zs.set a (v % 256)) := by simp [putN]
  have HP := Lib.hid hp
  clear hp
  go_enter Try.func46, Try.ntmps46
  go_wp2
  refine wp_loop_rounds 2 ?_
  repeat any_goals (rw [rounds_succ]; go_wp2)
  go_end0
  exact ⟨rfl, by rw [HP.out]; exact (HO.out.set_ (i := a) (x := v % 256) (by omega)), ((Below.refl _ _).setCell hg _)⟩

set_option maxHeartbeats 2000000 in
theorem rput_2 (A : Option Addr) (len c : Nat) (zs : List Int) (a : Nat) (v : Int) (w : World) (base : Nat) (ho : Own .u8 5 w base A len c zs) (hn : len ≤ 140737488355328) (ha : a + 2 ≤ len) :
    Calls Try.prog 46 #[.slice A len c, .int .i64 a, .int .i64 2, .int .i64 v] w fun e w' => e = .returned (.tuple #[]) ∧ Own .u8 5 w' base A len c (putN zs a v 2) ∧ Below base w w' := by
  obtain ⟨gb, cur, rfl, hg, hh, hcur⟩ := ho.2.2.2 (by omega)
  have c0 : w.cell? ⟨gb, a, none⟩ = some (.int .u8 (zs[a]?.getD 0)) := by rw [blk_cell hh]; exact hcur (a) (by omega)
  have f0 : w.frozen? ⟨gb, a, none⟩ = false := blk_free hh (a)
  have c1 : w.cell? ⟨gb, a + 1, none⟩ = some (.int .u8 (zs[a + 1]?.getD 0)) := by rw [blk_cell hh]; exact hcur (a + 1) (by omega)
  have f1 : w.frozen? ⟨gb, a + 1, none⟩ = false := blk_free hh (a + 1)
  have HO := Lib.hid ho; have HH := Lib.hid hh; have HC := Lib.hid hcur
  clear ho hh hcur
  have hp : putN zs a v 2 = ((zs.set a (v % 256)).set (a + 1) (v / 256 % 256)) := by simp [putN]
  have HP := Lib.hid hp
  clear hp
  go_enter Try.func46, Try.ntmps46
  go_wp2
  refine wp_loop_rounds 3 ?_
  repeat any_goals (rw [rounds_succ]; go_wp2)
  go_end0
  exact ⟨rfl, by rw [HP.out]; exact ((HO.out.set_ (i := a) (x := v % 256) (by omega)).set_ (i := (a + 1)) (x := v / 256 % 256) (by omega)), (((Below.refl _ _).setCell hg _).setCell hg _)⟩

set_option maxHeartbeats 2000000 in
theorem rput_3 (A : Option Addr) (len c : Nat) (zs : List Int) (a : Nat) (v : Int) (w : World) (base : Nat) (ho : Own .u8 5 w base A len c zs) (hn : len ≤ 140737488355328) (ha : a + 3 ≤ len) :
    Calls Try.prog 46 #[.slice A len c, .int .i64 a, .int .i64 3, .int .i64 v] w fun e w' => e = .returned (.tuple #[]) ∧ Own .u8 5 w' base A len c (putN zs a v 3) ∧ Below base w w' := by
  obtain ⟨gb, cur, rfl, hg, hh, hcur⟩ := ho.2.2.2 (by omega)
  have c0 : w.cell? ⟨gb, a, none⟩ = some (.int .u8 (zs[a]?.getD 0)) := by rw [blk_cell hh]; exact hcur (a) (by omega)
  have f0 : w.frozen? ⟨gb, a, none⟩ = false := blk_free hh (a)
  have c1 : w.cell? ⟨gb, a + 1, none⟩ = some (.int .u8 (zs[a + 1]?.getD 0)) := by rw [blk_cell hh]; exact hcur (a + 1) (by omega)
  have f1 : w.frozen? ⟨gb, a + 1, none⟩ = false := blk_free hh (a + 1)
  have c2 : w.cell? ⟨gb, a + 2, none⟩ = some (.int .u8 (zs[a + 2]?.getD 0)) := by rw [blk_cell hh]; exact hcur (a + 2) (by omega)
  have f2 : w.frozen? ⟨gb, a + 2, none⟩ = false := blk_free hh (a + 2)
  have HO := Lib.hid ho; have HH := Lib.hid hh; have HC := Lib.hid hcur
  clear ho hh hcur
  have hp : putN zs a v 3 = (((zs.set a (v % 256)).set (a + 1) (v / 256 % 256)).set (a + 2) (v / 65536 % 256)) := by simp [putN]
  have HP := Lib.hid hp
  clear hp
  go_enter Try.func46, Try.ntmps46
  go_wp2
  refine wp_loop_rounds 4 ?_
  repeat any_goals (rw [rounds_succ]; go_wp2)
  go_end0
  exact ⟨rfl, by rw [HP.out]; exact (((HO.out.set_ (i := a) (x := v % 256) (by omega)).set_ (i := (a + 1)) (x := v / 256 % 256) (by omega)).set_ (i := (a + 2)) (x := v / 65536 % 256) (by omega)), ((((Below.refl _ _).setCell hg _).setCell hg _).setCell hg _)⟩

set_option maxHeartbeats 2000000 in
theorem rput_4 (A : Option Addr) (len c : Nat) (zs : List Int) (a : Nat) (v : Int) (w : World) (base : Nat) (ho : Own .u8 5 w base A len c zs) (hn : len ≤ 140737488355328) (ha : a + 4 ≤ len) :
    Calls Try.prog 46 #[.slice A len c, .int .i64 a, .int .i64 4, .int .i64 v] w fun e w' => e = .returned (.tuple #[]) ∧ Own .u8 5 w' base A len c (putN zs a v 4) ∧ Below base w w' := by
  obtain ⟨gb, cur, rfl, hg, hh, hcur⟩ := ho.2.2.2 (by omega)
  have c0 : w.cell? ⟨gb, a, none⟩ = some (.int .u8 (zs[a]?.getD 0)) := by rw [blk_cell hh]; exact hcur (a) (by omega)
  have f0 : w.frozen? ⟨gb, a, none⟩ = false := blk_free hh (a)
  have c1 : w.cell? ⟨gb, a + 1, none⟩ = some (.int .u8 (zs[a + 1]?.getD 0)) := by rw [blk_cell hh]; exact hcur (a + 1) (by omega)
  have f1 : w.frozen? ⟨gb, a + 1, none⟩ = false := blk_free hh (a + 1)
  have c2 : w.cell? ⟨gb, a + 2, none⟩ = some (.int .u8 (zs[a + 2]?.getD 0)) := by rw [blk_cell hh]; exact hcur (a + 2) (by omega)
  have f2 : w.frozen? ⟨gb, a + 2, none⟩ = false := blk_free hh (a + 2)
  have c3 : w.cell? ⟨gb, a + 3, none⟩ = some (.int .u8 (zs[a + 3]?.getD 0)) := by rw [blk_cell hh]; exact hcur (a + 3) (by omega)
  have f3 : w.frozen? ⟨gb, a + 3, none⟩ = false := blk_free hh (a + 3)
  have HO := Lib.hid ho; have HH := Lib.hid hh; have HC := Lib.hid hcur
  clear ho hh hcur
  have hp : putN zs a v 4 = ((((zs.set a (v % 256)).set (a + 1) (v / 256 % 256)).set (a + 2) (v / 65536 % 256)).set (a + 3) (v / 16777216 % 256)) := by simp [putN]
  have HP := Lib.hid hp
  clear hp
  go_enter Try.func46, Try.ntmps46
  go_wp2
  refine wp_loop_rounds 5 ?_
  repeat any_goals (rw [rounds_succ]; go_wp2)
  go_end0
  exact ⟨rfl, by rw [HP.out]; exact ((((HO.out.set_ (i := a) (x := v % 256) (by omega)).set_ (i := (a + 1)) (x := v / 256 % 256) (by omega)).set_ (i := (a + 2)) (x := v / 65536 % 256) (by omega)).set_ (i := (a + 3)) (x := v / 16777216 % 256) (by omega)), (((((Below.refl _ _).setCell hg _).setCell hg _).setCell hg _).setCell hg _)⟩

end Go.Proofs.Ytidfngplhjegpaa
