/- The document's AGet answers as ram.Get does. -/
import Derived.Test.YtidfngplhjegpaaRamG
namespace Go.Proofs.Ytidfngplhjegpaa
open Go.RowKit
set_option linter.unusedVariables false

set_option maxHeartbeats 2000000 in
theorem aget_1 (A : Option Addr) (len c : Nat) (zs : List Int) (a : Nat) (w : World) (B : Nat) (hz : Row .u8 w B A len zs) (hb : Bytes zs) (hn : len ≤ 140737488355328) (ha : a + 1 ≤ len) :
    Calls Try.prog 17 #[.slice A len c, .int .i64 a, .int .i64 1] w fun e w' => e = .returned (.tuple #[.int .i64 (num zs a 1), .int .i64 0]) ∧ w' = w := by
  have hc : ∀ i, i < 1 → ∃ b off, A = some ⟨b, off, none⟩ ∧ b < B ∧ w.cell? ⟨b, off + (a + i), none⟩ = some (.int .u8 (zs.getD (a + i) 0)) := fun i hi => hz.at_ (show a + i < len by omega)
  obtain ⟨b, off, rfl, hB', c0⟩ := hc 0 (by omega)
  simp only [Nat.add_zero] at c0
  obtain ⟨l0, h0⟩ : 0 ≤ zs[a]?.getD 0 ∧ zs[a]?.getD 0 < 256 := hb (a + 0)
  have hf : (a : Int) ≤ (len : Int) - 1 := by omega
  have hd : decide ((a : Int) ≤ (len : Int) - 1) = true := by simp; omega
  clear hz hb hc
  have hd2 : decide ((1 : Int) > (len : Int) - (a : Int)) = false := by simp; omega
  have hd3 : decide ((len : Int) - (a : Int) < 1) = false := by simp; omega
  have hd4 : ¬ (len ≤ a) := by omega
  go_enter Try.func17, Try.ntmps17
  go_wp2
  refine wp_loop_rounds 2 ?_
  repeat any_goals (rw [rounds_succ]; go_wp2)
  go_ret2
  refine ⟨ret_ii ?_ rfl, rfl⟩
  show _ = zs.getD a 0 + 256 * 0
  simp only [List.getD_eq_getElem?_getD]
  omega

set_option maxHeartbeats 2000000 in
theorem aget_2 (A : Option Addr) (len c : Nat) (zs : List Int) (a : Nat) (w : World) (B : Nat) (hz : Row .u8 w B A len zs) (hb : Bytes zs) (hn : len ≤ 140737488355328) (ha : a + 2 ≤ len) :
    Calls Try.prog 17 #[.slice A len c, .int .i64 a, .int .i64 2] w fun e w' => e = .returned (.tuple #[.int .i64 (num zs a 2), .int .i64 0]) ∧ w' = w := by
  have hc : ∀ i, i < 2 → ∃ b off, A = some ⟨b, off, none⟩ ∧ b < B ∧ w.cell? ⟨b, off + (a + i), none⟩ = some (.int .u8 (zs.getD (a + i) 0)) := fun i hi => hz.at_ (show a + i < len by omega)
  obtain ⟨b, off, rfl, hB', c0⟩ := hc 0 (by omega)
  simp only [Nat.add_zero] at c0
  obtain ⟨_, _, e1, _, c1⟩ := hc 1 (by omega)
  obtain ⟨rfl, rfl⟩ := Addr.mk.inj (Option.some.inj e1) |>.imp id And.left
  obtain ⟨l0, h0⟩ : 0 ≤ zs[a]?.getD 0 ∧ zs[a]?.getD 0 < 256 := hb (a + 0)
  obtain ⟨l1, h1⟩ : 0 ≤ zs[a + 1]?.getD 0 ∧ zs[a + 1]?.getD 0 < 256 := hb (a + 1)
  have hf : (a : Int) ≤ (len : Int) - 2 := by omega
  have hd : decide ((a : Int) ≤ (len : Int) - 2) = true := by simp; omega
  clear hz hb hc
  have hd2 : decide ((2 : Int) > (len : Int) - (a : Int)) = false := by simp; omega
  have hd3 : decide ((len : Int) - (a : Int) < 2) = false := by simp; omega
  have hd4 : ¬ (len ≤ a) := by omega
  go_enter Try.func17, Try.ntmps17
  go_wp2
  refine wp_loop_rounds 3 ?_
  repeat any_goals (rw [rounds_succ]; go_wp2)
  go_ret2
  refine ⟨ret_ii ?_ rfl, rfl⟩
  show _ = zs.getD a 0 + 256 * (zs.getD (a + 1) 0 + 256 * 0)
  simp only [List.getD_eq_getElem?_getD]
  omega

set_option maxHeartbeats 2000000 in
theorem aget_3 (A : Option Addr) (len c : Nat) (zs : List Int) (a : Nat) (w : World) (B : Nat) (hz : Row .u8 w B A len zs) (hb : Bytes zs) (hn : len ≤ 140737488355328) (ha : a + 3 ≤ len) :
    Calls Try.prog 17 #[.slice A len c, .int .i64 a, .int .i64 3] w fun e w' => e = .returned (.tuple #[.int .i64 (num zs a 3), .int .i64 0]) ∧ w' = w := by
  have hc : ∀ i, i < 3 → ∃ b off, A = some ⟨b, off, none⟩ ∧ b < B ∧ w.cell? ⟨b, off + (a + i), none⟩ = some (.int .u8 (zs.getD (a + i) 0)) := fun i hi => hz.at_ (show a + i < len by omega)
  obtain ⟨b, off, rfl, hB', c0⟩ := hc 0 (by omega)
  simp only [Nat.add_zero] at c0
  obtain ⟨_, _, e1, _, c1⟩ := hc 1 (by omega)
  obtain ⟨rfl, rfl⟩ := Addr.mk.inj (Option.some.inj e1) |>.imp id And.left
  obtain ⟨_, _, e2, _, c2⟩ := hc 2 (by omega)
  obtain ⟨rfl, rfl⟩ := Addr.mk.inj (Option.some.inj e2) |>.imp id And.left
  obtain ⟨l0, h0⟩ : 0 ≤ zs[a]?.getD 0 ∧ zs[a]?.getD 0 < 256 := hb (a + 0)
  obtain ⟨l1, h1⟩ : 0 ≤ zs[a + 1]?.getD 0 ∧ zs[a + 1]?.getD 0 < 256 := hb (a + 1)
  obtain ⟨l2, h2⟩ : 0 ≤ zs[a + 2]?.getD 0 ∧ zs[a + 2]?.getD 0 < 256 := hb (a + 2)
  have hf : (a : Int) ≤ (len : Int) - 3 := by omega
  have hd : decide ((a : Int) ≤ (len : Int) - 3) = true := by simp; omega
  clear hz hb hc
  have hd2 : decide ((3 : Int) > (len : Int) - (a : Int)) = false := by simp; omega
  have hd3 : decide ((len : Int) - (a : Int) < 3) = false := by simp; omega
  have hd4 : ¬ (len ≤ a) := by omega
  go_enter Try.func17, Try.ntmps17
  go_wp2
  refine wp_loop_rounds 4 ?_
  repeat any_goals (rw [rounds_succ]; go_wp2)
  go_ret2
  refine ⟨ret_ii ?_ rfl, rfl⟩
  show _ = zs.getD a 0 + 256 * (zs.getD (a + 1) 0 + 256 * (zs.getD (a + 2) 0 + 256 * 0))
  simp only [List.getD_eq_getElem?_getD]
  omega

set_option maxHeartbeats 2000000 in
theorem aget_4 (A : Option Addr) (len c : Nat) (zs : List Int) (a : Nat) (w : World) (B : Nat) (hz : Row .u8 w B A len zs) (hb : Bytes zs) (hn : len ≤ 140737488355328) (ha : a + 4 ≤ len) :
    Calls Try.prog 17 #[.slice A len c, .int .i64 a, .int .i64 4] w fun e w' => e = .returned (.tuple #[.int .i64 (num zs a 4), .int .i64 0]) ∧ w' = w := by
  have hc : ∀ i, i < 4 → ∃ b off, A = some ⟨b, off, none⟩ ∧ b < B ∧ w.cell? ⟨b, off + (a + i), none⟩ = some (.int .u8 (zs.getD (a + i) 0)) := fun i hi => hz.at_ (show a + i < len by omega)
  obtain ⟨b, off, rfl, hB', c0⟩ := hc 0 (by omega)
  simp only [Nat.add_zero] at c0
  obtain ⟨_, _, e1, _, c1⟩ := hc 1 (by omega)
  obtain ⟨rfl, rfl⟩ := Addr.mk.inj (Option.some.inj e1) |>.imp id And.left
  obtain ⟨_, _, e2, _, c2⟩ := hc 2 (by omega)
  obtain ⟨rfl, rfl⟩ := Addr.mk.inj (Option.some.inj e2) |>.imp id And.left
  obtain ⟨_, _, e3, _, c3⟩ := hc 3 (by omega)
  obtain ⟨rfl, rfl⟩ := Addr.mk.inj (Option.some.inj e3) |>.imp id And.left
  obtain ⟨l0, h0⟩ : 0 ≤ zs[a]?.getD 0 ∧ zs[a]?.getD 0 < 256 := hb (a + 0)
  obtain ⟨l1, h1⟩ : 0 ≤ zs[a + 1]?.getD 0 ∧ zs[a + 1]?.getD 0 < 256 := hb (a + 1)
  obtain ⟨l2, h2⟩ : 0 ≤ zs[a + 2]?.getD 0 ∧ zs[a + 2]?.getD 0 < 256 := hb (a + 2)
  obtain ⟨l3, h3⟩ : 0 ≤ zs[a + 3]?.getD 0 ∧ zs[a + 3]?.getD 0 < 256 := hb (a + 3)
  have hf : (a : Int) ≤ (len : Int) - 4 := by omega
  have hd : decide ((a : Int) ≤ (len : Int) - 4) = true := by simp; omega
  clear hz hb hc
  have hd2 : decide ((4 : Int) > (len : Int) - (a : Int)) = false := by simp; omega
  have hd3 : decide ((len : Int) - (a : Int) < 4) = false := by simp; omega
  have hd4 : ¬ (len ≤ a) := by omega
  go_enter Try.func17, Try.ntmps17
  go_wp2
  refine wp_loop_rounds 5 ?_
  repeat any_goals (rw [rounds_succ]; go_wp2)
  go_ret2
  refine ⟨ret_ii ?_ rfl, rfl⟩
  show _ = zs.getD a 0 + 256 * (zs.getD (a + 1) 0 + 256 * (zs.getD (a + 2) 0 + 256 * (zs.getD (a + 3) 0 + 256 * 0)))
  simp only [List.getD_eq_getElem?_getD]
  omega

set_option maxHeartbeats 2000000 in
theorem aget_no (A : Option Addr) (len c : Nat) (zs : List Int) (p n : Int) (w : World) (hn : len ≤ 140737488355328) (pi : p ≤ 9223372036854775807) (h : n < 1 ∨ 4 < n ∨ p < 0 ∨ (len : Int) ≤ p ∨ (0 ≤ p ∧ p < (len : Int) ∧ (len : Int) - p < n)) :
    Calls Try.prog 17 #[.slice A len c, .int .i64 p, .int .i64 n] w fun e w' => e = .returned (.tuple #[.int .i64 0, .int .i64 2]) ∧ w' = w := by
  rcases h with h | h | h | h | ⟨g1, g2, h⟩
  · go_enter Try.func17, Try.ntmps17
    go_wp2
    all_goals go_ret2
    all_goals exact ⟨rfl, rfl⟩
  · go_enter Try.func17, Try.ntmps17
    go_wp2
    all_goals go_ret2
    all_goals exact ⟨rfl, rfl⟩
  · go_enter Try.func17, Try.ntmps17
    go_wp2
    all_goals go_ret2
    all_goals exact ⟨rfl, rfl⟩
  · go_enter Try.func17, Try.ntmps17
    go_wp2
    all_goals go_ret2
    all_goals exact ⟨rfl, rfl⟩
  · have hd : decide ((len : Int) - p < n) = true := by simp; omega
    go_enter Try.func17, Try.ntmps17
    go_wp2
    all_goals go_ret2
    all_goals exact ⟨rfl, rfl⟩

theorem aget_any (A : Option Addr) (len c : Nat) (zs : List Int) (p n : Int) (w : World) (B : Nat) (hz : Row .u8 w B A len zs) (hb : Bytes zs) (hn : len ≤ 140737488355328) (pi : p ≤ 9223372036854775807) :
    Calls Try.prog 17 #[.slice A len c, .int .i64 p, .int .i64 n] w fun e w' => e = .returned (.tuple #[.int .i64 (rgetV zs p n), .int .i64 (rgetE zs p n)]) ∧ w' = w := by
  have hl := hz.1
  by_cases h : n < 1 ∨ 4 < n ∨ p < 0 ∨ (zs.length : Int) < p + n
  · have e1 : rgetV zs p n = 0 := by unfold rgetV; rw [if_pos h]
    have e2 : rgetE zs p n = 2 := by unfold rgetE; rw [if_pos h]
    rw [e1, e2]
    exact aget_no A len c zs p n w hn pi (by omega)
  · have e1 : rgetV zs p n = num zs p.toNat n.toNat := by unfold rgetV; rw [if_neg h]
    have e2 : rgetE zs p n = 0 := by unfold rgetE; rw [if_neg h]
    rw [e1, e2]
    obtain ⟨a, rfl⟩ := Int.eq_ofNat_of_zero_le (show 0 ≤ p by omega)
    have hc : n = 1 ∨ n = 2 ∨ n = 3 ∨ n = 4 := by omega
    rw [Int.toNat_natCast]
    rcases hc with rfl | rfl | rfl | rfl
    · exact aget_1 A len c zs a w B hz hb hn (by omega)
    · exact aget_2 A len c zs a w B hz hb hn (by omega)
    · exact aget_3 A len c zs a w B hz hb hn (by omega)
    · exact aget_4 A len c zs a w B hz hb hn (by omega)

end Go.Proofs.Ytidfngplhjegpaa
