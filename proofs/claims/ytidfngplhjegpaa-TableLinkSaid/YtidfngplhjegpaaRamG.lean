/- ram.Get and the document's AGet: what they answer. -/
import Derived.Test.YtidfngplhjegpaaOwn
namespace Go.Proofs.Ytidfngplhjegpaa
open Go.RowKit
set_option linter.unusedVariables false

def Bytes (zs : List Int) : Prop := ∀ i, 0 ≤ zs.getD i 0 ∧ zs.getD i 0 < 256
/-- The number that n bytes are, the least first. -/
def num (zs : List Int) (a : Nat) : Nat → Int
  | 0 => 0
  | n + 1 => zs.getD a 0 + 256 * num zs (a + 1) n
def Fits (len : Nat) (p n : Int) : Prop := 1 ≤ n ∧ n ≤ 4 ∧ 0 ≤ p ∧ p ≤ (len : Int) - n
def rgetE (zs : List Int) (p n : Int) : Int := if n < 1 ∨ 4 < n ∨ p < 0 ∨ (zs.length : Int) < p + n then 2 else 0
def rgetV (zs : List Int) (p n : Int) : Int := if n < 1 ∨ 4 < n ∨ p < 0 ∨ (zs.length : Int) < p + n then 0 else num zs p.toNat n.toNat
theorem orz {x : Int} (h0 : 0 ≤ x) (h1 : x < 256) : bits .or .i64 0 x = x := by rw [or_join 0 0 x (by omega) (by omega) h0 (by omega) (by omega)]; omega
theorem or1 {x y : Int} (h0 : 0 ≤ x) (h1 : x < 256) (g0 : 0 ≤ y) (g1 : y < 256) : bits .or .i64 x (y * 256) = x + y * 256 := or_join 8 x (y * 256) h0 (by omega) (by omega) (by omega) (by omega)
theorem or2 {x y : Int} (h0 : 0 ≤ x) (h1 : x < 65536) (g0 : 0 ≤ y) (g1 : y < 256) : bits .or .i64 x (y * 65536) = x + y * 65536 := or_join 16 x (y * 65536) h0 (by omega) (by omega) (by omega) (by omega)
theorem or3 {x y : Int} (h0 : 0 ≤ x) (h1 : x < 16777216) (g0 : 0 ≤ y) (g1 : y < 256) : bits .or .i64 x (y * 16777216) = x + y * 16777216 := or_join 24 x (y * 16777216) h0 (by omega) (by omega) (by omega) (by omega)

set_option maxHeartbeats 2000000 in
theorem rget_1 (A : Option Addr) (len c : Nat) (zs : List Int) (a : Nat) (w : World) (B : Nat) (hz : Row .u8 w B A len zs) (hb : Bytes zs) (hn : len ≤ 140737488355328) (ha : a + 1 ≤ len) :
    Calls Try.prog 16 #[.slice A len c, .int .i64 a, .int .i64 1] w fun e w' => e = .returned (.tuple #[.int .i64 (num zs a 1), .int .i64 0]) ∧ w' = w := by
  have hc : ∀ i, i < 1 → ∃ b off, A = some ⟨b, off, none⟩ ∧ b < B ∧ w.cell? ⟨b, off + (a + i), none⟩ = some (.int .u8 (zs.getD (a + i) 0)) := fun i hi => hz.at_ (show a + i < len by omega)
  obtain ⟨b, off, rfl, hB', c0⟩ := hc 0 (by omega)
  simp only [Nat.add_zero] at c0
  obtain ⟨l0, h0⟩ : 0 ≤ zs[a]?.getD 0 ∧ zs[a]?.getD 0 < 256 := hb (a + 0)
  have hf : (a : Int) ≤ (len : Int) - 1 := by omega
  have hd : decide ((a : Int) ≤ (len : Int) - 1) = true := by simp; omega
  clear hz hb hc
  go_enter Try.func16, Try.ntmps16
  go_wp2
  refine wp_loop_rounds 2 ?_
  repeat any_goals (rw [rounds_succ]; go_wp2)
  go_ret2
  refine ⟨ret_ii ?_ rfl, rfl⟩
  rw [orz l0 h0]
  show _ = zs.getD a 0 + 256 * 0
  show zs.getD a 0 = _
  omega

set_option maxHeartbeats 2000000 in
theorem rget_2 (A : Option Addr) (len c : Nat) (zs : List Int) (a : Nat) (w : World) (B : Nat) (hz : Row .u8 w B A len zs) (hb : Bytes zs) (hn : len ≤ 140737488355328) (ha : a + 2 ≤ len) :
    Calls Try.prog 16 #[.slice A len c, .int .i64 a, .int .i64 2] w fun e w' => e = .returned (.tuple #[.int .i64 (num zs a 2), .int .i64 0]) ∧ w' = w := by
  have hc : ∀ i, i < 2 → ∃ b off, A = some ⟨b, off, none⟩ ∧ b < B ∧ w.cell? ⟨b, off + (a + i), none⟩ = some (.int .u8 (zs.getD (a + i) 0)) := fun i hi => hz.at_ (show a + i < len by omega)
  obtain ⟨b, off, rfl, hB', c0⟩ := hc 0 (by omega)
  simp only [Nat.add_zero] at c0
  obtain ⟨_, _, e1, _, c1⟩ := hc 1 (by omega)
  obtain ⟨rfl, rfl⟩ := Addr.mk.inj (Option.some.inj e1) |>.imp id And.left
  obtain ⟨l0, h0⟩ : 0 ≤ zs[a]?.getD 0 ∧ zs[a]?.getD 0 < 256 := hb (a + 0)
  obtain ⟨l1, h1⟩ : 0 ≤ zs[a + 1]?.getD 0 ∧ zs[a + 1]?.getD 0 < 256 := hb (a + 1)
  have hf : (a : Int) ≤ (len : Int) - 2 := by omega
  have hd : decide ((a : Int) ≤ (len : Int) - 2) = true := by simp; omega
  clear hz hb hc
  go_enter Try.func16, Try.ntmps16
  go_wp2
  refine wp_loop_rounds 3 ?_
  repeat any_goals (rw [rounds_succ]; go_wp2)
  go_ret2
  refine ⟨ret_ii ?_ rfl, rfl⟩
  rw [orz l0 h0, or1 l0 h0 l1 h1]
  show _ = zs.getD a 0 + 256 * (zs.getD (a + 1) 0 + 256 * 0)
  show zs.getD a 0 + zs.getD (a + 1) 0 * 256 = _
  omega

set_option maxHeartbeats 2000000 in
theorem rget_3 (A : Option Addr) (len c : Nat) (zs : List Int) (a : Nat) (w : World) (B : Nat) (hz : Row .u8 w B A len zs) (hb : Bytes zs) (hn : len ≤ 140737488355328) (ha : a + 3 ≤ len) :
    Calls Try.prog 16 #[.slice A len c, .int .i64 a, .int .i64 3] w fun e w' => e = .returned (.tuple #[.int .i64 (num zs a 3), .int .i64 0]) ∧ w' = w := by
  have hc : ∀ i, i < 3 → ∃ b off, A = some ⟨b, off, none⟩ ∧ b < B ∧ w.cell? ⟨b, off + (a + i), none⟩ = some (.int .u8 (zs.getD (a + i) 0)) := fun i hi => hz.at_ (show a + i < len by omega)
  obtain ⟨b, off, rfl, hB', c0⟩ := hc 0 (by omega)
  simp only [Nat.add_zero] at c0
  obtain ⟨_, _, e1, _, c1⟩ := hc 1 (by omega)
  obtain ⟨rfl, rfl⟩ := Addr.mk.inj (Option.some.inj e1) |>.imp id And.left
  obtain ⟨_, _, e2, _, c2⟩ := hc 2 (by omega)
  obtain ⟨rfl, rfl⟩ := Addr.mk.inj (Option.some.inj e2) |>.imp id And.left
  obtain ⟨l0, h0⟩ : 0 ≤ zs[a]?.getD 0 ∧ zs[a]?.getD 0 < 256 := hb (a + 0)
  obtain ⟨l1, h1⟩ : 0 ≤ zs[a + 1]?.getD 0 ∧ zs[a + 1]?.getD 0 < 256 := hb (a + 1)
  obtain ⟨l2, h2⟩ : 0 ≤ zs[a + 2]?.getD 0 ∧ zs[a + 2]?.getD 0 < 256 := hb (a + 2)
  have hf : (a : Int) ≤ (len : Int) - 3 := by omega
  have hd : decide ((a : Int) ≤ (len : Int) - 3) = true := by simp; omega
  clear hz hb hc
  go_enter Try.func16, Try.ntmps16
  go_wp2
  refine wp_loop_rounds 4 ?_
  repeat any_goals (rw [rounds_succ]; go_wp2)
  go_ret2
  refine ⟨ret_ii ?_ rfl, rfl⟩
  rw [orz l0 h0, or1 l0 h0 l1 h1, or2 (by omega) (by omega) l2 h2]
  show _ = zs.getD a 0 + 256 * (zs.getD (a + 1) 0 + 256 * (zs.getD (a + 2) 0 + 256 * 0))
  show zs.getD a 0 + zs.getD (a + 1) 0 * 256 + zs.getD (a + 2) 0 * 65536 = _
  omega

set_option maxHeartbeats 2000000 in
theorem rget_4 (A : Option Addr) (len c : Nat) (zs : List Int) (a : Nat) (w : World) (B : Nat) (hz : Row .u8 w B A len zs) (hb : Bytes zs) (hn : len ≤ 140737488355328) (ha : a + 4 ≤ len) :
    Calls Try.prog 16 #[.slice A len c, .int .i64 a, .int .i64 4] w fun e w' => e = .returned (.tuple #[.int .i64 (num zs a 4), .int .i64 0]) ∧ w' = w := by
  have hc : ∀ i, i < 4 → ∃ b off, A = some ⟨b, off, none⟩ ∧ b < B ∧ w.cell? ⟨b, off + (a + i), none⟩ = some (.int .u8 (zs.getD (a + i) 0)) := fun i hi => hz.at_ (show a + i < len by omega)
  obtain ⟨b, off, rfl, hB', c0⟩ := hc 0 (by omega)
  simp only [Nat.add_zero] at c0
  obtain ⟨_, _, e1, _, c1⟩ := hc 1 (by omega)
  obtain ⟨rfl, rfl⟩ := Addr.mk.inj (Option.some.inj e1) |>.imp id And.left
  obtain ⟨_, _, e2, _, c2⟩ := hc 2 (by omega)
  obtain ⟨rfl, rfl⟩ := Addr.mk.inj (Option.some.inj e2) |>.imp id And.left
  obtain ⟨_, _, e3, _, c3⟩ := hc 3 (by omega)
  obtain ⟨rfl, rfl⟩ := Addr.mk.inj (Option.some.inj e3) |>.imp id And.left
  obtain ⟨l0, h0⟩ : 0 ≤ zs[a]?.getD 0 ∧ zs[a]?.getD 0 < 256 := hb (a + 0)
  obtain ⟨l1, h1⟩ : 0 ≤ zs[a + 1]?.getD 0 ∧ zs[a + 1]?.getD 0 < 256 := hb (a + 1)
  obtain ⟨l2, h2⟩ : 0 ≤ zs[a + 2]?.getD 0 ∧ zs[a + 2]?.getD 0 < 256 := hb (a + 2)
  obtain ⟨l3, h3⟩ : 0 ≤ zs[a + 3]?.getD 0 ∧ zs[a + 3]?.getD 0 < 256 := hb (a + 3)
  have hf : (a : Int) ≤ (len : Int) - 4 := by omega
  have hd : decide ((a : Int) ≤ (len : Int) - 4) = true := by simp; omega
  clear hz hb hc
  go_enter Try.func16, Try.ntmps16
  go_wp2
  refine wp_loop_rounds 5 ?_
  repeat any_goals (rw [rounds_succ]; go_wp2)
  go_ret2
  refine ⟨ret_ii ?_ rfl, rfl⟩
  rw [orz l0 h0, or1 l0 h0 l1 h1, or2 (by omega) (by omega) l2 h2, or3 (by omega) (by omega) l3 h3]
  show _ = zs.getD a 0 + 256 * (zs.getD (a + 1) 0 + 256 * (zs.getD (a + 2) 0 + 256 * (zs.getD (a + 3) 0 + 256 * 0)))
  show zs.getD a 0 + zs.getD (a + 1) 0 * 256 + zs.getD (a + 2) 0 * 65536 + zs.getD (a + 3) 0 * 16777216 = _
  omega

set_option maxHeartbeats 2000000 in
theorem rget_no (A : Option Addr) (len c : Nat) (zs : List Int) (p n : Int) (w : World) (hn : len ≤ 140737488355328) (h : n < 1 ∨ 4 < n ∨ p < 0 ∨ (1 ≤ n ∧ n ≤ 4 ∧ (len : Int) - n < p)) :
    Calls Try.prog 16 #[.slice A len c, .int .i64 p, .int .i64 n] w fun e w' => e = .returned (.tuple #[.int .i64 0, .int .i64 2]) ∧ w' = w := by
  rcases h with h | h | h | ⟨g1, g2, h⟩
  · go_enter Try.func16, Try.ntmps16
    go_wp2
    all_goals go_ret2
    all_goals exact ⟨rfl, rfl⟩
  · go_enter Try.func16, Try.ntmps16
    go_wp2
    all_goals go_ret2
    all_goals exact ⟨rfl, rfl⟩
  · go_enter Try.func16, Try.ntmps16
    go_wp2
    all_goals go_ret2
    all_goals exact ⟨rfl, rfl⟩
  · have hd : decide (p ≤ (len : Int) - n) = false := by simp; omega
    go_enter Try.func16, Try.ntmps16
    go_wp2
    all_goals go_ret2
    all_goals exact ⟨rfl, rfl⟩

theorem rget_any (A : Option Addr) (len c : Nat) (zs : List Int) (p n : Int) (w : World) (B : Nat) (hz : Row .u8 w B A len zs) (hb : Bytes zs) (hn : len ≤ 140737488355328) :
    Calls Try.prog 16 #[.slice A len c, .int .i64 p, .int .i64 n] w fun e w' => e = .returned (.tuple #[.int .i64 (rgetV zs p n), .int .i64 (rgetE zs p n)]) ∧ w' = w := by
  have hl := hz.1
  by_cases h : n < 1 ∨ 4 < n ∨ p < 0 ∨ (zs.length : Int) < p + n
  · have e1 : rgetV zs p n = 0 := by unfold rgetV; rw [if_pos h]
    have e2 : rgetE zs p n = 2 := by unfold rgetE; rw [if_pos h]
    rw [e1, e2]
    exact rget_no A len c zs p n w hn (by omega)
  · have e1 : rgetV zs p n = num zs p.toNat n.toNat := by unfold rgetV; rw [if_neg h]
    have e2 : rgetE zs p n = 0 := by unfold rgetE; rw [if_neg h]
    rw [e1, e2]
    obtain ⟨a, rfl⟩ := Int.eq_ofNat_of_zero_le (show 0 ≤ p by omega)
    have hc : n = 1 ∨ n = 2 ∨ n = 3 ∨ n = 4 := by omega
    rw [Int.toNat_natCast]
    rcases hc with rfl | rfl | rfl | rfl
    · exact rget_1 A len c zs a w B hz hb hn (by omega)
    · exact rget_2 A len c zs a w B hz hb hn (by omega)
    · exact rget_3 A len c zs a w B hz hb hn (by omega)
    · exact rget_4 A len c zs a w B hz hb hn (by omega)

end Go.Proofs.Ytidfngplhjegpaa
