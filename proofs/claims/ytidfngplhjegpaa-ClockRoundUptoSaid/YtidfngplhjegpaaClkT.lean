/- slices.Equal at bools that are alike; ClockTells: its walk. -/
import Derived.Test.YtidfngplhjegpaaClkL
namespace Go.Proofs.Ytidfngplhjegpaa
open Go.RowKit Go.Sort
set_option linter.unusedVariables false

theorem knext_any (A1 A2 : Option Addr) (n1 c1 n2 c2 : Nat) (may used : List Bool) (hand : Int) (w : World) (hm : Rw fB 1 w w.heap.size A1 n1 may) (hu : Rw fB 1 w w.heap.size A2 n2 used) (m1 : n1 ≤ 1048576) (m2 : n2 ≤ 1048576) :
    Calls Try.prog 31 #[.int .i64 hand, .slice A1 n1 c1, .slice A2 n2 c2] w (TNext 4 hand may used w) := by
  have l1 := hm.1
  have l2 := hu.1
  by_cases h1 : n1 = n2
  · subst h1
    by_cases h2 : hand < 0 ∨ (n1 : Int) ≤ hand
    · have hE : nextE hand may used = 2 := by unfold nextE; rw [if_neg (by omega), if_pos (by omega)]
      exact (knext_e2 A1 A2 n1 c1 c2 hand w (by omega) (by omega)).mono fun e w' h => tnext_err hE (by decide) h
    · obtain ⟨h, rfl⟩ := Int.eq_ofNat_of_zero_le (show 0 ≤ hand by omega)
      exact knext_e0 A1 A2 n1 c1 c2 h may used w hm hu (by omega) m1
  · have hE : nextE hand may used = 1 := by unfold nextE; rw [if_pos (by omega)]
    exact (knext_e1 A1 A2 n1 c1 n2 c2 hand w h1 (by omega) (by omega)).mono fun e w' h => tnext_err hE (by decide) h

set_option maxHeartbeats 2000000 in
theorem equalB_same (A1 A2 : Option Addr) (n c1 c2 : Nat) (xs : List Bool) (w : World) (B : Nat) (h1 : Rw fB 1 w B A1 n xs) (h2 : Rw fB 1 w B A2 n xs) (m1 : n ≤ 140737488355328) :
    Calls Try.prog 32 #[.slice A1 n c1, .slice A2 n c2] w fun e w' => e = .returned (.bool true) ∧ Below w.heap.size w w' := by
  rcases Nat.eq_zero_or_pos n with h0 | h0
  · subst h0
    have hx : ((0 : Int) != 0) = false := rfl
    go_enter Try.func32, Try.ntmps32
    go_wp2
    go_loop [13] (fun i => i = .int .i64 0) (fun i => 1 - (intOf i).toNat)
    case atStart => exact rfl
    case round =>
      subst hrel
      go_wp2
      go_ret
      exact ⟨rfl, Below.refl _ _⟩
  · obtain ⟨b1, o1, rfl, _⟩ := rwB_open h1 h0
    obtain ⟨b2, o2, rfl, _⟩ := rwB_open h2 h0
    have H1 := Lib.hid h1
    have H2 := Lib.hid h2
    clear h1 h2
    go_enter Try.func32, Try.ntmps32
    go_wp2
    go_loopw [13] (fun i wr => ∃ k : Nat, k ≤ n ∧ i = .int .i64 k ∧ Below w.heap.size w wr ∧ (∀ p : Addr, wr.cell? p = w.cell? p)) (fun i _ => n - (intOf i).toNat)
    case atStart => exact ⟨0, by omega, rfl, Below.refl _ _, fun _ => rfl⟩
    case round =>
      obtain ⟨k, hk, rfl, hbw, hcell⟩ := hrel
      have HC := Lib.hid hcell
      by_cases hlt : k < n
      · have hc1 := (hcell _).trans (rwB_at H1.out hlt)
        have hc2 := (hcell _).trans (rwB_at H2.out hlt)
        have hk0 : (0 : Int) ≤ (k : Int) := by omega
        have hkn : (k : Int) < (n : Int) := by omega
        clear hcell
        go_wp2
        go_quiet (fail)
        go_wp2
        go_roundw
        case rel => exact ⟨k + 1, by omega, by go_num, hbw.trans (below_drewN _ _ _), fun p => HC.out p⟩
        case measure => simp [intOf]; omega
      · clear hcell
        go_wp2
        go_ret
        exact ⟨rfl, hbw⟩

set_option maxHeartbeats 2000000 in
theorem clockTells_walk {w : World} (hand : Int) (_ : I64 hand) (A1 : Option Addr) (n1 c1 : Nat) (may : List Bool) (hm : Rw fB 1 w w.heap.size A1 n1 may) (l1 : n1 ≤ c1) (_ : c1 ≤ maxLen) (b1 : c1 ≤ 1048576) (A2 : Option Addr) (n2 c2 : Nat) (used : List Bool) (hu : Rw fB 1 w w.heap.size A2 n2 used) (l2 : n2 ≤ c2) (_ : c2 ≤ maxLen) (b2 : c2 ≤ 1048576) :
    Calls Try.prog 11 #[.int .i64 hand, .slice A1 n1 c1, .slice A2 n2 c2] w fun e w' => e = .returned (.bool true) ∧ Below w.heap.size w w' := by
  have HM := Lib.hid hm
  have HU := Lib.hid hu
  clear hm hu
  go_enter Try.func11, Try.ntmps11
  go_wp2_with fail
  refine (next_any A1 A2 n1 c1 n2 c2 may used hand _ _ HM.out HU.out (Nat.le_refl _) (by omega) (by omega)).mono ?_
  rintro e w1 ⟨B1, m1, d1, rfl, ho1, hb1⟩
  have hz1 := hb1.size
  have HO1 := Lib.hid ho1.row
  clear ho1
  go_wp2_with fail
  refine (knext_any A1 A2 n1 c1 n2 c2 may used hand _ (HM.out.on hb1 (Nat.le_refl _)) (HU.out.on hb1 (Nat.le_refl _)) (by omega) (by omega)).mono ?_
  rintro e w2 ⟨B2, m2, d2, rfl, ho2, hb2⟩
  have hz2 := hb2.size
  have HO2 := Lib.hid ho2.row
  have hml : (nextU hand may used).length ≤ 1048576 := by
    have h1 := HU.out.1
    unfold nextU
    split
    · unfold outF; rw [outK_len]; omega
    · simp
  have e1 := HO1.out.1
  have e2 := HO2.out.1
  obtain rfl : m1 = m2 := by omega
  rw [e1] at hml
  clear ho2 e1 e2
  have HO3 := Lib.hid (HO1.out.on hb2 (Nat.le_refl _))
  go_wp2_with fail
  refine (equalB_same B1 B2 m1 d1 d2 _ _ _ HO3.out HO2.out (by omega)).mono ?_
  rintro e w3 ⟨rfl, hb3⟩
  go_wp2
  go_ret
  exact ⟨rfl, hb1.trans ((hb2.trans (hb3.mono hz2)).mono hz1)⟩
end Go.Proofs.Ytidfngplhjegpaa
