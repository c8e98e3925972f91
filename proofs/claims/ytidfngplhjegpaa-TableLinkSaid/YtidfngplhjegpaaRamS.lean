/- ram.Set and ram.Put: what they answer. -/
import Derived.Test.YtidfngplhjegpaaRamP
namespace Go.Proofs.Ytidfngplhjegpaa
open Go.RowKit
set_option linter.unusedVariables false

def rsetL (zs : List Int) (p n v : Int) : List Int := if rgetE zs p n = 0 then putN zs p.toNat v n.toNat else zs
def rputL (zs : List Int) (p n v : Int) : List Int := if rgetE zs p n = 0 then putN zs p.toNat v n.toNat else []

theorem rput_any (A : Option Addr) (len c : Nat) (zs : List Int) (a : Nat) (n v : Int) (w : World) (base : Nat) (ho : Own .u8 5 w base A len c zs) (hn : len ≤ 140737488355328) (n1 : 1 ≤ n) (n4 : n ≤ 4) (ha : (a : Int) + n ≤ (len : Int)) :
    Calls Try.prog 46 #[.slice A len c, .int .i64 a, .int .i64 n, .int .i64 v] w fun e w' => e = .returned (.tuple #[]) ∧ Own .u8 5 w' base A len c (putN zs a v n.toNat) ∧ Below base w w' := by
  have hc : n = 1 ∨ n = 2 ∨ n = 3 ∨ n = 4 := by omega
  rcases hc with rfl | rfl | rfl | rfl
  · exact rput_1 A len c zs a v w base ho hn (by omega)
  · exact rput_2 A len c zs a v w base ho hn (by omega)
  · exact rput_3 A len c zs a v w base ho hn (by omega)
  · exact rput_4 A len c zs a v w base ho hn (by omega)

set_option maxHeartbeats 2000000 in
theorem rset_no (A : Option Addr) (len c : Nat) (p n v : Int) (w : World) (hn : len ≤ 140737488355328) (h : n < 1 ∨ 4 < n ∨ p < 0 ∨ (1 ≤ n ∧ n ≤ 4 ∧ (len : Int) - n < p)) :
    Calls Try.prog 35 #[.slice A len c, .int .i64 p, .int .i64 n, .int .i64 v] w fun e w' => e = .returned (.bool false) ∧ w' = w := by
  rcases h with h | h | h | ⟨g1, g2, h⟩
  · go_enter Try.func35, Try.ntmps35
    go_wp2
    all_goals go_ret
    all_goals exact ⟨rfl, rfl⟩
  · go_enter Try.func35, Try.ntmps35
    go_wp2
    all_goals go_ret
    all_goals exact ⟨rfl, rfl⟩
  · go_enter Try.func35, Try.ntmps35
    go_wp2
    all_goals go_ret
    all_goals exact ⟨rfl, rfl⟩
  · have hd : decide (p ≤ (len : Int) - n) = false := by simp; omega
    go_enter Try.func35, Try.ntmps35
    go_wp2
    all_goals go_ret
    all_goals exact ⟨rfl, rfl⟩

set_option maxHeartbeats 2000000 in
theorem rset_yes (A : Option Addr) (len c : Nat) (zs : List Int) (a : Nat) (n v : Int) (w : World) (base : Nat) (ho : Own .u8 5 w base A len c zs) (hn : len ≤ 140737488355328) (n1 : 1 ≤ n) (n4 : n ≤ 4) (ha : (a : Int) + n ≤ (len : Int)) :
    Calls Try.prog 35 #[.slice A len c, .int .i64 a, .int .i64 n, .int .i64 v] w fun e w' => e = .returned (.bool true) ∧ Own .u8 5 w' base A len c (putN zs a v n.toNat) ∧ Below base w w' := by
  have hd : decide ((a : Int) ≤ (len : Int) - n) = true := by simp; omega
  have HO := Lib.hid ho
  clear ho
  go_enter Try.func35, Try.ntmps35
  go_wp2_with (first | (go_at_call 46; refine (rput_any A len c zs a n v _ base HO.out hn n1 n4 ha).mono ?_; rintro e w' ⟨rfl, ho, hb⟩; have HQ := Lib.hid ho; clear ho) | go_in)
  go_ret
  exact ⟨rfl, HQ.out, hb⟩

def TPut (T : TypeId) (zs : List Int) (p n v : Int) (w : World) (e : Ending) (w' : World) : Prop :=
  ∃ A' n' c', e = .returned (.tuple #[.slice A' n' c', .int .i64 (rgetE zs p n)]) ∧ Own .u8 T w' w.heap.size A' n' c' (rputL zs p n v) ∧ Below w.heap.size w w'

set_option maxHeartbeats 2000000 in
theorem rPut_any (A : Option Addr) (len c : Nat) (zs : List Int) (p n v : Int) (w : World) (B : Nat) (hz : Row .u8 w B A len zs) (hB : B ≤ w.heap.size) (hn : len ≤ 140737488355328) :
    Calls Try.prog 15 #[.slice A len c, .int .i64 p, .int .i64 n, .int .i64 v] w (TPut 5 zs p n v w) := by
  have hl := hz.1
  have HL := Lib.hid hl; have HZ := Lib.hid hz
  clear hl hz
  by_cases h : n < 1 ∨ 4 < n ∨ p < 0 ∨ (len : Int) < p + n
  · have e2 : rgetE zs p n = 2 := by unfold rgetE; rw [if_pos (by rw [HL.out]; exact h)]
    have e3 : rputL zs p n v = [] := by unfold rputL; rw [if_neg (by rw [e2]; decide)]
    have H := Lib.hid (And.intro e2 e3)
    have Hh := Lib.hid h
    clear e2 e3 h
    go_enter Try.func15, Try.ntmps15
    go_wp2_with (first
      | (go_at_call 34; refine (clone_any A len c zs _ B HZ.out hB hn).mono ?_; rintro e w1 ⟨A', c', rfl, ho, hb1⟩; have HO := Lib.hid ho; clear ho)
      | (go_at_call 35; refine (rset_no A' len c' p n v _ hn (by have := Hh.out; omega)).mono ?_; rintro e w2 ⟨rfl, hw2⟩; rw [hw2]; clear hw2))
    go_ret2
    exact ⟨none, 0, 0, by rw [H.out.1]; rfl, by rw [H.out.2]; exact ⟨rfl, by omega, by simp, fun h => absurd h (by omega)⟩, hb1⟩
  · obtain ⟨a, rfl⟩ := Int.eq_ofNat_of_zero_le (show 0 ≤ p by omega)
    have e2 : rgetE zs a n = 0 := by unfold rgetE; rw [if_neg (by rw [HL.out]; exact h)]
    have e3 : rputL zs a n v = putN zs a v n.toNat := by unfold rputL; rw [if_pos e2, Int.toNat_natCast]
    have H := Lib.hid (And.intro e2 e3)
    have n1 : 1 ≤ n := by omega
    have n4 : n ≤ 4 := by omega
    have ha : (a : Int) + n ≤ (len : Int) := by omega
    clear e2 e3 h
    go_enter Try.func15, Try.ntmps15
    go_wp2_with (first
      | (go_at_call 34; refine (clone_any A len c zs _ B HZ.out hB hn).mono ?_; rintro e w1 ⟨A', c', rfl, ho, hb1⟩; have HO := Lib.hid ho; clear ho)
      | (go_at_call 35; refine (rset_yes A' len c' zs a n v _ w.heap.size HO.out hn n1 n4 ha).mono ?_; rintro e w2 ⟨rfl, ho2, hb2⟩; have HQ := Lib.hid ho2; clear ho2))
    go_ret2
    exact ⟨A', len, c', by rw [H.out.1]; rfl, by rw [H.out.2]; exact HQ.out, hb1.trans hb2⟩
end Go.Proofs.Ytidfngplhjegpaa
