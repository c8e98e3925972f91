/- check.Wrong, Page, Tags and the document's GWrong, GPage, GTags: what they answer. -/
import Derived.Test.YtokpodmefnmmcaaStep
import Derived.Test.YtokpodmefnmmcaaKeys
namespace Go.Proofs.Ytokpodmefnmmcaa
open Go.RowKit
attribute [local go_sem] Key4.v

def wrongE (r : Int) : Int := if r < 0 ∨ 7 < r then 2 else if 6 ≤ r then 6 else 0
theorem and_1 (v : Int) : bits .and .i64 v 1 = v % 2 := by
  show IntKind.i64.wrap ((BitVec.ofInt 64 v &&& BitVec.ofInt 64 1).toNat : Int) = _
  have hm : ((1 : Int) % 18446744073709551616).toNat = 1 := by decide
  rw [BitVec.toNat_and, ofInt64, ofInt64, hm]
  have hb := nat_bit 0 (v % 18446744073709551616).toNat
  simp only [Nat.reducePow] at hb
  rw [hb, IntKind.wrap_i64]
  omega
theorem and_2 (v : Int) : bits .and .i64 v 2 = v / 2 % 2 * 2 := by
  show IntKind.i64.wrap ((BitVec.ofInt 64 v &&& BitVec.ofInt 64 2).toNat : Int) = _
  have hm : ((2 : Int) % 18446744073709551616).toNat = 2 := by decide
  rw [BitVec.toNat_and, ofInt64, ofInt64, hm]
  have hb := nat_bit 1 (v % 18446744073709551616).toNat
  simp only [Nat.reducePow] at hb
  rw [hb, IntKind.wrap_i64]
  omega
theorem and_4 (v : Int) : bits .and .i64 v 4 = v / 4 % 2 * 4 := by
  show IntKind.i64.wrap ((BitVec.ofInt 64 v &&& BitVec.ofInt 64 4).toNat : Int) = _
  have hm : ((4 : Int) % 18446744073709551616).toNat = 4 := by decide
  rw [BitVec.toNat_and, ofInt64, ofInt64, hm]
  have hb := nat_bit 2 (v % 18446744073709551616).toNat
  simp only [Nat.reducePow] at hb
  rw [hb, IntKind.wrap_i64]
  omega
attribute [local go_sem] and_1 and_2 and_4

theorem wrong_any (r : Int) (w : World) :
    Calls Try.prog 29 #[.int .i64 r] w fun e w' => e = .returned (.int .i64 (wrongE r)) ∧ w' = w := by
  go_enter Try.func29, Try.ntmps29
  go_wp2
  all_goals go_ret
  all_goals (refine ⟨ret_i ?_, rfl⟩; unfold wrongE; (try simp only [bne_iff_ne, bne_eq_false_iff_eq, ne_eq] at *); first | (rw [if_pos (by omega)]; done) | (rw [if_neg (by omega), if_pos (by omega)]; done) | (rw [if_neg (by omega), if_neg (by omega)]; done))
theorem gwrong_any (r : Int) (w : World) :
    Calls Try.prog 30 #[.int .i64 r] w fun e w' => e = .returned (.int .i64 (wrongE r)) ∧ w' = w := by
  go_enter Try.func30, Try.ntmps30
  go_wp2
  all_goals go_ret
  all_goals (refine ⟨ret_i ?_, rfl⟩; unfold wrongE; first | (rw [if_pos (by omega)]; done) | (rw [if_neg (by omega), if_pos (by omega)]; done) | (rw [if_neg (by omega), if_neg (by omega)]; done))

/-- Is the bit of weight b there? -/
def bitB (n b : Int) : Bool := decide (n / b % 2 = 1)
theorem gb_ {n b x : Int} (_ : True) (h : x = 1 ↔ n / b % 2 = 1) : (x == 1) = bitB n b := by
  unfold bitB; rw [Bool.eq_iff_iff]; simp [h]
theorem gbit_any (n b : Int) (hb : b = 1 ∨ b = 2 ∨ b = 4) (w : World) :
    Calls Try.prog 41 #[.int .i64 n, .int .i64 b] w fun e w' => e = .returned (.bool (bitB n b)) ∧ w' = w := by
  rcases hb with rfl | rfl | rfl
  all_goals
    go_enter Try.func41, Try.ntmps41
    go_wp2
    go_ret
    refine ⟨ret_b (gb_ trivial ?_), rfl⟩
    simp only [IntKind.wrap_u64]
    rw [Int.tmod_eq_emod_of_nonneg (by first | omega | (rw [Int.tdiv_eq_ediv_of_nonneg (by omega)]; omega))]
    try rw [Int.tdiv_eq_ediv_of_nonneg (by omega)]
    omega

def Key4.dn (K : Key4) (k : Int) : Int := if k = 0 then K.d0 else if k = 1 then K.d1 else if k = 2 then K.d2 else K.d3
/-- Why a page may not be looked at in a way (0: it may). -/
def pageF (r key : Int) (K : Key4) (way : Int) : Int :=
  if ¬ (way = 1 ∨ way = 2 ∨ way = 4) ∨ r / way % 2 = 0 then 2
  else if way ≠ 4 ∧ (key < 0 ∨ 4 ≤ key ∨ K.dn key / way % 2 ≠ 0) then 3 else 0

theorem pf2 {r key : Int} {K : Key4} {way : Int} (h : ¬ (way = 1 ∨ way = 2 ∨ way = 4) ∨ r / way % 2 = 0) : 2 = pageF r key K way := by unfold pageF; rw [if_pos h]
theorem pf3 {r key : Int} {K : Key4} {way : Int} (h : way = 1 ∨ way = 2 ∨ way = 4) (hr : r / way % 2 ≠ 0) (h4 : way ≠ 4) (hk : key < 0 ∨ 4 ≤ key) : 3 = pageF r key K way := by
  unfold pageF; rw [if_neg (by omega), if_pos ⟨h4, by omega⟩]
theorem pf3d {r key : Int} {K : Key4} {way d : Int} (h : way = 1 ∨ way = 2 ∨ way = 4) (hr : r / way % 2 ≠ 0) (h4 : way ≠ 4) (hd : K.dn key = d) (hk : d / way % 2 ≠ 0) : 3 = pageF r key K way := by
  unfold pageF; rw [if_neg (by omega), if_pos ⟨h4, by rw [hd]; omega⟩]
theorem pf04 {r key : Int} {K : Key4} {way : Int} (h : way = 4) (hr : r / way % 2 ≠ 0) : 0 = pageF r key K way := by
  unfold pageF; rw [if_neg (by omega), if_neg (by rintro ⟨h', _⟩; exact h' h)]
theorem pf0d {r key : Int} {K : Key4} {way d : Int} (h : way = 1 ∨ way = 2 ∨ way = 4) (hr : r / way % 2 ≠ 0) (hd : K.dn key = d) (hk : 0 ≤ key ∧ key < 4) (hz : d / way % 2 = 0) : 0 = pageF r key K way := by
  unfold pageF; rw [if_neg (by omega), if_neg (by rw [hd]; omega)]

set_option maxHeartbeats 4000000 in
theorem page_any (r key : Int) (tg sd : Bool) (K : Key4) (way : Int) (w : World) :
    Calls Try.prog 31 #[.agg #[.int .i64 r, .int .i64 key, .bool tg, .bool sd], K.v, .int .i64 way] w fun e w' => e = .returned (.int .i64 (pageF r key K way)) ∧ w' = (w.alloc (.cells #[.int .i64 r, .int .i64 key, .bool tg, .bool sd] 45)).alloc (.cells #[.bool K.t0, .int .i64 K.d0, .bool K.t1, .int .i64 K.d1, .bool K.t2, .int .i64 K.d2, .bool K.t3, .int .i64 K.d3] 33) := by
  obtain ⟨t0, d0, t1, d1, t2, d2, t3, d3⟩ := K
  simp only [Key4.v]
  by_cases hw : way = 1 ∨ way = 2 ∨ way = 4
  · by_cases hk : key < 0 ∨ 4 ≤ key
    · rcases hw with rfl | rfl | rfl
      all_goals
        go_enter Try.func31, Try.ntmps31
        go_wp2
        all_goals go_ret
        all_goals (refine ⟨ret_i ?_, rfl⟩; (try simp only [beq_iff_eq, beq_eq_false_iff_ne, ne_eq] at *); first | exact pf2 (by omega) | exact pf3 (by omega) (by omega) (by omega) (by omega) | exact pf04 (by omega) (by omega))
    · have hk' : key = 0 ∨ key = 1 ∨ key = 2 ∨ key = 3 := by omega
      clear hk
      rcases hk' with rfl | rfl | rfl | rfl <;> rcases hw with rfl | rfl | rfl
      all_goals
        go_enter Try.func31, Try.ntmps31
        go_wp2
        all_goals go_ret
        all_goals (refine ⟨ret_i ?_, rfl⟩; (try simp only [bne_iff_ne, bne_eq_false_iff_eq, beq_iff_eq, beq_eq_false_iff_ne, ne_eq] at *); first | exact pf2 (by omega) | exact pf04 (by omega) (by omega) | exact pf3d (d := d0) (by omega) (by omega) (by omega) rfl (by omega) | exact pf0d (d := d0) (by omega) (by omega) rfl (by omega) (by omega) | exact pf3d (d := d1) (by omega) (by omega) (by omega) rfl (by omega) | exact pf0d (d := d1) (by omega) (by omega) rfl (by omega) (by omega) | exact pf3d (d := d2) (by omega) (by omega) (by omega) rfl (by omega) | exact pf0d (d := d2) (by omega) (by omega) rfl (by omega) (by omega) | exact pf3d (d := d3) (by omega) (by omega) (by omega) rfl (by omega) | exact pf0d (d := d3) (by omega) (by omega) rfl (by omega) (by omega))
  · have w1 : (way != 1) = true := by simp; omega
    have w2 : (way != 2) = true := by simp; omega
    have w4 : (way != 4) = true := by simp; omega
    go_enter Try.func31, Try.ntmps31
    go_wp2
    all_goals go_ret
    all_goals (refine ⟨ret_i ?_, rfl⟩; exact pf2 (Or.inl hw))
end Go.Proofs.Ytokpodmefnmmcaa
