/- Small lemmas that all texts of this seat share: results, bits, worlds. -/
import Derived.Test.YtnbhchfpfbbngaaRows
import Derived.WalkKit
import Derived.WalkSpells
import Derived.WalkLawsBesides
import Derived.RowKit3
import Derived.Lib.Hide
import Derived.Handy
import Derived.Laws.BitsAllLaws
import Derived.Laws.BitsLemmas
namespace Go.Proofs.Ytnbhchfpfbbngaa
open Go.RowKit

theorem ret_i {a c : Int} (h : a = c) : Ending.returned (.int .i64 a) = .returned (.int .i64 c) := by rw [h]
theorem ret_b {a c : Bool} (h : a = c) : Ending.returned (.bool a) = .returned (.bool c) := by rw [h]
theorem ret_ii {a b c d : Int} (h : a = c) (h' : b = d) : Ending.returned (.tuple #[.int .i64 a, .int .i64 b]) = .returned (.tuple #[.int .i64 c, .int .i64 d]) := by rw [h, h']
theorem ret_vi {a c : Value} {b d : Int} (h : a = c) (h' : b = d) : Ending.returned (.tuple #[a, .int .i64 b]) = .returned (.tuple #[c, .int .i64 d]) := by rw [h, h']

/-- What stood below the heap's size reads behind a callee as it did. -/
theorem bcell {W w1 : World} (hb : Below W.heap.size W w1) : (∀ b o, b < W.heap.size → w1.cell? ⟨b, o, none⟩ = W.cell? ⟨b, o, none⟩) ∧ (∀ b o, b < W.heap.size → w1.frozen? ⟨b, o, none⟩ = W.frozen? ⟨b, o, none⟩) :=
  ⟨fun b o h => hb.cell (p := ⟨b, o, none⟩) h, fun b o h => hb.frozen (p := ⟨b, o, none⟩) h⟩

theorem below_thru {B : Nat} {a W w1 : World} (h : Below B a W) (hb : Below W.heap.size W w1) (hB : B ≤ W.heap.size) : Below B a w1 := h.trans (hb.mono hB)

theorem keepc {W w1 : World} {b o : Nat} {v : Value} (hb : Below W.heap.size W w1) (hc : W.cell? ⟨b, o, none⟩ = some v) (hlt : b < W.heap.size) : w1.cell? ⟨b, o, none⟩ = some v := (hb.cell (p := ⟨b, o, none⟩) hlt).trans hc

theorem ofInt64 (v : Int) : (BitVec.ofInt 64 v).toNat = (v % 18446744073709551616).toNat := by rw [BitVec.toNat_ofInt]; rfl
theorem and_mask (v : Int) (k : Nat) (hk : k < 63) : bits .and .i64 v ((2 ^ k - 1 : Nat) : Int) = v % (2 ^ k : Nat) := by
  have h2 : 2 ^ k < 2 ^ 63 := Nat.pow_lt_pow_right (by decide) hk
  have hp : 0 < 2 ^ k := Nat.two_pow_pos k
  have hd : ((2 ^ k : Nat) : Int) ∣ (18446744073709551616 : Int) := by
    have : (2 ^ k) ∣ 2 ^ 64 := Nat.pow_dvd_pow 2 (by omega)
    exact Int.ofNat_dvd.2 this
  show IntKind.i64.wrap ((BitVec.ofInt 64 v &&& BitVec.ofInt 64 _).toNat : Int) = _
  have hm : (((2 ^ k - 1 : Nat) : Int) % 18446744073709551616).toNat = 2 ^ k - 1 := by omega
  rw [BitVec.toNat_and, ofInt64, ofInt64, hm, Nat.and_two_pow_sub_one_eq_mod]
  have h3 : (((v % 18446744073709551616).toNat % 2 ^ k : Nat) : Int) = v % ((2 ^ k : Nat) : Int) := by
    rw [Int.natCast_emod, Int.toNat_of_nonneg (by omega), Int.emod_emod_of_dvd _ hd]
  rw [h3, IntKind.wrap_i64]
  have h4 := Int.emod_nonneg v (b := ((2 ^ k : Nat) : Int)) (by omega)
  have h5 := Int.emod_lt_of_pos v (b := ((2 ^ k : Nat) : Int)) (by omega)
  omega
theorem and255 (v : Int) : bits .and .i64 v 255 = v % 256 := and_mask v 8 (by decide)
theorem and15 (v : Int) : bits .and .i64 v 15 = v % 16 := and_mask v 4 (by decide)
theorem and1 (v : Int) : bits .and .i64 v 1 = v % 2 := and_mask v 1 (by decide)
/-- 'k | n' where the two have no bit together: n is a multiple of 2 ^ i, k below that. -/
theorem or_join (i : Nat) (k n : Int) (h0 : 0 ≤ k) (h1 : k < (2 ^ i : Nat)) (hn : 0 ≤ n) (hd : n % (2 ^ i : Nat) = 0) (hb : n + k < 9223372036854775808) : bits .or .i64 k n = k + n := by
  obtain ⟨k, rfl⟩ := Int.eq_ofNat_of_zero_le h0
  obtain ⟨n, rfl⟩ := Int.eq_ofNat_of_zero_le hn
  show IntKind.i64.wrap ((BitVec.ofInt 64 (k : Int) ||| BitVec.ofInt 64 (n : Int)).toNat : Int) = _
  rw [BitVec.toNat_or, ofInt64, ofInt64]
  have e1 : ((k : Int) % 18446744073709551616).toNat = k := by omega
  have e2 : ((n : Int) % 18446744073709551616).toNat = n := by omega
  have e3 : k ||| n = k + n := by
    rw [Nat.or_comm, nat_join i n k (by omega) (by omega)]; omega
  rw [e1, e2, e3, IntKind.wrap_i64]
  omega
end Go.Proofs.Ytnbhchfpfbbngaa
