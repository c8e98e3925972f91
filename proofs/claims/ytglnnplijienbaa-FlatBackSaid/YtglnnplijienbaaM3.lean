/- Several texts in one: Base, Step, Keys, Check, KeysE. -/
import Derived.Test.YtglnnplijienbaaRows
import Derived.WalkKit
import Derived.WalkSpells
import Derived.WalkLawsBesides
import Derived.RowKit3
import Derived.Lib.Hide
import Derived.Handy
import Derived.Laws.BitsAllLaws
import Derived.Laws.BitsLemmas
/- Small lemmas that all texts of this seat share: results, bits, worlds. -/
namespace Go.Proofs.Ytglnnplijienbaa
open Go.RowKit

theorem ret_i {a c : Int} (h : a = c) : Ending.returned (.int .i64 a) = .returned (.int .i64 c) := by rw [h]
theorem ret_b {a c : Bool} (h : a = c) : Ending.returned (.bool a) = .returned (.bool c) := by rw [h]
theorem ret_ii {a b c d : Int} (h : a = c) (h' : b = d) : Ending.returned (.tuple #[.int .i64 a, .int .i64 b]) = .returned (.tuple #[.int .i64 c, .int .i64 d]) := by rw [h, h']
theorem ret_vi {a c : Value} {b d : Int} (h : a = c) (h' : b = d) : Ending.returned (.tuple #[a, .int .i64 b]) = .returned (.tuple #[c, .int .i64 d]) := by rw [h, h']

/-- What stood below the heap's size reads behind a callee as it did. -/
theorem bcell {W w1 : World} (hb : Below W.heap.size W w1) : (∀ b o, b < W.heap.size → w1.cell? ⟨b, o, none⟩ = W.cell? ⟨b, o, none⟩) ∧ (∀ b o, b < W.heap.size → w1.frozen? ⟨b, o, none⟩ = W.frozen? ⟨b, o, none⟩) :=
  ⟨fun b o h => hb.cell (p := ⟨b, o, none⟩) h, fun b o h => hb.frozen (p := ⟨b, o, none⟩) h⟩

theorem below_thru {B : Nat} {a W w1 : World} (h : Below B a W) (hb : Below W.heap.size W w1) (hB : B ≤ W.heap.size) : Below B a w1 := h.trans (hb.mono hB)

theorem keepc {W w1 : World} {b o : Nat} {v : Value} (hb : Below W.heap.size W w1) (hc : W.cell? ⟨b, o, none⟩ = some v) (hlt : b < W.heap.size) : w1.cell? ⟨b, o, none⟩ = some v := (hb.cell (p := ⟨b, o, none⟩) hlt).trans hc

theorem ofInt64 (v : Int) : (BitVec.ofInt 64 v).toNat = (v % 18446744073709551616).toNat := by rw [BitVec.toNat_ofInt]; rfl
theorem and_mask (v : Int) (k : Nat) (hk : k < 63) : bits .and .i64 v ((2 ^ k - 1 : Nat) : Int) = v % (2 ^ k : Nat) := by
  have h2 : 2 ^ k < 2 ^ 63 := Nat.pow_lt_pow_right (by decide) hk
  have hp : 0 < 2 ^ k := Nat.two_pow_pos k
  have hd : ((2 ^ k : Nat) : Int) ∣ (18446744073709551616 : Int) := by
    have : (2 ^ k) ∣ 2 ^ 64 := Nat.pow_dvd_pow 2 (by omega)
    exact Int.ofNat_dvd.2 this
  show IntKind.i64.wrap ((BitVec.ofInt 64 v &&& BitVec.ofInt 64 _).toNat : Int) = _
  have hm : (((2 ^ k - 1 : Nat) : Int) % 18446744073709551616).toNat = 2 ^ k - 1 := by omega
  rw [BitVec.toNat_and, ofInt64, ofInt64, hm, Nat.and_two_pow_sub_one_eq_mod]
  have h3 : (((v % 18446744073709551616).toNat % 2 ^ k : Nat) : Int) = v % ((2 ^ k : Nat) : Int) := by
    rw [Int.natCast_emod, Int.toNat_of_nonneg (by omega), Int.emod_emod_of_dvd _ hd]
  rw [h3, IntKind.wrap_i64]
  have h4 := Int.emod_nonneg v (b := ((2 ^ k : Nat) : Int)) (by omega)
  have h5 := Int.emod_lt_of_pos v (b := ((2 ^ k : Nat) : Int)) (by omega)
  omega
theorem and255 (v : Int) : bits .and .i64 v 255 = v % 256 := and_mask v 8 (by decide)
theorem and15 (v : Int) : bits .and .i64 v 15 = v % 16 := and_mask v 4 (by decide)
theorem and1 (v : Int) : bits .and .i64 v 1 = v % 2 := and_mask v 1 (by decide)
/-- 'k | n' where the two have no bit together: n is a multiple of 2 ^ i, k below that. -/
theorem or_join (i : Nat) (k n : Int) (h0 : 0 ≤ k) (h1 : k < (2 ^ i : Nat)) (hn : 0 ≤ n) (hd : n % (2 ^ i : Nat) = 0) (hb : n + k < 9223372036854775808) : bits .or .i64 k n = k + n := by
  obtain ⟨k, rfl⟩ := Int.eq_ofNat_of_zero_le h0
  obtain ⟨n, rfl⟩ := Int.eq_ofNat_of_zero_le hn
  show IntKind.i64.wrap ((BitVec.ofInt 64 (k : Int) ||| BitVec.ofInt 64 (n : Int)).toNat : Int) = _
  rw [BitVec.toNat_or, ofInt64, ofInt64]
  have e1 : ((k : Int) % 18446744073709551616).toNat = k := by omega
  have e2 : ((n : Int) % 18446744073709551616).toNat = n := by omega
  have e3 : k ||| n = k + n := by
    rw [Nat.or_comm, nat_join i n k (by omega) (by omega)]; omega
  rw [e1, e2, e3, IntKind.wrap_i64]
  omega
end Go.Proofs.Ytglnnplijienbaa

/- What stands behind a callee. -/
namespace Go.Proofs.Ytglnnplijienbaa
open Go.RowKit

/-- Behind a callee: one new block lay ahead of the call: all cells that were there, that block's own, and the sizes. -/
theorem step1 {w w1 : World} {C : Array Value} {t : TypeId} (hb : Below (w.alloc (.cells C t)).heap.size (w.alloc (.cells C t)) w1) :
    (∀ b o, b < w.heap.size → w1.cell? ⟨b, o, none⟩ = w.cell? ⟨b, o, none⟩) ∧ (∀ o, w1.cell? ⟨w.heap.size, o, none⟩ = C[o]?) ∧ w.heap.size < w1.heap.size := by
  refine ⟨fun b o h => ?_, fun o => ?_, ?_⟩
  · rw [hb.cell (p := ⟨b, o, none⟩) (by simp; omega)]; exact World.cell?_alloc_lt w _ ⟨b, o, none⟩ h
  · rw [hb.cell (p := ⟨w.heap.size, o, none⟩) (by simp)]; exact World.cell?_alloc_new w C t o
  · have := hb.size; simp at this; omega
/-- The same where no new block lay ahead of the call. -/
theorem step0 {w w1 : World} (hb : Below w.heap.size w w1) : (∀ b o, b < w.heap.size → w1.cell? ⟨b, o, none⟩ = w.cell? ⟨b, o, none⟩) ∧ w.heap.size ≤ w1.heap.size :=
  ⟨fun b o h => hb.cell (p := ⟨b, o, none⟩) h, hb.size⟩
end Go.Proofs.Ytglnnplijienbaa

/- keys.First, New, Free, Set and the document's JNew, JChange: what they answer. -/
namespace Go.Proofs.Ytglnnplijienbaa
open Go.RowKit

/-- Four keys: taken, and what each denies. -/
structure Key4 where
  t0 : Bool
  d0 : Int
  t1 : Bool
  d1 : Int
  t2 : Bool
  d2 : Int
  t3 : Bool
  d3 : Int
abbrev Key4.v (K : Key4) : Value := .agg #[.bool K.t0, .int .i64 K.d0, .bool K.t1, .int .i64 K.d1, .bool K.t2, .int .i64 K.d2, .bool K.t3, .int .i64 K.d3]
attribute [local go_sem] Key4.v
def zero4 : Key4 := ⟨false, 0, false, 0, false, 0, false, 0⟩
def Key4.tk (K : Key4) (k : Int) : Bool := if k = 0 then K.t0 else if k = 1 then K.t1 else if k = 2 then K.t2 else if k = 3 then K.t3 else false
def Key4.set (K : Key4) (k : Int) (t : Bool) (d : Int) : Key4 :=
  if k = 0 then { K with t0 := t, d0 := d } else if k = 1 then { K with t1 := t, d1 := d } else if k = 2 then { K with t2 := t, d2 := d } else if k = 3 then { K with t3 := t, d3 := d } else K
/-- The least key that is not taken (4: none). -/
def Key4.free (K : Key4) : Int := if K.t0 = false then 0 else if K.t1 = false then 1 else if K.t2 = false then 2 else if K.t3 = false then 3 else 4
def new4 (K : Key4) : Key4 := if K.free = 4 then zero4 else K.set K.free true 0
def new4K (K : Key4) : Int := if K.free = 4 then 0 else K.free
def new4E (K : Key4) : Int := if K.free = 4 then 4 else 0
def chg4E (K : Key4) (k least d : Int) : Int := if least ≤ k ∧ K.tk k = true then (if d < 0 ∨ 3 < d then 2 else 0) else 3
def chg4 (K : Key4) (k least : Int) (t : Bool) (d : Int) : Key4 := if chg4E K k least d = 0 then K.set k t d else zero4

theorem index0 (t0 t1 t2 t3 : Bool) (d0 d1 d2 d3 : Int) (w : World) : (Instr.index 28 (.agg #[.bool t0, .int .i64 d0, .bool t1, .int .i64 d1, .bool t2, .int .i64 d2, .bool t3, .int .i64 d3]) (.int .i64 0)).run Try.prog w = .ok (.agg #[.bool t0, .int .i64 d0]) w := by kernel_rfl
theorem index1 (t0 t1 t2 t3 : Bool) (d0 d1 d2 d3 : Int) (w : World) : (Instr.index 28 (.agg #[.bool t0, .int .i64 d0, .bool t1, .int .i64 d1, .bool t2, .int .i64 d2, .bool t3, .int .i64 d3]) (.int .i64 1)).run Try.prog w = .ok (.agg #[.bool t1, .int .i64 d1]) w := by kernel_rfl
theorem index2 (t0 t1 t2 t3 : Bool) (d0 d1 d2 d3 : Int) (w : World) : (Instr.index 28 (.agg #[.bool t0, .int .i64 d0, .bool t1, .int .i64 d1, .bool t2, .int .i64 d2, .bool t3, .int .i64 d3]) (.int .i64 2)).run Try.prog w = .ok (.agg #[.bool t2, .int .i64 d2]) w := by kernel_rfl
theorem index3 (t0 t1 t2 t3 : Bool) (d0 d1 d2 d3 : Int) (w : World) : (Instr.index 28 (.agg #[.bool t0, .int .i64 d0, .bool t1, .int .i64 d1, .bool t2, .int .i64 d2, .bool t3, .int .i64 d3]) (.int .i64 3)).run Try.prog w = .ok (.agg #[.bool t3, .int .i64 d3]) w := by kernel_rfl

set_option maxHeartbeats 4000000 in
theorem keysNew_any (K : Key4) (w : World) :
    Calls Try.prog 48 #[K.v] w fun e w' => e = .returned (.tuple #[(new4 K).v, .int .i64 (new4K K), .int .i64 (new4E K)]) ∧ Below w.heap.size w w' := by
  obtain ⟨t0, d0, t1, d1, t2, d2, t3, d3⟩ := K
  have i0 := fun w => index0 t0 t1 t2 t3 d0 d1 d2 d3 w
  have i1 := fun w => index1 t0 t1 t2 t3 d0 d1 d2 d3 w
  have i2 := fun w => index2 t0 t1 t2 t3 d0 d1 d2 d3 w
  have i3 := fun w => index3 t0 t1 t2 t3 d0 d1 d2 d3 w
  simp only [Key4.v]
  go_enter Try.func48, Try.ntmps48
  go_wp2
  go_rounds 5
  all_goals go_returns
  all_goals (try simp only [Bool.not_eq_true', Bool.not_eq_false'] at *)
  all_goals (subst_vars; refine ⟨?_, by go_grown⟩; simp [new4, new4K, new4E, Key4.free, Key4.set, zero4])

theorem chg4E_out {K : Key4} {k least d : Int} (h : k < 0 ∨ 4 ≤ k) : chg4E K k least d = 3 := by
  unfold chg4E Key4.tk
  rw [if_neg]
  rintro ⟨_, h2⟩
  rw [if_neg (by omega), if_neg (by omega), if_neg (by omega), if_neg (by omega)] at h2
  cases h2

set_option maxHeartbeats 4000000 in
theorem keysFree_any (K : Key4) (k : Int) (w : World) :
    Calls Try.prog 49 #[K.v, .int .i64 k] w fun e w' => e = .returned (.tuple #[(chg4 K k 1 false 0).v, .int .i64 (chg4E K k 1 0)]) ∧ Below w.heap.size w w' := by
  obtain ⟨t0, d0, t1, d1, t2, d2, t3, d3⟩ := K
  simp only [Key4.v]
  by_cases hk : k < 0 ∨ 4 ≤ k
  · have ho := hk
    rcases hk with hk | hk
    all_goals
      go_enter Try.func49, Try.ntmps49
      go_wp2
      all_goals go_returns
      all_goals (refine ⟨?_, by go_grown⟩; simp [chg4, chg4E_out ho, zero4])
  · have hk' : k = 0 ∨ k = 1 ∨ k = 2 ∨ k = 3 := by omega
    clear hk
    rcases hk' with rfl | rfl | rfl | rfl
    all_goals
      go_enter Try.func49, Try.ntmps49
      go_wp2
      all_goals go_returns
      all_goals (try simp only [Bool.not_eq_true', Bool.not_eq_false'] at *)
      all_goals (subst_vars; refine ⟨?_, by go_grown⟩; simp [chg4, chg4E, Key4.tk, Key4.set, zero4])

set_option maxHeartbeats 4000000 in
theorem keysSet_any (K : Key4) (k d : Int) (w : World) :
    Calls Try.prog 51 #[K.v, .int .i64 k, .int .i64 d] w fun e w' => e = .returned (.tuple #[(chg4 K k 0 true d).v, .int .i64 (chg4E K k 0 d)]) ∧ Below w.heap.size w w' := by
  obtain ⟨t0, d0, t1, d1, t2, d2, t3, d3⟩ := K
  simp only [Key4.v]
  by_cases hk : k < 0 ∨ 4 ≤ k
  · have ho := hk
    rcases hk with hk | hk
    all_goals
      go_enter Try.func51, Try.ntmps51
      go_wp2
      all_goals go_returns
      all_goals (refine ⟨?_, by go_grown⟩; simp [chg4, chg4E_out ho, zero4])
  · have hk' : k = 0 ∨ k = 1 ∨ k = 2 ∨ k = 3 := by omega
    clear hk
    rcases hk' with rfl | rfl | rfl | rfl
    all_goals
      go_enter Try.func51, Try.ntmps51
      go_wp2
      all_goals go_returns
      all_goals (try simp only [Bool.not_eq_true', Bool.not_eq_false'] at *)
      all_goals (subst_vars; refine ⟨?_, by go_grown⟩; first | (simp [chg4, chg4E, Key4.tk, Key4.set, zero4]; done) | (have hx : d < 0 ∨ 3 < d := (by omega); simp [chg4, chg4E, Key4.tk, zero4, hx]; done) | (have hx : ¬ (d < 0 ∨ 3 < d) := (by omega); simp [chg4, chg4E, Key4.tk, Key4.set, hx]; done))

theorem keysFirst_any (w : World) :
    Calls Try.prog 30 #[] w fun e w' => e = .returned (.agg #[.bool true, .int .i64 0, .bool false, .int .i64 0, .bool false, .int .i64 0, .bool false, .int .i64 0]) ∧ Below w.heap.size w w' := by
  go_enter Try.func30, Try.ntmps30
  go_wp2
  go_returns
  exact ⟨rfl, by go_grown⟩
end Go.Proofs.Ytglnnplijienbaa

/- check.Wrong, Page, Tags and the document's GWrong, GPage, GTags: what they answer. -/
namespace Go.Proofs.Ytglnnplijienbaa
open Go.RowKit
attribute [local go_sem] Key4.v

def wrongE (r : Int) : Int := if r < 0 ∨ 7 < r then 2 else if 6 ≤ r then 6 else 0
theorem and_1 (v : Int) : bits .and .i64 v 1 = v % 2 := by
  show IntKind.i64.wrap ((BitVec.ofInt 64 v &&& BitVec.ofInt 64 1).toNat : Int) = _
  have hm : ((1 : Int) % 18446744073709551616).toNat = 1 := by decide
  rw [BitVec.toNat_and, ofInt64, ofInt64, hm]
  have hb := nat_bit 0 (v % 18446744073709551616).toNat
  simp only [Nat.reducePow] at hb
  rw [hb, IntKind.wrap_i64]
  omega
theorem and_2 (v : Int) : bits .and .i64 v 2 = v / 2 % 2 * 2 := by
  show IntKind.i64.wrap ((BitVec.ofInt 64 v &&& BitVec.ofInt 64 2).toNat : Int) = _
  have hm : ((2 : Int) % 18446744073709551616).toNat = 2 := by decide
  rw [BitVec.toNat_and, ofInt64, ofInt64, hm]
  have hb := nat_bit 1 (v % 18446744073709551616).toNat
  simp only [Nat.reducePow] at hb
  rw [hb, IntKind.wrap_i64]
  omega
theorem and_4 (v : Int) : bits .and .i64 v 4 = v / 4 % 2 * 4 := by
  show IntKind.i64.wrap ((BitVec.ofInt 64 v &&& BitVec.ofInt 64 4).toNat : Int) = _
  have hm : ((4 : Int) % 18446744073709551616).toNat = 4 := by decide
  rw [BitVec.toNat_and, ofInt64, ofInt64, hm]
  have hb := nat_bit 2 (v % 18446744073709551616).toNat
  simp only [Nat.reducePow] at hb
  rw [hb, IntKind.wrap_i64]
  omega
attribute [local go_sem] and_1 and_2 and_4

theorem wrong_any (r : Int) (w : World) :
    Calls Try.prog 39 #[.int .i64 r] w fun e w' => e = .returned (.int .i64 (wrongE r)) ∧ w' = w := by
  go_enter Try.func39, Try.ntmps39
  go_wp2
  all_goals go_ret
  all_goals (refine ⟨ret_i ?_, rfl⟩; unfold wrongE; (try simp only [bne_iff_ne, bne_eq_false_iff_eq, ne_eq] at *); first | (rw [if_pos (by omega)]; done) | (rw [if_neg (by omega), if_pos (by omega)]; done) | (rw [if_neg (by omega), if_neg (by omega)]; done))
/-- Is the bit of weight b there? -/
def bitB (n b : Int) : Bool := decide (n / b % 2 = 1)
def Key4.dn (K : Key4) (k : Int) : Int := if k = 0 then K.d0 else if k = 1 then K.d1 else if k = 2 then K.d2 else K.d3
/-- Why a page may not be looked at in a way (0: it may). -/
def pageF (r key : Int) (K : Key4) (way : Int) : Int :=
  if ¬ (way = 1 ∨ way = 2 ∨ way = 4) ∨ r / way % 2 = 0 then 2
  else if way ≠ 4 ∧ (key < 0 ∨ 4 ≤ key ∨ K.dn key / way % 2 ≠ 0) then 3 else 0

theorem pf2 {r key : Int} {K : Key4} {way : Int} (h : ¬ (way = 1 ∨ way = 2 ∨ way = 4) ∨ r / way % 2 = 0) : 2 = pageF r key K way := by unfold pageF; rw [if_pos h]
theorem pf3 {r key : Int} {K : Key4} {way : Int} (h : way = 1 ∨ way = 2 ∨ way = 4) (hr : r / way % 2 ≠ 0) (h4 : way ≠ 4) (hk : key < 0 ∨ 4 ≤ key) : 3 = pageF r key K way := by
  unfold pageF; rw [if_neg (by omega), if_pos ⟨h4, by omega⟩]
theorem pf3d {r key : Int} {K : Key4} {way d : Int} (h : way = 1 ∨ way = 2 ∨ way = 4) (hr : r / way % 2 ≠ 0) (h4 : way ≠ 4) (hd : K.dn key = d) (hk : d / way % 2 ≠ 0) : 3 = pageF r key K way := by
  unfold pageF; rw [if_neg (by omega), if_pos ⟨h4, by rw [hd]; omega⟩]
theorem pf04 {r key : Int} {K : Key4} {way : Int} (h : way = 4) (hr : r / way % 2 ≠ 0) : 0 = pageF r key K way := by
  unfold pageF; rw [if_neg (by omega), if_neg (by rintro ⟨h', _⟩; exact h' h)]
theorem pf0d {r key : Int} {K : Key4} {way d : Int} (h : way = 1 ∨ way = 2 ∨ way = 4) (hr : r / way % 2 ≠ 0) (hd : K.dn key = d) (hk : 0 ≤ key ∧ key < 4) (hz : d / way % 2 = 0) : 0 = pageF r key K way := by
  unfold pageF; rw [if_neg (by omega), if_neg (by rw [hd]; omega)]

set_option maxHeartbeats 4000000 in
theorem page_any (r key : Int) (tg sd : Bool) (K : Key4) (way : Int) (w : World) :
    Calls Try.prog 77 #[.agg #[.int .i64 r, .int .i64 key, .bool tg, .bool sd], K.v, .int .i64 way] w fun e w' => e = .returned (.int .i64 (pageF r key K way)) ∧ w' = (w.alloc (.cells #[.int .i64 r, .int .i64 key, .bool tg, .bool sd] 38)).alloc (.cells #[.bool K.t0, .int .i64 K.d0, .bool K.t1, .int .i64 K.d1, .bool K.t2, .int .i64 K.d2, .bool K.t3, .int .i64 K.d3] 28) := by
  obtain ⟨t0, d0, t1, d1, t2, d2, t3, d3⟩ := K
  simp only [Key4.v]
  by_cases hw : way = 1 ∨ way = 2 ∨ way = 4
  · by_cases hk : key < 0 ∨ 4 ≤ key
    · rcases hw with rfl | rfl | rfl
      all_goals
        go_enter Try.func77, Try.ntmps77
        go_wp2
        all_goals go_ret
        all_goals (refine ⟨ret_i ?_, rfl⟩; (try simp only [beq_iff_eq, beq_eq_false_iff_ne, ne_eq] at *); first | exact pf2 (by omega) | exact pf3 (by omega) (by omega) (by omega) (by omega) | exact pf04 (by omega) (by omega))
    · have hk' : key = 0 ∨ key = 1 ∨ key = 2 ∨ key = 3 := by omega
      clear hk
      rcases hk' with rfl | rfl | rfl | rfl <;> rcases hw with rfl | rfl | rfl
      all_goals
        go_enter Try.func77, Try.ntmps77
        go_wp2
        all_goals go_ret
        all_goals (refine ⟨ret_i ?_, rfl⟩; (try simp only [bne_iff_ne, bne_eq_false_iff_eq, beq_iff_eq, beq_eq_false_iff_ne, ne_eq] at *); first | exact pf2 (by omega) | exact pf04 (by omega) (by omega) | exact pf3d (d := d0) (by omega) (by omega) (by omega) rfl (by omega) | exact pf0d (d := d0) (by omega) (by omega) rfl (by omega) (by omega) | exact pf3d (d := d1) (by omega) (by omega) (by omega) rfl (by omega) | exact pf0d (d := d1) (by omega) (by omega) rfl (by omega) (by omega) | exact pf3d (d := d2) (by omega) (by omega) (by omega) rfl (by omega) | exact pf0d (d := d2) (by omega) (by omega) rfl (by omega) (by omega) | exact pf3d (d := d3) (by omega) (by omega) (by omega) rfl (by omega) | exact pf0d (d := d3) (by omega) (by omega) rfl (by omega) (by omega))
  · have w1 : (way != 1) = true := by simp; omega
    have w2 : (way != 2) = true := by simp; omega
    have w4 : (way != 4) = true := by simp; omega
    go_enter Try.func77, Try.ntmps77
    go_wp2
    all_goals go_ret
    all_goals (refine ⟨ret_i ?_, rfl⟩; exact pf2 (Or.inl hw))
end Go.Proofs.Ytglnnplijienbaa

/- '==' between two arrays of four keys. -/
namespace Go.Proofs.Ytglnnplijienbaa
open Go.RowKit
theorem keyinfo : (Try.prog.info? 27).map (fun i => i.size) = some 2 := by kernel_rfl
theorem keystood : Try.prog.stoodInHeld 27 = false := by kernel_rfl
theorem run_eq_key (d : Nat) (a0 b0 : Bool) (a1 b1 : Int) (w : World) :
    (Op.equalIn (d + 2) 27 (.agg #[.bool a0, .int .i64 a1]) (.agg #[.bool b0, .int .i64 b1])).run Try.prog w = .ok (a0 == b0 && a1 == b1) w := by
  by_cases h0 : a0 = b0 <;> by_cases h1 : a1 = b1 <;> simp [go_sem, Try.underlying27, Try.underlying4, Try.underlying3, h0, h1]
theorem run_eq_keysd (d : Nat) (a0 a2 a4 a6 b0 b2 b4 b6 : Bool) (a1 a3 a5 a7 b1 b3 b5 b7 : Int) (w : World) :
    (Op.equalIn (d + 3) 28 (.agg #[.bool a0, .int .i64 a1, .bool a2, .int .i64 a3, .bool a4, .int .i64 a5, .bool a6, .int .i64 a7])
      (.agg #[.bool b0, .int .i64 b1, .bool b2, .int .i64 b3, .bool b4, .int .i64 b5, .bool b6, .int .i64 b7])).run Try.prog w =
      .ok ((a0 == b0 && a1 == b1) && ((a2 == b2 && a3 == b3) && ((a4 == b4 && a5 == b5) && (a6 == b6 && a7 == b7)))) w := by
  obtain ⟨i, hi, hs⟩ : ∃ i, Try.prog.info? 27 = some i ∧ i.size = 2 := by
    have := keyinfo
    cases h : Try.prog.info? 27 with
    | none => rw [h] at this; cases this
    | some i => rw [h] at this; exact ⟨i, rfl, by simpa using this⟩
  have hm : ∀ w, Sem.run Try.prog (typeInfo 27) w = Result.ok i w := fun w => by simp [typeInfo, hi]
  rw [Op.equalIn]
  simp only [Sem.run_bind, run_underlying Try.underlying28, Result.andThen_ok]
  simp only [sizeOf, Std.Legacy.Range.forIn_eq_forIn_range', Std.Legacy.Range.size, List.range'_succ, List.forIn_cons, go_sem]
  simp [go_sem, run_eq_key, hm, hs]
  (repeat' split) <;> simp_all
theorem run_eq_keys (a0 a2 a4 a6 b0 b2 b4 b6 : Bool) (a1 a3 a5 a7 b1 b3 b5 b7 : Int) (w : World) :
    (Op.equalIn 10000 28 (.agg #[.bool a0, .int .i64 a1, .bool a2, .int .i64 a3, .bool a4, .int .i64 a5, .bool a6, .int .i64 a7])
      (.agg #[.bool b0, .int .i64 b1, .bool b2, .int .i64 b3, .bool b4, .int .i64 b5, .bool b6, .int .i64 b7])).run Try.prog w =
      .ok ((a0 == b0 && a1 == b1) && ((a2 == b2 && a3 == b3) && ((a4 == b4 && a5 == b5) && (a6 == b6 && a7 == b7)))) w := run_eq_keysd 9997 a0 a2 a4 a6 b0 b2 b4 b6 a1 a3 a5 a7 b1 b3 b5 b7 w
end Go.Proofs.Ytglnnplijienbaa
