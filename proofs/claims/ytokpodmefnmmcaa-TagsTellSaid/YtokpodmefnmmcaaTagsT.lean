/- tags.Set: what it answers. -/
import Derived.Test.YtokpodmefnmmcaaTagsS
namespace Go.Proofs.Ytokpodmefnmmcaa
open Go.RowKit

def hvLo (b f m tag : Int) (k : Nat) : Int := if f ≤ 2 * (k : Int) ∧ 2 * (k : Int) < f + m then tag else b % 16
def hvHi (b f m tag : Int) (k : Nat) : Int := if f ≤ 2 * (k : Int) + 1 ∧ 2 * (k : Int) + 1 < f + m then tag else b / 16
/-- zs, where granules f to f + m - 1 have the tag. -/
def tsetP (zs : List Int) (f m tag : Int) : List Int := (List.range zs.length).map fun k => 16 * hvHi (zs.getD k 0) f m tag k + hvLo (zs.getD k 0) f m tag k
def tsetE (zs : List Int) (f m tag : Int) : Int := if tag < 0 ∨ 15 < tag ∨ f < 0 ∨ m < 0 ∨ 2 * (zs.length : Int) < f + m then 2 else 0
def tsetL (zs : List Int) (f m tag : Int) : List Int := if tsetE zs f m tag = 0 then tsetP zs f m tag else []

theorem tsetP_len (zs : List Int) (f m tag : Int) : (tsetP zs f m tag).length = zs.length := by simp [tsetP]
theorem tsetP_at {zs : List Int} {f m tag : Int} {k : Nat} (h : k < zs.length) : (tsetP zs f m tag).getD k 0 = 16 * hvHi (zs.getD k 0) f m tag k + hvLo (zs.getD k 0) f m tag k := by
  simp [tsetP, List.getD, h]
theorem list_ext {a b : List Int} (h : a.length = b.length) (hg : ∀ k, k < a.length → a.getD k 0 = b.getD k 0) : a = b := by
  apply List.ext_getElem h
  intro i h1 h2
  have := hg i h1
  rwa [getD_get0 h1, getD_get0 h2] at this
theorem tsetP_zero {zs : List Int} {f tag : Int} : tsetP zs f 0 tag = zs := by
  apply list_ext (tsetP_len _ _ _ _)
  intro k hk
  rw [tsetP_len] at hk
  rw [tsetP_at hk]
  unfold hvLo hvHi
  rw [if_neg (by omega), if_neg (by omega)]
  omega
theorem tsetP_bytes {zs : List Int} {f m tag : Int} (hb : Bytes zs) (t0 : 0 ≤ tag) (t1 : tag < 16) : Bytes (tsetP zs f m tag) := by
  intro k
  by_cases hk : k < zs.length
  · rw [tsetP_at hk]
    have := hb k
    unfold hvLo hvHi
    by_cases h1 : f ≤ 2 * (k : Int) ∧ 2 * (k : Int) < f + m <;> by_cases h2 : f ≤ 2 * (k : Int) + 1 ∧ 2 * (k : Int) + 1 < f + m
    · rw [if_pos h1, if_pos h2]; omega
    · rw [if_pos h1, if_neg h2]; omega
    · rw [if_neg h1, if_pos h2]; omega
    · rw [if_neg h1, if_neg h2]; omega
  · have : (tsetP zs f m tag).getD k 0 = 0 := by
      have hl := tsetP_len zs f m tag
      simp [List.getD, List.getElem?_eq_none (show (tsetP zs f m tag).length ≤ k by omega)]
    rw [this]; omega
theorem getD_set {a : List Int} {q k : Nat} {x : Int} (hq : q < a.length) : (a.set q x).getD k 0 = if k = q then x else a.getD k 0 := by
  by_cases e : k = q
  · subst e; simp [List.getD, hq]
  · rw [if_neg e]; simp [List.getD, Ne.symm e]
theorem tsetP_step {zs : List Int} {f tag : Int} {j : Nat} (hb : Bytes zs) (f0 : 0 ≤ f) (h : f + (j : Int) < 2 * (zs.length : Int)) (t0 : 0 ≤ tag) (t1 : tag < 16) :
    (tsetP zs f j tag).set ((f + (j : Int)) / 2).toNat (halfV ((tsetP zs f j tag).getD ((f + (j : Int)) / 2).toNat 0) (f + (j : Int)) tag) = tsetP zs f ((j + 1 : Nat) : Int) tag := by
  have hq : ((f + (j : Int)) / 2).toNat < zs.length := by omega
  generalize hqe : ((f + (j : Int)) / 2).toNat = q at *
  apply list_ext (by rw [List.length_set, tsetP_len, tsetP_len])
  intro k hk
  rw [List.length_set, tsetP_len] at hk
  rw [getD_set (by rw [tsetP_len]; exact hq), tsetP_at hk, tsetP_at hk]
  have hbk := hb k
  by_cases e : k = q
  · subst e
    rw [if_pos rfl, tsetP_at hk]
    generalize zs.getD k 0 = b at *
    unfold halfV hvLo hvHi
    by_cases hp : (f + (j : Int)) % 2 = 0
    · rw [if_pos hp]
      have hk2 : 2 * (k : Int) = f + j := by omega
      rw [if_neg (show ¬ (f ≤ 2 * (k : Int) ∧ 2 * (k : Int) < f + (j : Int)) by omega), if_pos (show f ≤ 2 * (k : Int) ∧ 2 * (k : Int) < f + ((j + 1 : Nat) : Int) by omega),
        if_neg (show ¬ (f ≤ 2 * (k : Int) + 1 ∧ 2 * (k : Int) + 1 < f + (j : Int)) by omega), if_neg (show ¬ (f ≤ 2 * (k : Int) + 1 ∧ 2 * (k : Int) + 1 < f + ((j + 1 : Nat) : Int)) by omega)]
      omega
    · rw [if_neg hp]
      have hk2 : 2 * (k : Int) + 1 = f + j := by omega
      rw [if_neg (show ¬ (f ≤ 2 * (k : Int) + 1 ∧ 2 * (k : Int) + 1 < f + (j : Int)) by omega), if_pos (show f ≤ 2 * (k : Int) + 1 ∧ 2 * (k : Int) + 1 < f + ((j + 1 : Nat) : Int) by omega)]
      by_cases h2 : f ≤ 2 * (k : Int)
      · rw [if_pos (show f ≤ 2 * (k : Int) ∧ 2 * (k : Int) < f + (j : Int) by omega), if_pos (show f ≤ 2 * (k : Int) ∧ 2 * (k : Int) < f + ((j + 1 : Nat) : Int) by omega)]; omega
      · rw [if_neg (show ¬ (f ≤ 2 * (k : Int) ∧ 2 * (k : Int) < f + (j : Int)) by omega), if_neg (show ¬ (f ≤ 2 * (k : Int) ∧ 2 * (k : Int) < f + ((j + 1 : Nat) : Int)) by omega)]; omega
  · rw [if_neg e]
    unfold hvLo hvHi
    have i1 : (f ≤ 2 * (k : Int) ∧ 2 * (k : Int) < f + (j : Int)) ↔ (f ≤ 2 * (k : Int) ∧ 2 * (k : Int) < f + ((j + 1 : Nat) : Int)) := by omega
    have i2 : (f ≤ 2 * (k : Int) + 1 ∧ 2 * (k : Int) + 1 < f + (j : Int)) ↔ (f ≤ 2 * (k : Int) + 1 ∧ 2 * (k : Int) + 1 < f + ((j + 1 : Nat) : Int)) := by omega
    simp only [i1, i2]

theorem tsetE_no {zs : List Int} {f m tag : Int} (h : tag < 0 ∨ 15 < tag ∨ f < 0 ∨ m < 0 ∨ 2 * (zs.length : Int) < f + m) : tsetE zs f m tag = 2 ∧ tsetL zs f m tag = [] := by
  have e : tsetE zs f m tag = 2 := by unfold tsetE; rw [if_pos h]
  exact ⟨e, by unfold tsetL; rw [if_neg (by rw [e]; decide)]⟩
theorem tsetE_yes {zs : List Int} {f m tag : Int} (h : ¬ (tag < 0 ∨ 15 < tag ∨ f < 0 ∨ m < 0 ∨ 2 * (zs.length : Int) < f + m)) : tsetE zs f m tag = 0 ∧ tsetL zs f m tag = tsetP zs f m tag := by
  have e : tsetE zs f m tag = 0 := by unfold tsetE; rw [if_neg h]
  exact ⟨e, by unfold tsetL; rw [if_pos e]⟩

/-- What Set and CSet leave. -/
def TSet (T : TypeId) (zs : List Int) (f m tag : Int) (w : World) (e : Ending) (w' : World) : Prop :=
  ∃ A' n' c', e = .returned (.tuple #[.slice A' n' c', .int .i64 (tsetE zs f m tag)]) ∧ Own .u8 T w' w.heap.size A' n' c' (tsetL zs f m tag) ∧ Below w.heap.size w w'

set_option maxHeartbeats 2000000 in
theorem tset_any (A : Option Addr) (n c : Nat) (zs : List Int) (f m tag : Int) (w : World) (B : Nat) (hz : Row .u8 w B A n zs) (hb : Bytes zs) (hB : B ≤ w.heap.size) (hn : n ≤ 140737488355328) (fi : f ≤ 9223372036854775807) (mi : m ≤ 9223372036854775807) :
    Calls Try.prog 36 #[.slice A n c, .int .i64 f, .int .i64 m, .int .i64 tag] w (TSet 5 zs f m tag w) := by
  have hl := hz.1
  have HL := Lib.hid hl; have HZ := Lib.hid hz; have HB := Lib.hid hb
  clear hl hz hb
  by_cases h : tag < 0 ∨ 15 < tag ∨ f < 0 ∨ m < 0 ∨ 2 * (n : Int) < m ∨ 2 * (n : Int) - m < f
  · have hno := tsetE_no (zs := zs) (f := f) (m := m) (tag := tag) (by rw [HL.out]; omega)
    have H := Lib.hid hno
    clear hno
    rcases h with h | h | h | h | h | h
    all_goals
      go_enter Try.func36, Try.ntmps36
      go_wp2
      all_goals go_ret2
      all_goals exact ⟨none, 0, 0, by rw [H.out.1]; rfl, by rw [H.out.2]; exact ⟨rfl, by omega, by simp, fun h => absurd h (by omega)⟩, Below.refl _ _⟩
  · have hyes := tsetE_yes (zs := zs) (f := f) (m := m) (tag := tag) (by rw [HL.out]; omega)
    have H := Lib.hid hyes
    clear hyes
    have a1 : 0 ≤ tag := by omega
    have a2 : tag ≤ 15 := by omega
    have a3 : 0 ≤ f := by omega
    have a4 : 0 ≤ m := by omega
    have a5 : m ≤ 2 * (n : Int) := by omega
    have a6 : f ≤ 2 * (n : Int) - m := by omega
    clear h
    obtain ⟨m, rfl⟩ := Int.eq_ofNat_of_zero_le a4
    go_enter Try.func36, Try.ntmps36
    go_wp2_with (go_at_call 42; refine (clone_any A n c zs _ B HZ.out hB hn).mono ?_; rintro e w1 ⟨A', c', rfl, ho, hb1⟩; have HO := Lib.hid ho; clear ho)
    go_loopw [45] (fun i wr => ∃ j : Nat, j ≤ m ∧ i = .int .i64 j ∧ Own .u8 5 wr w.heap.size A' n c' (tsetP zs f j tag) ∧ Below w.heap.size w wr) (fun i _ => m - (intOf i).toNat)
    case atStart => exact ⟨0, by omega, rfl, by rw [show ((0 : Nat) : Int) = 0 from rfl, tsetP_zero]; exact HO.out, hb1⟩
    case round =>
      obtain ⟨j, hj, rfl, ho, hbw⟩ := hrel
      have HW := Lib.hid ho
      clear ho HO
      by_cases hlt : j < m
      · have HT := Lib.hid (tsetP_step (zs := zs) (f := f) (tag := tag) (j := j) HB.out a3 (by rw [HL.out]; omega) a1 (by omega))
        go_wp2_with (go_at_call 43; refine (twrite_any A' n c' (tsetP zs f j tag) _ tag _ w.heap.size HW.out (tsetP_bytes HB.out a1 (by omega)) (by omega) (by omega) a1 (by omega) hn).mono ?_; rintro e w2 ⟨rfl, ho2, hb2⟩)
        have HO2 := Lib.hid ho2
        clear ho2
        go_roundw
        case rel => exact ⟨j + 1, by omega, by go_num, by rw [← HT.out]; exact HO2.out, hbw.trans hb2⟩
        case measure => simp [intOf]; omega
      · obtain rfl : j = m := by omega
        go_wp2
        go_ret2
        exact ⟨A', n, c', by rw [H.out.1]; rfl, by rw [H.out.2]; exact HW.out, hbw⟩
end Go.Proofs.Ytokpodmefnmmcaa
