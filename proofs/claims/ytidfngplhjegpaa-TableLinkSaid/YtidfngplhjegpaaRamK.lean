/- ram.Put and Get together: plain laws; alive1. -/
import Derived.Test.YtidfngplhjegpaaRamN
namespace Go.Proofs.Ytidfngplhjegpaa
open Go.RowKit Go.Sort
set_option linter.unusedVariables false

theorem list_ext {l l' : List Int} (h : l.length = l'.length) (hx : ∀ k, k < l.length → l.getD k 0 = l'.getD k 0) : l = l' := by
  apply List.ext_getElem h
  intro i h1 h2
  have := hx i h1
  rwa [getD_get0 h1, getD_get0 h2] at this
theorem num_congr {zs zs' : List Int} : ∀ n a, (∀ i, i < n → zs.getD (a + i) 0 = zs'.getD (a + i) 0) → num zs a n = num zs' a n
  | 0, _, _ => rfl
  | n + 1, a, h => by
    unfold num
    have h1 := num_congr (zs := zs) (zs' := zs') n (a + 1) (fun i hi => by have h2 := h (i + 1) (Nat.succ_lt_succ hi); rwa [show a + (i + 1) = a + 1 + i by omega] at h2)
    rw [h1]
    have := h 0 (by omega)
    rw [Nat.add_zero] at this
    rw [this]
theorem num_put {zs : List Int} {a m : Nat} {v : Int} (hm : m = 1 ∨ m = 2 ∨ m = 3 ∨ m = 4) (h : a + m ≤ zs.length) : num (putN zs a v m) a m = v % ((256 ^ m : Nat) : Int) := by
  have hp : ∀ i, i < m → (putN zs a v m).getD (a + i) 0 = v / ((256 ^ i : Nat) : Int) % 256 := fun i hi => by
    rw [putN_at zs a v (a + i) (by omega) m, if_pos (by omega), show a + i - a = i by omega]
  have h0 := hp 0 (by omega)
  rcases hm with rfl | rfl | rfl | rfl
  · simp only [num]; rw [Nat.add_zero] at h0; rw [h0]; simp
  · have h1 := hp 1 (by omega)
    simp only [num]; rw [Nat.add_zero] at h0; rw [h0, h1]; simp; omega
  · have h1 := hp 1 (by omega)
    have h2 := hp 2 (by omega)
    simp only [num]; rw [Nat.add_zero] at h0; rw [h0, h1, show a + 1 + 1 = a + 2 by omega, h2]; simp; omega
  · have h1 := hp 1 (by omega)
    have h2 := hp 2 (by omega)
    have h3 := hp 3 (by omega)
    simp only [num]; rw [Nat.add_zero] at h0; rw [h0, h1, show a + 1 + 1 = a + 2 by omega, h2, show a + 2 + 1 = a + 3 by omega, h3]; simp; omega
theorem num_apart {zs : List Int} {a m p k : Nat} {v : Int} (h : p + k ≤ a ∨ a + m ≤ p) (hl : p + k ≤ zs.length) : num (putN zs a v m) p k = num zs p k :=
  num_congr k p fun i hi => by rw [putN_at zs a v (p + i) (by omega) m, if_neg (by omega)]
theorem putN_twice (zs : List Int) (a : Nat) (v u : Int) (m : Nat) : putN (putN zs a v m) a u m = putN zs a u m :=
  list_ext (by simp only [putN_len]) fun k hk => by
    simp only [putN_len] at hk
    rw [putN_at _ a u k (by rw [putN_len]; exact hk), putN_at zs a u k hk]
    split
    · rfl
    · rename_i h; rw [putN_at zs a v k hk, if_neg h]
theorem putN_swap (zs : List Int) (a p : Nat) (v u : Int) (m k : Nat) (h : p + k ≤ a ∨ a + m ≤ p) : putN (putN zs a v m) p u k = putN (putN zs p u k) a v m :=
  list_ext (by simp only [putN_len]) fun i hi => by
    simp only [putN_len] at hi
    rw [putN_at (putN zs a v m) p u i (by rw [putN_len]; exact hi), putN_at (putN zs p u k) a v i (by rw [putN_len]; exact hi), putN_at zs a v i hi, putN_at zs p u i hi]
    by_cases h1 : p ≤ i ∧ i < p + k <;> by_cases h2 : a ≤ i ∧ i < a + m
    · omega
    · rw [if_pos h1, if_neg h2, if_pos h1]
    · rw [if_neg h1, if_pos h2, if_pos h2]
    · rw [if_neg h1, if_neg h2, if_neg h2, if_neg h1]
theorem putN_bytes {zs : List Int} (hb : Bytes zs) (a : Nat) (v : Int) (m : Nat) : Bytes (putN zs a v m) := fun i => by
  rcases Nat.lt_or_ge i zs.length with h | h
  · rw [putN_at zs a v i h]
    split
    · omega
    · exact hb i
  · have : (putN zs a v m).getD i 0 = 0 := by simp [List.getD, List.getElem?_eq_none (show (putN zs a v m).length ≤ i by rw [putN_len]; exact h)]
    rw [this]; omega
theorem rputL_bytes {zs : List Int} (hb : Bytes zs) (p n v : Int) : Bytes (rputL zs p n v) := by
  unfold rputL
  split
  · exact putN_bytes hb _ _ _
  · intro i; simp

theorem alive1_any (w : World) : Calls Try.prog 14 #[] w fun e w' => e = .returned (.bool true) ∧ Below w.heap.size w w' := by
  have hm : ∀ w, (Instr.makeSlice 22 (.int .i64 6) (.int .i64 6)).run Try.prog w = .ok (.slice (some ⟨w.heap.size, 0, none⟩) 6 6) (w.alloc (.cells (zcells 6) 5)) := fun w => make_u8 6 (by omega) w
  have l1 : rgetE (List.replicate 6 0) 1 3 = 0 := by decide
  have l2 : rputL (List.replicate 6 0) 1 3 16909060 = [0, 4, 3, 2, 0, 0] := by decide
  have l3 : rgetV [0, 4, 3, 2, 0, 0] 2 2 = 515 := by decide
  have l4 : rgetE [0, 4, 3, 2, 0, 0] 2 2 = 0 := by decide
  have l5 : strOfNums [0, 4, 3, 2, 0, 0] = ⟨#[0, 4, 3, 2, 0, 0]⟩ := by decide
  have l6 : frameF 2 = 128 := by decide
  have HM := Lib.hid l6
  clear l6
  go_enter Try.func14, Try.ntmps14
  go_wp2_with fail
  have ho := made_own 6 (by omega) w
  refine (rPut_any _ 6 6 (List.replicate 6 0) 1 3 16909060 _ _ ho.row (Nat.le_refl _) (by omega)).mono ?_
  rintro e w1 ⟨A1, n1, c1, rfl, ho1, hb1⟩
  rw [l1]
  rw [l2] at ho1
  clear ho
  have HX := Lib.hid ho1.row
  have hn1 : n1 = 6 := by have := ho1.1; simp at this; omega
  subst hn1
  clear ho1
  have s1 := conv_row (c := c1) HX.out
  rw [l5] at s1
  have B2 : Bytes [0, 4, 3, 2, 0, 0] := fun i => by
    rcases Nat.lt_or_ge i 6 with h | h
    · have : i = 0 ∨ i = 1 ∨ i = 2 ∨ i = 3 ∨ i = 4 ∨ i = 5 := by omega
      rcases this with rfl | rfl | rfl | rfl | rfl | rfl <;> decide
    · have : ([0, 4, 3, 2, 0, 0] : List Int).getD i 0 = 0 := by simp [List.getD, h]
      rw [this]; omega
  have HB2 := Lib.hid B2
  clear B2
  go_wp2_with fail
  refine (rget_any A1 6 c1 [0, 4, 3, 2, 0, 0] 2 2 _ _ HX.out HB2.out (by omega)).mono ?_
  rintro e w3 ⟨rfl, hw3⟩
  rw [hw3, l3, l4]
  clear hw3
  go_wp2_with fail
  refine (frame_any 2 _).mono ?_
  rintro e w3 ⟨rfl, hw3⟩
  rw [hw3, HM.out]
  clear hw3
  go_wp2
  go_ret
  exact ⟨rfl, (by repeat' first | exact Below.refl _ _ | refine Below.alloc ?_ ?_ _ | refine below_thru ?_ (by assumption) ?_ | omega | (simp; done) | (simp; omega))⟩
end Go.Proofs.Ytidfngplhjegpaa
