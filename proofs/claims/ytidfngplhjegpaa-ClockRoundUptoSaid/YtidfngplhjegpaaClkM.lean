/- Plain laws of going round: which place is taken, and what is left of the uses. -/
import Derived.Test.YtidfngplhjegpaaBoo
namespace Go.Proofs.Ytidfngplhjegpaa

def rk (h n k : Nat) : Nat := (h + k) % n
def mb (l : List Bool) (i : Nat) : Bool := l.getD i false
def outK (may used : List Bool) (h n : Nat) : Nat → List Bool
  | 0 => used
  | k + 1 => if mb may (rk h n k) then (outK may used h n k).set (rk h n k) false else outK may used h n k
def inK (may : List Bool) (h n : Nat) : Nat → List Nat
  | 0 => []
  | k + 1 => if mb may (rk h n k) then inK may h n k ++ [rk h n k] else inK may h n k
def hitL (may used : List Bool) (h n : Nat) : List Bool := (List.range n).map fun k => mb may (rk h n k) && !mb used (rk h n k)
def mayL (may : List Bool) (h n : Nat) : List Bool := (List.range n).map fun k => mb may (rk h n k)
def kHit (may used : List Bool) (h n : Nat) : Nat := firstT (hitL may used h n)
def kMay (may : List Bool) (h n : Nat) : Nat := firstT (mayL may h n)
/-- After so many steps the one is found. -/
def kTot (may used : List Bool) (h n : Nat) : Nat := if kHit may used h n < n then kHit may used h n else n + kMay may h n
def victim (may used : List Bool) (h n : Nat) : Nat := rk h n (kTot may used h n)
def outF (may used : List Bool) (h n : Nat) : List Bool := outK may used h n (kTot may used h n)

theorem rk_lt {h n : Nat} (k : Nat) (hn : 0 < n) : rk h n k < n := Nat.mod_lt _ hn
theorem rk_add (h n k : Nat) : rk h n (n + k) = rk h n k := by unfold rk; rw [show h + (n + k) = h + k + n by omega, Nat.add_mod_right]
theorem rk_succ {h n k : Nat} : rk h n (k + 1) = (rk h n k + 1) % n := by unfold rk; rw [Nat.mod_add_mod, Nat.add_assoc]
theorem rk_0 {h n : Nat} (hh : h < n) : rk h n 0 = h := by unfold rk; rw [Nat.add_zero, Nat.mod_eq_of_lt hh]
theorem rk_eq {h n k : Nat} (hh : h < n) (hk : k < n) : rk h n k = if h + k < n then h + k else h + k - n := by
  unfold rk
  split
  · exact Nat.mod_eq_of_lt ‹_›
  · rw [Nat.mod_eq_sub_mod (by omega), Nat.mod_eq_of_lt (by omega)]
theorem rk_inj {h n i k : Nat} (hh : h < n) (hi : i < n) (hk : k < n) (e : rk h n i = rk h n k) : i = k := by
  rw [rk_eq hh hi, rk_eq hh hk] at e
  split at e <;> split at e <;> omega
theorem rk_surj {h n j : Nat} (hh : h < n) (hj : j < n) : ∃ k, k < n ∧ rk h n k = j := by
  by_cases e : h ≤ j
  · exact ⟨j - h, by omega, by rw [rk_eq hh (by omega), if_pos (by omega)]; omega⟩
  · exact ⟨j + n - h, by omega, by rw [rk_eq hh (by omega), if_neg (by omega)]; omega⟩
theorem mb_set (l : List Bool) (i j : Nat) (b : Bool) : mb (l.set i b) j = if i = j ∧ j < l.length then b else mb l j := by
  unfold mb
  by_cases e : i = j
  · subst e
    by_cases h : i < l.length
    · simp [List.getD, h]
    · simp [List.getD, h]
  · simp [List.getD, e]
theorem mb_out {l : List Bool} {i : Nat} (h : l.length ≤ i) : mb l i = false := by simp [mb, List.getD, List.getElem?_eq_none h]
theorem mb_lt {l : List Bool} {i : Nat} (h : mb l i = true) : i < l.length := by
  rcases Nat.lt_or_ge i l.length with g | g
  · exact g
  · rw [mb_out g] at h; cases h

section
variable {may used : List Bool} {h n : Nat}
theorem outK_succ (k : Nat) : outK may used h n (k + 1) = if mb may (rk h n k) then (outK may used h n k).set (rk h n k) false else outK may used h n k := rfl
theorem outK_len : ∀ k, (outK may used h n k).length = used.length
  | 0 => rfl
  | k + 1 => by unfold outK; split <;> simp [outK_len k]
theorem outK_off {j : Nat} : ∀ k, (∀ i, i < k → mb may (rk h n i) = true → rk h n i ≠ j) → mb (outK may used h n k) j = mb used j
  | 0, _ => rfl
  | k + 1, hk => by
    unfold outK
    have ih := outK_off k (fun i hi => hk i (by omega))
    split
    · rename_i hm
      rw [mb_set, if_neg (fun e => hk k (by omega) hm e.1), ih]
    · exact ih
theorem outK_on {i : Nat} (hm : mb may (rk h n i) = true) : ∀ k, i < k → mb (outK may used h n k) (rk h n i) = false
  | 0, hk => by omega
  | k + 1, hk => by
    unfold outK
    by_cases e : i = k
    · subst e
      rw [if_pos hm, mb_set]
      split
      · rfl
      · rename_i hx
        exact mb_out (by have : ¬ (rk h n i < (outK may used h n i).length) := fun hh => hx ⟨rfl, hh⟩; omega)
    · have ih := outK_on hm k (by omega)
      split
      · rw [mb_set]; split
        · rfl
        · exact ih
      · exact ih
theorem outK_le {j : Nat} : ∀ k, mb (outK may used h n k) j = true → mb used j = true
  | 0, hk => hk
  | k + 1, hk => by
    unfold outK at hk
    split at hk
    · rw [mb_set] at hk
      split at hk
      · cases hk
      · exact outK_le k hk
    · exact outK_le k hk
theorem outK_not {j : Nat} (hm : mb may j = false) (k : Nat) : mb (outK may used h n k) j = mb used j :=
  outK_off k fun i _ h1 e => by rw [e, hm] at h1; cases h1
theorem hitL_at {k : Nat} (hk : k < n) : (hitL may used h n).getD k false = (mb may (rk h n k) && !mb used (rk h n k)) := by simp [hitL, List.getD, hk]
theorem mayL_at {k : Nat} (hk : k < n) : (mayL may h n).getD k false = mb may (rk h n k) := by simp [mayL, List.getD, hk]
theorem hitL_len : (hitL may used h n).length = n := by simp [hitL]
theorem mayL_len : (mayL may h n).length = n := by simp [mayL]
theorem kHit_no {k : Nat} (hk : k < kHit may used h n) (hn : k < n) (hm : mb may (rk h n k) = true) : mb used (rk h n k) = true := by
  have := firstT_spec (hitL may used h n) k hk
  rw [hitL_at hn, hm] at this
  simpa using this
theorem kHit_yes (hn : kHit may used h n < n) : mb may (rk h n (kHit may used h n)) = true ∧ mb used (rk h n (kHit may used h n)) = false := by
  have := firstT_yes (hitL may used h n) (by rw [hitL_len]; exact hn)
  unfold kHit at hn ⊢
  rw [hitL_at hn] at this
  simpa using this
theorem kMay_no {k : Nat} (hk : k < kMay may h n) (hn : k < n) : mb may (rk h n k) = false := by
  have := firstT_spec (mayL may h n) k hk
  rwa [mayL_at hn] at this
theorem kMay_yes (hn : kMay may h n < n) : mb may (rk h n (kMay may h n)) = true := by
  have := firstT_yes (mayL may h n) (by rw [mayL_len]; exact hn)
  unfold kMay at hn ⊢
  rwa [mayL_at hn] at this
theorem kMay_lt (hh : h < n) (hl : may.length = n) (hm : firstT may < may.length) : kMay may h n < n := by
  have h1 := firstT_yes may hm
  obtain ⟨k, hk, e⟩ := rk_surj (h := h) hh (show firstT may < n by omega)
  rcases Nat.lt_or_ge (kMay may h n) n with g | g
  · exact g
  · have := kMay_no (may := may) (h := h) (n := n) (k := k) (by omega) hk
    rw [e] at this
    unfold mb at this
    rw [h1] at this; cases this
theorem outK_past (hn : kMay may h n < n) : ∀ i, i ≤ kMay may h n → outK may used h n (n + i) = outK may used h n n
  | 0, _ => rfl
  | i + 1, hi => by
    rw [show n + (i + 1) = (n + i) + 1 by omega, outK_succ, rk_add, kMay_no (by omega) (by omega)]
    simpa using outK_past hn i (by omega)
/-- Before the one is found: who may was used. -/
theorem step_no (hh : h < n) (hn : kMay may h n < n) {k : Nat} (hk : k < kTot may used h n) (hm : mb may (rk h n k) = true) : mb (outK may used h n k) (rk h n k) = true := by
  unfold kTot at hk
  split at hk
  · rw [outK_off k (fun i hi _ e => by have := rk_inj hh (by omega) (by omega) e; omega)]
    exact kHit_no hk (by omega) hm
  · rcases Nat.lt_or_ge k n with g | g
    · rw [outK_off k (fun i hi _ e => by have := rk_inj hh (by omega) (by omega) e; omega)]
      exact kHit_no (by omega) g hm
    · obtain ⟨i, rfl⟩ : ∃ i, k = n + i := ⟨k - n, by omega⟩
      rw [rk_add, kMay_no (by omega) (by omega)] at hm; cases hm
theorem step_yes (hh : h < n) (hn : kMay may h n < n) : mb may (victim may used h n) = true ∧ mb (outF may used h n) (victim may used h n) = false := by
  unfold victim outF kTot
  split
  · rename_i g
    obtain ⟨h1, h2⟩ := kHit_yes g
    refine ⟨h1, ?_⟩
    rw [outK_off _ (fun i hi _ e => by have := rk_inj hh (by omega) (by omega) e; omega)]
    exact h2
  · rw [rk_add]
    refine ⟨kMay_yes hn, ?_⟩
    rw [outK_past hn _ (Nat.le_refl _)]
    exact outK_on (kMay_yes hn) n hn
theorem victim_lt (hh : h < n) : victim may used h n < n := rk_lt _ (by omega)
theorem kTot_le (hn : kMay may h n < n) : kTot may used h n < 2 * n := by unfold kTot; split <;> omega
/-- Where the one that is taken was used, everybody that may was. -/
theorem all_used (hh : h < n) (hv : mb used (victim may used h n) = true) {j : Nat} (hj : j < n) (hm : mb may j = true) : mb used j = true := by
  unfold victim kTot at hv
  split at hv
  · rename_i g; rw [(kHit_yes g).2] at hv; cases hv
  · obtain ⟨k, hk, rfl⟩ := rk_surj (h := h) hh hj
    exact kHit_no (by omega) hk hm
end
end Go.Proofs.Ytidfngplhjegpaa
