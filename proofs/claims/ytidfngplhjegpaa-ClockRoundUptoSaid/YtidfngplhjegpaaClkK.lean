/- The document's KNext: plain laws, and what it answers. -/
import Derived.Test.YtidfngplhjegpaaClkO
import Derived.Deep.DeepCutAuto
namespace Go.Proofs.Ytidfngplhjegpaa
open Go.RowKit Go.Sort
set_option linter.unusedVariables false

def fN (x : Nat) : List Value := [.int .i64 (x : Int)]
theorem fN_len (x : Nat) : (fN x).length = 1 := rfl
theorem rwN_at {w : World} {B : Nat} {b off n i : Nat} {xs : List Nat} (h : Rw fN 1 w B (some ⟨b, off, none⟩) n xs) (hi : i < n) : w.cell? ⟨b, off + i, none⟩ = some (.int .i64 (xs.getD i 0 : Nat)) := by
  obtain ⟨b', off', e, _, hc⟩ := h.2.2 (by omega)
  injection e with e
  injection e with e1 e2
  subst e1 e2
  have hl : i < xs.length := by rw [h.1]; exact hi
  have := hc i xs[i] (List.getElem?_eq_getElem hl) 0 (.int .i64 (xs[i] : Nat)) rfl
  simp only [Nat.mul_one, Nat.add_zero] at this
  rw [this]; simp [List.getD, hl]
theorem intInfo : (Try.prog.info? 3).map (fun i => (i.zero, i.size, i.bytes)) = some (some (.int .i64 0), 1, 8) := by kernel_rfl
def clearL (used : List Bool) (l : List Nat) : List Bool := l.foldl (fun o j => o.set j false) used
section
variable {may used : List Bool} {h n : Nat}
theorem inK_succ (k : Nat) : inK may h n (k + 1) = if mb may (rk h n k) then inK may h n k ++ [rk h n k] else inK may h n k := rfl
theorem outK_clear : ∀ k, outK may used h n k = clearL used (inK may h n k)
  | 0 => rfl
  | k + 1 => by
    rw [outK_succ, inK_succ, outK_clear k]
    split
    · unfold clearL; rw [List.foldl_append]; rfl
    · rfl
theorem inK_len : ∀ k, (inK may h n k).length ≤ k
  | 0 => Nat.le_refl _
  | k + 1 => by rw [inK_succ]; have := inK_len k; split <;> simp <;> omega
theorem inK_pre : ∀ m k, ∃ t, inK may h n (k + m) = inK may h n k ++ t
  | 0, k => ⟨[], by simp⟩
  | m + 1, k => by
    obtain ⟨t, ht⟩ := inK_pre m k
    rw [show k + (m + 1) = (k + m) + 1 by omega, inK_succ, ht]
    split
    · exact ⟨t ++ [rk h n (k + m)], by rw [List.append_assoc]⟩
    · exact ⟨t, rfl⟩
theorem inK_take {k m : Nat} (hk : k ≤ m) : (inK may h n m).take (inK may h n k).length = inK may h n k := by
  obtain ⟨t, ht⟩ := inK_pre (may := may) (h := h) (n := n) (m - k) k
  rw [show k + (m - k) = m by omega] at ht
  rw [ht, List.take_left]
theorem inK_next {k m : Nat} (hk : k < m) (hm : mb may (rk h n k) = true) : (inK may h n m).getD (inK may h n k).length 0 = rk h n k ∧ (inK may h n k).length < (inK may h n m).length := by
  obtain ⟨t, ht⟩ := inK_pre (may := may) (h := h) (n := n) (m - (k + 1)) (k + 1)
  rw [show k + 1 + (m - (k + 1)) = m by omega, inK_succ, if_pos hm] at ht
  rw [ht]
  constructor
  · simp [List.getD]
  · simp
theorem inK_mem {j : Nat} : ∀ k, j ∈ inK may h n k → ∃ i, i < k ∧ rk h n i = j ∧ mb may (rk h n i) = true
  | 0, hj => by cases hj
  | k + 1, hj => by
    rw [inK_succ] at hj
    split at hj
    · rename_i hm
      rcases List.mem_append.1 hj with hj | hj
      · obtain ⟨i, h1, h2⟩ := inK_mem k hj; exact ⟨i, by omega, h2⟩
      · simp at hj; exact ⟨k, by omega, hj.symm, hm⟩
    · obtain ⟨i, h1, h2⟩ := inK_mem k hj; exact ⟨i, by omega, h2⟩
theorem inK_skip {k : Nat} : ∀ m, (∀ i, i < m → mb may (rk h n (k + i)) = false) → inK may h n (k + m) = inK may h n k
  | 0, _ => rfl
  | m + 1, hm => by
    rw [show k + (m + 1) = (k + m) + 1 by omega, inK_succ, hm m (by omega)]
    simpa using inK_skip m (fun i hi => hm i (by omega))
theorem kHit_le : kHit may used h n ≤ n := by have := firstT_le (hitL may used h n); rwa [hitL_len] at this
/-- So many of those that may come ahead of the first one that was not used. -/
def seenF (may used : List Bool) (h n : Nat) : Nat := (inK may h n (kHit may used h n)).length
theorem seen_le : seenF may used h n ≤ (inK may h n n).length := by
  unfold seenF
  rw [← inK_take (may := may) (h := h) (n := n) (kHit_le (used := used)), List.length_take]
  omega
theorem seen_used {i : Nat} (hi : i < seenF may used h n) : mb used ((inK may h n n).getD i 0) = true := by
  have e : (inK may h n n).getD i 0 = (inK may h n (kHit may used h n)).getD i 0 := by
    rw [← inK_take (may := may) (h := h) (n := n) (kHit_le (used := used))]
    unfold seenF at hi
    simp [List.getD, hi]
  rw [e]
  unfold seenF at hi
  obtain ⟨k, h1, h2, h3⟩ := inK_mem _ (show (inK may h n (kHit may used h n)).getD i 0 ∈ inK may h n (kHit may used h n) by simp [List.getD, hi])
  rw [← h2]
  exact kHit_no h1 (by have := kHit_le (may := may) (used := used) (h := h) (n := n); omega) h3
theorem seen_hit (g : kHit may used h n < n) : (inK may h n n).getD (seenF may used h n) 0 = rk h n (kHit may used h n) ∧ seenF may used h n < (inK may h n n).length :=
  inK_next g (kHit_yes g).1
theorem seen_all (g : ¬ kHit may used h n < n) : seenF may used h n = (inK may h n n).length := by
  have := kHit_le (may := may) (used := used) (h := h) (n := n)
  have e : kHit may used h n = n := by omega
  unfold seenF; rw [e]
theorem in_first (hn : kMay may h n < n) : (inK may h n n).getD 0 0 = rk h n (kMay may h n) ∧ 0 < (inK may h n n).length := by
  have e : inK may h n (kMay may h n) = [] := by
    have := inK_skip (may := may) (h := h) (n := n) (k := 0) (kMay may h n) (fun i hi => by rw [Nat.zero_add]; exact kMay_no hi (by omega))
    rw [Nat.zero_add] at this
    rw [this]; rfl
  have := inK_next hn (kMay_yes hn)
  rw [e] at this
  exact this
theorem out_seen (hn : kMay may h n < n) : clearL used ((inK may h n n).take (seenF may used h n)) = outF may used h n := by
  unfold seenF
  rw [inK_take (kHit_le (used := used)), ← outK_clear]
  unfold outF kTot
  split
  · rfl
  · rename_i g
    have := kHit_le (may := may) (used := used) (h := h) (n := n)
    rw [outK_past hn _ (Nat.le_refl _)]
    congr 1; omega
theorem clear_next {l : List Nat} {i : Nat} (hi : i < l.length) : clearL used (l.take (i + 1)) = (clearL used (l.take i)).set (l.getD i 0) false := by
  have e : l.take (i + 1) = l.take i ++ [l.getD i 0] := by rw [List.take_succ_eq_append_getElem hi]; simp [List.getD, hi]
  rw [e]; unfold clearL; rw [List.foldl_append]; rfl
theorem clear_len : ∀ l : List Nat, (clearL used l).length = used.length := by
  intro l
  unfold clearL
  induction l generalizing used with
  | nil => rfl
  | cons x l ih => simp only [List.foldl_cons]; rw [ih]; simp
theorem inK_none (hm : ∀ k, k < n → mb may (rk h n k) = false) : inK may h n n = [] := by
  have := inK_skip (may := may) (h := h) (n := n) (k := 0) n (fun i hi => by rw [Nat.zero_add]; exact hm i hi)
  rw [Nat.zero_add] at this
  rw [this]; rfl
end
end Go.Proofs.Ytidfngplhjegpaa
