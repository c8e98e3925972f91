/- tlb.Play in plain Lean, and what it answers. -/
import Derived.Test.YtfhcjainhpjdfaaRows
namespace Go.Proofs.Ytfhcjainhpjdfaa
set_option linter.unusedVariables false

/-- An entry that is remembered. -/
structure Cac where
  p : Int
  g : Int
  k : Int
  n : Int
instance : Inhabited Cac := ⟨⟨0, 0, 0, 0⟩⟩
def eqC (a b : Cac) : Bool := a.p == b.p && a.g == b.g && a.k == b.k && a.n == b.n
theorem eqC_iff {a b : Cac} : eqC a b = true ↔ a = b := by
  obtain ⟨a1, a2, a3, a4⟩ := a
  obtain ⟨b1, b2, b3, b4⟩ := b
  simp [eqC, and_assoc]
def sameP (p : Int) (x : Cac) : Bool := x.p == p
def sameG (p g : Int) (x : Cac) : Bool := x.p == p && x.g == g
def dropP (p : Int) (t : List Cac) : List Cac := t.filter fun x => !sameP p x
def dropG (p g : Int) (t : List Cac) : List Cac := t.filter fun x => !sameG p g x
def cut8 (l : List Cac) : List Cac := if 8 < l.length then l.drop 1 else l
def stepC (t : List Cac) (c : Cac) : List Cac :=
  if c.g < 0 then dropP c.p t else if c.k = 0 then dropG c.p c.g t else cut8 (dropG c.p c.g t ++ [c])
def playC (l : List Cac) : List Cac := l.foldl stepC []
theorem playC_snoc (l : List Cac) (c : Cac) : playC (l ++ [c]) = stepC (playC l) c := by simp [playC, List.foldl_append]
theorem dropP_le (p : Int) (t : List Cac) : (dropP p t).length ≤ t.length := List.length_filter_le _ _
theorem dropG_le (p g : Int) (t : List Cac) : (dropG p g t).length ≤ t.length := List.length_filter_le _ _
theorem cut8_len {l : List Cac} (h : l.length ≤ 9) : (cut8 l).length ≤ 8 := by
  unfold cut8
  split
  · rw [List.length_drop]; omega
  · omega
theorem stepC_len {t : List Cac} {c : Cac} (h : t.length ≤ 8) : (stepC t c).length ≤ 8 := by
  unfold stepC
  have h1 := dropP_le c.p t
  have h2 := dropG_le c.p c.g t
  split
  · omega
  · split
    · omega
    · exact cut8_len (by simp; omega)
theorem fold_len : ∀ (l t : List Cac), t.length ≤ 8 → (l.foldl stepC t).length ≤ 8
  | [], t, h => h
  | c :: l, t, h => fold_len l _ (stepC_len h)
theorem playC_len (l : List Cac) : (playC l).length ≤ 8 := fold_len l [] (by simp)
/-- The reference's way. -/
def keepR (c x : Cac) : Bool := x.p != c.p || (decide (0 ≤ c.g) && x.g != c.g)
def cut9 (l : List Cac) : List Cac := if l.length = 9 then l.drop 1 else l
def stepR (t : List Cac) (c : Cac) : List Cac := cut9 (t.filter (keepR c) ++ if 0 ≤ c.g ∧ c.k ≠ 0 then [c] else [])
theorem stepR_eq {t : List Cac} {c : Cac} (h : t.length ≤ 8) : stepR t c = stepC t c := by
  unfold stepR stepC
  have h1 := dropP_le c.p t
  have h2 := dropG_le c.p c.g t
  by_cases hg : c.g < 0
  · rw [if_pos hg, if_neg (by omega), List.append_nil]
    have : t.filter (keepR c) = dropP c.p t := by
      unfold dropP; congr 1; funext x
      have : decide (0 ≤ c.g) = false := by simp; omega
      simp [keepR, sameP, this, bne]
    rw [this]; unfold cut9; rw [if_neg (by omega)]
  · rw [if_neg hg]
    have : t.filter (keepR c) = dropG c.p c.g t := by
      unfold dropG; congr 1; funext x
      have : decide (0 ≤ c.g) = true := by simp; omega
      simp only [keepR, sameG, this, bne, Bool.true_and, Bool.not_and]
    rw [this]
    by_cases hk : c.k = 0
    · rw [if_pos hk, if_neg (by omega), List.append_nil]; unfold cut9; rw [if_neg (by omega)]
    · rw [if_neg hk, if_pos (by omega)]
      unfold cut9 cut8
      simp only [List.length_append, List.length_singleton]
      by_cases h9 : (dropG c.p c.g t).length + 1 = 9
      · rw [if_pos h9, if_pos (by omega)]
      · rw [if_neg h9, if_neg (by omega)]

/-! What is remembered was said last; no page twice. -/
def touches (c x : Cac) : Bool := x.p == c.p && (x.g == c.g || decide (x.g < 0))
def lastOf (l : List Cac) (c d : Cac) : Cac := l.foldl (fun d x => if touches c x then x else d) d
theorem lastOf_snoc (l : List Cac) (c d x : Cac) : lastOf (l ++ [x]) c d = if touches c x then x else lastOf l c d := by simp [lastOf, List.foldl_append]
structure TInv (l t : List Cac) : Prop where
  last : ∀ c ∈ t, ∀ d, lastOf l c d = c
  page : ∀ c ∈ t, 0 ≤ c.g
  once : t.Pairwise fun a b => sameG b.p b.g a = false
theorem cut8_sub (l : List Cac) : (cut8 l).Sublist l := by
  unfold cut8; split
  · exact List.drop_sublist _ _
  · exact List.Sublist.refl _
theorem TInv.sub {l t t' : List Cac} (h : TInv l t) (hs : t'.Sublist t) : TInv l t' :=
  ⟨fun c hc => h.last c (hs.subset hc), fun c hc => h.page c (hs.subset hc), h.once.sublist hs⟩
theorem tinv_step {l t : List Cac} {c : Cac} (h : TInv l t) : TInv (l ++ [c]) (stepC t c) := by
  unfold stepC
  split
  · rename_i hg
    refine ⟨fun x hx d => ?_, fun x hx => h.page x ((List.mem_filter.1 hx).1), h.once.sublist List.filter_sublist⟩
    obtain ⟨h1, h2⟩ := List.mem_filter.1 hx
    rw [lastOf_snoc, if_neg, h.last x h1 d]
    simp [sameP] at h2
    simp [touches]; intro e; exact absurd e.symm h2
  · rename_i hg
    have hd : TInv (l ++ [c]) (dropG c.p c.g t) := by
      refine ⟨fun x hx d => ?_, fun x hx => h.page x ((List.mem_filter.1 hx).1), h.once.sublist List.filter_sublist⟩
      obtain ⟨h1, h2⟩ := List.mem_filter.1 hx
      rw [lastOf_snoc, if_neg, h.last x h1 d]
      simp [sameG] at h2
      simp [touches]; intro e
      have hx0 := h.page x h1
      exact ⟨fun e2 => h2.elim (fun k => k e.symm) (fun k => k e2.symm), by omega⟩
    split
    · exact hd
    · refine TInv.sub ⟨fun x hx d => ?_, fun x hx => ?_, ?_⟩ (cut8_sub _)
      · rcases List.mem_append.1 hx with hx | hx
        · exact hd.last x hx d
        · simp at hx; subst hx
          rw [lastOf_snoc, if_pos (by simp [touches])]
      · rcases List.mem_append.1 hx with hx | hx
        · exact hd.page x hx
        · simp at hx; subst hx; omega
      · refine List.pairwise_append.2 ⟨hd.once, List.pairwise_singleton _ _, fun a ha b hb => ?_⟩
        simp at hb; subst hb
        have := (List.mem_filter.1 ha).2
        simpa using this
theorem tinv_nil : TInv [] [] := ⟨fun c hc => by simp at hc, fun c hc => by simp at hc, List.Pairwise.nil⟩
theorem tinv_fold : ∀ (l p t : List Cac), TInv p t → TInv (p ++ l) (l.foldl stepC t)
  | [], p, t, h => by simpa using h
  | c :: l, p, t, h => by
    have := tinv_fold l (p ++ [c]) _ (tinv_step (c := c) h)
    simpa using this
theorem tinv_play (l : List Cac) : TInv l (playC l) := tinv_fold l [] [] tinv_nil
theorem true_last {l : List Cac} {k : Nat} {c : Cac} (h : (playC l)[k]? = some c) (d : Cac) : lastOf l c d = c := (tinv_play l).last c (List.mem_of_getElem? h) d
theorem true_once {l : List Cac} {k : Nat} {c : Cac} (h : (playC l)[k]? = some c) : ((playC l).take k).any (sameG c.p c.g) = false := by
  have ho := (tinv_play l).once
  rw [List.any_eq_false]
  intro x hx
  obtain ⟨i, hi, rfl⟩ := List.mem_iff_getElem.1 hx
  have hi' : i < k := by simp at hi; omega
  have hk : k < (playC l).length := (List.getElem?_eq_some_iff.1 h).1
  have hc : (playC l)[k] = c := (List.getElem?_eq_some_iff.1 h).2
  have := List.pairwise_iff_getElem.1 ho i k (by omega) hk hi'
  rw [hc] at this
  simp [this]

/-! What was said last. -/
def mineC (c x : Cac) : Bool := x.p == c.p && (decide (c.g < 0) || x.g == c.g)
theorem last_gone {l : List Cac} {c : Cac} (h : c.g < 0 ∨ c.k = 0) : (playC (l ++ [c])).any (mineC c) = false := by
  rw [playC_snoc, List.any_eq_false]
  intro x hx
  unfold stepC at hx
  by_cases hg : c.g < 0
  · rw [if_pos hg] at hx
    have := (List.mem_filter.1 hx).2
    simp [sameP] at this
    simp [mineC, this]
  · rw [if_neg hg, if_pos (by omega)] at hx
    have := (List.mem_filter.1 hx).2
    simp [sameG] at this
    simp [mineC]
    intro e; exact ⟨by omega, this.elim (fun k => absurd e k) (fun k => k)⟩
theorem last_here {l : List Cac} {c : Cac} (h1 : ¬ c.g < 0) (h2 : ¬ c.k = 0) : 0 < (playC (l ++ [c])).length ∧ (playC (l ++ [c]))[(playC (l ++ [c])).length - 1]? = some c := by
  rw [playC_snoc]
  unfold stepC
  rw [if_neg h1, if_neg h2]
  unfold cut8
  split
  · rename_i h
    simp at h
    refine ⟨by simp; omega, ?_⟩
    rw [List.getElem?_drop]
    simp only [List.length_drop, List.length_append, List.length_singleton]
    rw [show 1 + ((dropG c.p c.g (playC l)).length + 1 - 1 - 1) = (dropG c.p c.g (playC l)).length by omega]
    simp
  · refine ⟨by simp, ?_⟩
    simp

/-! One process by itself. -/
def ofP (p : Int) (l : List Cac) : List Cac := l.filter (sameP p)
def saysAll (l : List Cac) : Nat := (l.filter fun c => !(c.k == 0)).length
theorem ofP_filter (p : Int) (q : Cac → Bool) (t : List Cac) : ofP p (t.filter q) = (ofP p t).filter q := by
  unfold ofP; rw [List.filter_filter, List.filter_filter]; congr 1; funext x; rw [Bool.and_comm]
theorem ofP_drop_other {p : Int} {q : Cac → Bool} {t : List Cac} (h : ∀ x, x.p = p → q x = true) : ofP p (t.filter q) = ofP p t := by
  unfold ofP; rw [List.filter_filter]; congr 1; funext x
  by_cases e : x.p = p
  · simp [sameP, e, h x e]
  · simp [sameP, e]
theorem other_fold (p : Int) : ∀ (l t s : List Cac), t.length + saysAll l ≤ 8 → s = ofP p t → ofP p (l.foldl stepC t) = (ofP p l).foldl stepC s
  | [], t, s, _, h => by simp [ofP] at *; exact h.symm
  | c :: l, t, s, hl, h => by
    have hP := dropP_le c.p t
    have hG := dropG_le c.p c.g t
    have hlen : (stepC t c).length + saysAll l ≤ 8 ∧ stepC t c = (if c.g < 0 then dropP c.p t else if c.k = 0 then dropG c.p c.g t else dropG c.p c.g t ++ [c]) := by
      unfold saysAll at *
      rw [List.filter_cons] at hl
      unfold stepC
      by_cases hg : c.g < 0
      · rw [if_pos hg, if_pos hg]; refine ⟨?_, rfl⟩; split at hl <;> (try simp at hl) <;> omega
      · rw [if_neg hg, if_neg hg]
        by_cases hk : c.k = 0
        · rw [if_pos hk, if_pos hk]; refine ⟨?_, rfl⟩; split at hl <;> (try simp at hl) <;> omega
        · rw [if_neg hk, if_neg hk]
          rw [if_pos (by simp [hk])] at hl
          simp at hl
          have e : cut8 (dropG c.p c.g t ++ [c]) = dropG c.p c.g t ++ [c] := by unfold cut8; rw [if_neg (by simp; omega)]
          rw [e]; exact ⟨by simp; omega, rfl⟩
    have hs : s.length ≤ t.length := by rw [h]; exact List.length_filter_le _ _
    rw [List.foldl_cons]
    by_cases hc : c.p = p
    · have hmem : ofP p (c :: l) = c :: ofP p l := by simp [ofP, sameP, hc]
      rw [hmem, List.foldl_cons]
      refine other_fold p l _ _ hlen.1 ?_
      rw [hlen.2]
      unfold stepC
      subst h
      by_cases hg : c.g < 0
      · rw [if_pos hg, if_pos hg]; unfold dropP; rw [ofP_filter]
      · rw [if_neg hg, if_neg hg]
        by_cases hk : c.k = 0
        · rw [if_pos hk, if_pos hk]; unfold dropG; rw [ofP_filter]
        · rw [if_neg hk, if_neg hk]
          have e : cut8 (dropG c.p c.g (ofP p t) ++ [c]) = dropG c.p c.g (ofP p t) ++ [c] := by
            have := dropG_le c.p c.g (ofP p t)
            have h9 : saysAll (c :: l) = saysAll l + 1 := by simp [saysAll, hk]
            unfold cut8; rw [if_neg (by simp; omega)]
          rw [e]
          have e2 : ofP p (dropG c.p c.g t ++ [c]) = ofP p (dropG c.p c.g t) ++ [c] := by simp [ofP, sameP, hc]
          rw [e2]; congr 1
          unfold dropG; rw [ofP_filter]
    · have hmem : ofP p (c :: l) = ofP p l := by simp [ofP, sameP, hc]
      rw [hmem]
      refine other_fold p l _ _ hlen.1 ?_
      rw [hlen.2, h]
      split
      · exact (ofP_drop_other fun x hx => by simp [sameP, hx]; exact fun e => hc e.symm).symm
      · split
        · exact (ofP_drop_other fun x hx => by simp [sameG, hx]; exact .inl fun e => hc e.symm).symm
        · have e2 : ofP p (dropG c.p c.g t ++ [c]) = ofP p (dropG c.p c.g t) := by simp [ofP, sameP, hc]
          rw [e2]
          exact (ofP_drop_other fun x hx => by simp [sameG, hx]; exact .inl fun e => hc e.symm).symm
theorem other_play {p : Int} {l : List Cac} (h : saysAll l ≤ 8) : ofP p (playC l) = playC (ofP p l) := other_fold p l [] [] (by simpa using h) rfl
end Go.Proofs.Ytfhcjainhpjdfaa
