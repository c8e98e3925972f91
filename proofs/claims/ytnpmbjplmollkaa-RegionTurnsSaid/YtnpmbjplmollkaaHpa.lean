/- Pages, in plain Lean. -/
import Derived.Test.YtnpmbjplmollkaaRgu
namespace Go.Proofs.Ytnpmbjplmollkaa
set_option linter.unusedVariables false
def ascB : Int → List Rgn → Bool
  | _, [] => true
  | b, x :: l => decide (b ≤ x.f) && decide (x.f < x.t) && decide (x.t ≤ 64) && ascB x.t l
def lastFrom : Int → List Rgn → Int
  | b, [] => b
  | _, x :: l => lastFrom x.t l
theorem ascB_iff : ∀ (l : List Rgn) (b : Int), ascB b l = true ↔ Asc b l
  | [], _ => by simp [ascB, Asc]
  | x :: l, b => by simp [ascB, Asc, ascB_iff l x.t, and_assoc]
theorem ascB_append : ∀ (l m : List Rgn) (b : Int), ascB b (l ++ m) = (ascB b l && ascB (lastFrom b l) m)
  | [], m, b => by simp [ascB, lastFrom]
  | x :: l, m, b => by simp [ascB, lastFrom, ascB_append l m x.t, Bool.and_assoc]
theorem lastFrom_snoc : ∀ (l : List Rgn) (x : Rgn) (b : Int), lastFrom b (l ++ [x]) = x.t
  | [], _, _ => rfl
  | y :: l, x, b => lastFrom_snoc l x y.t
theorem le_last : ∀ (l : List Rgn) (b : Int), Asc b l → b ≤ lastFrom b l ∧ ∀ y ∈ l, y.t ≤ lastFrom b l
  | [], b, _ => ⟨Int.le_refl _, fun y hy => by cases hy⟩
  | x :: l, b, h => by
    obtain ⟨h1, h2, h3, h4⟩ := h
    obtain ⟨g1, g2⟩ := le_last l x.t h4
    refine ⟨by show b ≤ lastFrom x.t l; omega, fun y hy => ?_⟩
    rcases List.mem_cons.1 hy with rfl | hy
    · exact g1
    · exact g2 y hy
def bad (b : Int) (x : Rgn) : Bool := !(decide (b ≤ x.f) && decide (x.f < x.t) && decide (x.t ≤ 64))
theorem asc_bad {xs : List Rgn} {k : Nat} {x : Rgn} (hx : xs[k]? = some x) (h : bad (lastFrom 0 (xs.take k)) x = true) : ascB 0 xs = false := by
  have hl := (List.getElem?_eq_some_iff.1 hx).1
  have e : xs = xs.take k ++ x :: xs.drop (k + 1) := by
    rw [← (List.getElem?_eq_some_iff.1 hx).2, ← List.drop_eq_getElem_cons hl, List.take_append_drop]
  rw [e, ascB_append]
  simp only [ascB]
  unfold bad at h
  cases h1 : (decide (lastFrom 0 (xs.take k) ≤ x.f) && decide (x.f < x.t) && decide (x.t ≤ 64)) with
  | true => rw [h1] at h; cases h
  | false => simp
theorem asc_next {xs : List Rgn} {k : Nat} {x : Rgn} (hx : xs[k]? = some x) (ha : ascB 0 (xs.take k) = true) (h : bad (lastFrom 0 (xs.take k)) x = false) : ascB 0 (xs.take (k + 1)) = true ∧ lastFrom 0 (xs.take (k + 1)) = x.t := by
  rw [take_snocR hx, ascB_append, ha, lastFrom_snoc]
  unfold bad at h
  simp only [Bool.not_eq_false'] at h
  refine ⟨?_, rfl⟩
  simp only [ascB, Bool.true_and, Bool.and_true]
  exact h
def gAt (xs : List Rgn) (i : Nat) : Option Att := at? xs (i : Int)
theorem gAt_next {xs : List Rgn} {k : Nat} {x : Rgn} (hx : xs[k]? = some x) (ha : ascB 0 (xs.take k) = true) (h : bad (lastFrom 0 (xs.take k)) x = false) (i : Nat) : gAt (xs.take (k + 1)) i = if x.f ≤ (i : Int) ∧ (i : Int) < x.t then some x.a else gAt (xs.take k) i := by
  unfold gAt
  rw [take_snocR hx]
  unfold at?
  rw [List.find?_append]
  by_cases hi : x.f ≤ (i : Int) ∧ (i : Int) < x.t
  · have hn : (xs.take k).find? (fun y => decide (y.f ≤ (i : Int)) && decide ((i : Int) < y.t)) = none := by
      rw [List.find?_eq_none]
      intro y hy
      have := (le_last _ _ ((ascB_iff _ _).1 ha)).2 y hy
      unfold bad at h
      simp at h
      simp; omega
    rw [hn, if_pos hi]
    simp [hi.1, hi.2]
  · rw [if_neg hi]
    have : [x].find? (fun y => decide (y.f ≤ (i : Int)) && decide ((i : Int) < y.t)) = none := by
      rw [List.find?_eq_none]
      intro y hy
      simp at hy; subst hy
      simp; omega
    rw [this]; simp
def units (g : Nat → Option Att) : Nat → List Rgn
  | 0 => []
  | k + 1 => units g k ++ (match g k with | some a => [⟨k, k + 1, a⟩] | none => [])
def regs (g : Nat → Option Att) (k : Nat) : List Rgn := joinL (units g k)
theorem regs_none {g : Nat → Option Att} {k : Nat} (h : g k = none) : regs g (k + 1) = regs g k := by simp [regs, units, h]
theorem regs_some {g : Nat → Option Att} {k : Nat} {a : Att} (h : g k = some a) : regs g (k + 1) = stepJ (regs g k) ⟨k, k + 1, a⟩ := by
  unfold regs
  simp only [units, h]
  exact joinL_snoc _ _
theorem regs_len (g : Nat → Option Att) (k : Nat) : (regs g k).length ≤ k := by
  refine Nat.le_trans (joinL_len _) ?_
  induction k with
  | zero => exact Nat.le_refl _
  | succ k ih =>
    simp only [units, List.length_append]
    cases g k <;> simp <;> omega
theorem units_asc (g : Nat → Option Att) : ∀ k, k ≤ 64 → ascB 0 (units g k) = true ∧ lastFrom 0 (units g k) ≤ k
  | 0, _ => by simp [units, ascB, lastFrom]
  | k + 1, hk => by
    obtain ⟨h1, h2⟩ := units_asc g k (by omega)
    simp only [units]
    cases g k with
    | none => simp only [List.append_nil]; exact ⟨h1, by omega⟩
    | some a =>
      rw [ascB_append, h1, lastFrom_snoc]
      refine ⟨?_, by simp⟩
      simp [ascB]; omega
theorem units_has (g : Nat → Option Att) (p : Int) (t : Att) : ∀ k, Has (units g k) p t ↔ 0 ≤ p ∧ p < k ∧ g p.toNat = some t
  | 0 => by
    simp only [units]
    exact ⟨fun h => absurd h has_nil, fun ⟨h1, h2, _⟩ => by omega⟩
  | k + 1 => by
    simp only [units]
    rw [has_append, units_has g p t k]
    cases hg : g k with
    | none =>
      constructor
      · rintro (h | h)
        · exact ⟨h.1, by omega, h.2.2⟩
        · exact absurd h has_nil
      · rintro ⟨h1, h2, h3⟩
        by_cases e : p.toNat = k
        · rw [e, hg] at h3; cases h3
        · exact .inl ⟨h1, by omega, h3⟩
    | some a =>
      simp only [has_one]
      constructor
      · rintro (h | ⟨h1, h2, h3⟩)
        · exact ⟨h.1, by omega, h.2.2⟩
        · have e : p.toNat = k := by omega
          exact ⟨by omega, by omega, by rw [e, hg, h3]⟩
      · rintro ⟨h1, h2, h3⟩
        by_cases e : p.toNat = k
        · rw [e, hg] at h3
          cases h3
          exact .inr ⟨by omega, by omega, rfl⟩
        · exact .inl ⟨h1, by omega, h3⟩
theorem regs_right_k (g : Nat → Option Att) (k : Nat) (hk : k ≤ 64) : rightL (regs g k) = true := joinL_right ((ascB_iff _ _).1 (units_asc g k hk).1)
theorem regs_has_k (g : Nat → Option Att) (p : Int) (t : Att) (k : Nat) (hk : k ≤ 64) : Has (regs g k) p t ↔ 0 ≤ p ∧ p < k ∧ g p.toNat = some t := (joinL_has ((ascB_iff _ _).1 (units_asc g k hk).1) p t).trans (units_has g p t k)
theorem regs_right (g : Nat → Option Att) : rightL (regs g 64) = true := regs_right_k g 64 (Nat.le_refl _)
theorem regs_has (g : Nat → Option Att) (p : Int) (t : Att) : Has (regs g 64) p t ↔ 0 ≤ p ∧ p < 64 ∧ g p.toNat = some t := regs_has_k g p t 64 (Nat.le_refl _)
theorem right_range {xs : List Rgn} (h : rightL xs = true) {p : Int} {t : Att} (hp : Has xs p t) : 0 ≤ p ∧ p < 64 := by
  obtain ⟨y, hy, h1, h2, _⟩ := hp
  have := (right_good h).ok y hy
  omega
theorem regs_same {xs : List Rgn} (h : rightL xs = true) : regs (gAt xs) 64 = xs := right_eq (regs_right _) h fun p t => by
  rw [regs_has]
  constructor
  · rintro ⟨h1, h2, h3⟩
    unfold gAt at h3
    rw [Int.toNat_of_nonneg h1] at h3
    exact (at_some (right_good h) p t).1 h3
  · intro hp
    obtain ⟨h1, h2⟩ := right_range h hp
    refine ⟨h1, h2, ?_⟩
    unfold gAt
    rw [Int.toNat_of_nonneg h1]
    exact (at_some (right_good h) p t).2 hp
theorem hright_eq (xs : List Rgn) : (ascB 0 xs && sameL eqR (regs (gAt xs) 64) xs) = rightL xs := by
  rw [Bool.eq_iff_iff, Bool.and_eq_true, sameL_iff (fun a b => eqR_iff)]
  constructor
  · rintro ⟨_, h⟩
    rw [← h]; exact regs_right _
  · intro h
    exact ⟨(ascB_iff _ _).2 (rightL_asc h), regs_same h⟩
end Go.Proofs.Ytnpmbjplmollkaa
