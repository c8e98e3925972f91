/- What HEach has is what Add, Cut and Turn have. -/
import Derived.Test.YtnpmbjplmollkaaHpg
namespace Go.Proofs.Ytnpmbjplmollkaa
set_option linter.unusedVariables false
theorem eachG_at (xs : List Rgn) (a b : Int) (fo : Option Att → Option Att) {p : Int} (h0 : 0 ≤ p) : eachG xs a b fo p.toNat = if a ≤ p ∧ p < b then fo (at? xs p) else at? xs p := by
  unfold eachG gAt
  rw [Int.toNat_of_nonneg h0]
theorem bad_iff {xs : List Rgn} {a b must : Int} (h0 : 0 ≤ a) (h1 : b ≤ 64) : eachBad xs a b must = true ↔ ∃ p, a ≤ p ∧ p < b ∧ badM must (at? xs p) = true := by
  unfold eachBad
  rw [List.any_eq_true]
  constructor
  · rintro ⟨i, hi, h⟩
    simp only [Bool.and_eq_true, decide_eq_true_eq] at h
    exact ⟨i, h.1.1, h.1.2, h.2⟩
  · rintro ⟨p, h2, h3, h4⟩
    refine ⟨p.toNat, List.mem_range.2 (by omega), ?_⟩
    have e : ((p.toNat : Nat) : Int) = p := Int.toNat_of_nonneg (by omega)
    simp only [Bool.and_eq_true, decide_eq_true_eq]
    unfold gAt
    rw [e]; exact ⟨⟨h2, h3⟩, h4⟩
theorem eachL_eq {xs m : List Rgn} {a b must : Int} {fo : Option Att → Option Att} (hE : eachE xs a b must = 0) (hm : rightL m = true) (h : ∀ p t, Has m p t ↔ 0 ≤ p ∧ p < 64 ∧ (if a ≤ p ∧ p < b then fo (at? xs p) else at? xs p) = some t) : eachL xs a b must fo = m := by
  unfold eachL
  rw [if_pos hE]
  refine right_eq (regs_right _) hm fun p t => ?_
  rw [regs_has, h]
  constructor
  · rintro ⟨h1, h2, h3⟩; exact ⟨h1, h2, by rwa [eachG_at _ _ _ _ h1] at h3⟩
  · rintro ⟨h1, h2, h3⟩; exact ⟨h1, h2, by rwa [eachG_at _ _ _ _ h1]⟩
theorem each_add (xs : List Rgn) (x : Rgn) : eachE xs x.f x.t (-1) = addE xs x ∧ eachL xs x.f x.t (-1) (fun _ => some x.a) = addL xs x := by
  have hE : eachE xs x.f x.t (-1) = addE xs x := by
    unfold eachE addE
    cases hr : rightL xs with
    | false => rfl
    | true =>
      cases hs : spanB x.f x.t with
      | false => rfl
      | true =>
        obtain ⟨h1, h2, h3⟩ := span_iff.1 hs
        simp only [Bool.true_eq_false, if_false]
        by_cases hi : inL x.f x.t xs = []
        · rw [if_pos hi, if_neg]
          rw [bad_iff h1 h3]
          rintro ⟨p, g1, g2, g3⟩
          cases ho : at? xs p with
          | none => rw [ho] at g3; simp [badM] at g3
          | some t => exact in_none hi p t ((at_some (right_good hr) p t).1 ho) ⟨g1, g2⟩
        · rw [if_neg hi, if_pos]
          · rfl
          · rw [bad_iff h1 h3]
            refine Classical.byContradiction fun hn => hi (none_in (right_good hr) fun p t hp hh => hn ⟨p, hh.1, hh.2, ?_⟩)
            rw [(at_some (right_good hr) p t).2 hp]; rfl
  refine ⟨hE, ?_⟩
  by_cases h : addE xs x = 0
  · obtain ⟨hr, h0, h1, h2, hi⟩ := add_facts h
    obtain ⟨ha, hh⟩ := add_has h
    refine eachL_eq (hE.trans h) ha fun p t => ?_
    rw [hh]
    constructor
    · rintro (g | ⟨g1, g2, g3⟩)
      · have := right_range hr g
        refine ⟨this.1, this.2, ?_⟩
        rw [if_neg (in_none hi p t g)]
        exact (at_some (right_good hr) p t).2 g
      · exact ⟨by omega, by omega, by rw [if_pos ⟨g1, g2⟩, g3]⟩
    · rintro ⟨g1, g2, g3⟩
      by_cases hp : x.f ≤ p ∧ p < x.t
      · rw [if_pos hp] at g3
        exact .inr ⟨hp.1, hp.2, by cases g3; rfl⟩
      · rw [if_neg hp] at g3
        exact .inl ((at_some (right_good hr) p t).1 g3)
  · unfold eachL addL
    rw [hE, if_neg h, if_neg h]
theorem each_cut (xs : List Rgn) (a b : Int) : eachE xs a b 0 = cutE xs a b ∧ eachL xs a b 0 (fun _ => none) = cutL xs a b := by
  have hE : eachE xs a b 0 = cutE xs a b := by
    unfold eachE cutE
    cases hr : rightL xs with
    | false => rfl
    | true =>
      cases hs : spanB a b with
      | false => rfl
      | true =>
        obtain ⟨h1, h2, h3⟩ := span_iff.1 hs
        simp only [Bool.true_eq_false, if_false]
        rw [if_neg]
        rw [bad_iff h1 h3]
        rintro ⟨p, _, _, g⟩
        simp [badM] at g
  refine ⟨hE, ?_⟩
  by_cases h : cutE xs a b = 0
  · obtain ⟨hr, h0, h1, h2⟩ := cut_facts h
    obtain ⟨hc, hh⟩ := cut_has h
    refine eachL_eq (hE.trans h) hc fun p t => ?_
    rw [hh]
    constructor
    · rintro ⟨g, hp⟩
      have := right_range hr g
      refine ⟨this.1, this.2, ?_⟩
      rw [if_neg hp]
      exact (at_some (right_good hr) p t).2 g
    · rintro ⟨g1, g2, g3⟩
      by_cases hp : a ≤ p ∧ p < b
      · rw [if_pos hp] at g3; cases g3
      · rw [if_neg hp] at g3
        exact ⟨(at_some (right_good hr) p t).1 g3, hp⟩
  · unfold eachL cutL
    rw [hE, if_neg h, if_neg h]
theorem each_turn (xs : List Rgn) (a b : Int) (f : Att → Att) : eachE xs a b 1 = turnE xs a b ∧ eachL xs a b 1 (Option.map f) = turnL xs a b f := by
  have hE : eachE xs a b 1 = turnE xs a b := by
    cases hr : rightL xs with
    | false => unfold eachE turnE; rw [hr]; rfl
    | true =>
      cases hs : spanB a b with
      | false => unfold eachE turnE; rw [hr, hs]; rfl
      | true =>
        obtain ⟨h1, h2, h3⟩ := span_iff.1 hs
        by_cases hb : eachBad xs a b 1 = true
        · have e1 : eachE xs a b 1 = 3 := by unfold eachE; rw [hr, hs, hb]; rfl
          obtain ⟨p, g1, g2, g3⟩ := (bad_iff h1 h3).1 hb
          have hn : at? xs p = none := by
            cases ho : at? xs p with
            | none => rfl
            | some t => rw [ho] at g3; simp [badM] at g3
          have e2 : turnE xs a b ≠ 0 := fun h => by
            obtain ⟨_, _, _, _, hall⟩ := turn_facts h
            obtain ⟨t, ht⟩ := hall p g1 g2
            exact at_none.1 hn t ht
          rw [e1]
          unfold turnE at e2 ⊢
          rw [hr, hs] at e2 ⊢
          simp only [Bool.true_eq_false, if_false] at e2 ⊢
          split
          · rfl
          · rename_i h; rw [if_neg h] at e2; exact absurd rfl e2
        · have e1 : eachE xs a b 1 = 0 := by
            unfold eachE; rw [hr, hs, if_neg (by simp), if_neg (by simp), if_neg hb]
          rw [e1, turn_zero hr h1 h2 h3 fun p g1 g2 => ?_]
          cases ho : at? xs p with
          | none => exact absurd ((bad_iff h1 h3).2 ⟨p, g1, g2, by rw [ho]; rfl⟩) hb
          | some t => exact ⟨t, (at_some (right_good hr) p t).1 ho⟩
  refine ⟨hE, ?_⟩
  by_cases h : turnE xs a b = 0
  · obtain ⟨hr, h0, h1, h2, hall⟩ := turn_facts h
    obtain ⟨ht, hh⟩ := turn_has (f := f) h
    refine eachL_eq (hE.trans h) ht fun p t => ?_
    rw [hh]
    constructor
    · rintro (⟨g, hp⟩ | ⟨g1, g2, s, hs, e⟩)
      · have := right_range hr g
        refine ⟨this.1, this.2, ?_⟩
        rw [if_neg hp]
        exact (at_some (right_good hr) p t).2 g
      · exact ⟨by omega, by omega, by rw [if_pos ⟨g1, g2⟩, (at_some (right_good hr) p s).2 hs, ← e]; rfl⟩
    · rintro ⟨g1, g2, g3⟩
      by_cases hp : a ≤ p ∧ p < b
      · rw [if_pos hp] at g3
        cases ho : at? xs p with
        | none => rw [ho] at g3; cases g3
        | some s =>
          rw [ho] at g3
          cases g3
          exact .inr ⟨hp.1, hp.2, s, (at_some (right_good hr) p s).1 ho, rfl⟩
      · rw [if_neg hp] at g3
        exact .inl ⟨(at_some (right_good hr) p t).1 g3, hp⟩
  · unfold eachL turnL
    rw [hE, if_neg h, if_neg h]
end Go.Proofs.Ytnpmbjplmollkaa
