/- Regions in plain Lean: what Add, Cut and Turn have. -/
import Derived.Test.YtnpmbjplmollkaaJnm
import Derived.Test.YtnpmbjplmollkaaRgd
namespace Go.Proofs.Ytnpmbjplmollkaa
set_option linter.unusedVariables false
def at? (l : List Rgn) (p : Int) : Option Att := (l.find? fun x => decide (x.f ≤ p) && decide (p < x.t)).map (·.a)
theorem at_some {l : List Rgn} (hg : Good l) (p : Int) (t : Att) : at? l p = some t ↔ Has l p t := by
  unfold at?
  constructor
  · intro h
    obtain ⟨x, hx, rfl⟩ := Option.map_eq_some_iff.1 h
    have h1 := List.find?_some hx
    simp at h1
    exact ⟨x, List.mem_of_find?_eq_some hx, h1.1, h1.2, rfl⟩
  · intro h
    cases hf : l.find? (fun x => decide (x.f ≤ p) && decide (p < x.t)) with
    | none =>
      obtain ⟨x, hx, h1, h2, _⟩ := h
      have := List.find?_eq_none.1 hf x hx
      simp [h1, h2] at this
    | some x =>
      have h1 := List.find?_some hf
      simp at h1
      have := hg.fun ⟨x, List.mem_of_find?_eq_some hf, h1.1, h1.2, rfl⟩ h
      rw [← this]; rfl
theorem at_none {l : List Rgn} {p : Int} : at? l p = none ↔ ∀ t, ¬ Has l p t := by
  unfold at?
  rw [Option.map_eq_none_iff, List.find?_eq_none]
  constructor
  · rintro h t ⟨x, hx, h1, h2, _⟩
    have := h x hx
    simp [h1, h2] at this
  · intro h x hx h2
    simp at h2
    exact h x.a ⟨x, hx, h2.1, h2.2, rfl⟩
def spanB (a b : Int) : Bool := decide (0 ≤ a) && decide (a < b) && decide (b ≤ 64)
theorem span_iff {a b : Int} : spanB a b = true ↔ 0 ≤ a ∧ a < b ∧ b ≤ 64 := by simp [spanB, and_assoc]
def cutE (xs : List Rgn) (a b : Int) : Int := if rightL xs = false then 1 else if spanB a b = false then 2 else 0
def cutL (xs : List Rgn) (a b : Int) : List Rgn := if cutE xs a b = 0 then norm (outL a b xs) else []
def addE (xs : List Rgn) (x : Rgn) : Int := if rightL xs = false then 1 else if spanB x.f x.t = false then 2 else if inL x.f x.t xs = [] then 0 else 7
def addL (xs : List Rgn) (x : Rgn) : List Rgn := if addE xs x = 0 then norm (outL x.f x.t xs ++ [x]) else []
def turnE (xs : List Rgn) (a b : Int) : Int := if rightL xs = false then 1 else if spanB a b = false then 2 else if tot (inL a b xs) < b - a then 3 else 0
def turnL (xs : List Rgn) (a b : Int) (f : Att → Att) : List Rgn := if turnE xs a b = 0 then norm (outL a b xs ++ (inL a b xs).map (turnR f)) else []
theorem norm_len (xs : List Rgn) : (norm xs).length ≤ xs.length := by
  unfold norm
  exact Nat.le_trans (joinL_len _) (by rw [List.length_mergeSort]; exact Nat.le_refl _)
theorem cutL_len (xs : List Rgn) (a b : Int) : (cutL xs a b).length ≤ 1000 := by
  unfold cutL
  split
  · rename_i h
    have h1 := norm_len (outL a b xs)
    have h2 := outL_len a b xs
    have h3 : rightL xs = true := by
      unfold cutE at h
      cases hr : rightL xs with
      | true => rfl
      | false => rw [hr] at h; simp at h
    have := rightL_len h3
    omega
  · simp

theorem cut_facts {xs : List Rgn} {a b : Int} (h : cutE xs a b = 0) : rightL xs = true ∧ 0 ≤ a ∧ a < b ∧ b ≤ 64 := by
  unfold cutE at h
  cases hr : rightL xs with
  | false => rw [hr] at h; simp at h
  | true =>
    cases hs : spanB a b with
    | false => rw [hr, hs] at h; simp at h
    | true => exact ⟨rfl, span_iff.1 hs⟩
theorem cut_zero {xs : List Rgn} {a b : Int} (hr : rightL xs = true) (h0 : 0 ≤ a) (h1 : a < b) (h2 : b ≤ 64) : cutE xs a b = 0 := by
  unfold cutE
  rw [hr, span_iff.2 ⟨h0, h1, h2⟩]; rfl
theorem cut_has {xs : List Rgn} {a b : Int} (h : cutE xs a b = 0) : rightL (cutL xs a b) = true ∧ ∀ p t, Has (cutL xs a b) p t ↔ Has xs p t ∧ ¬ (a ≤ p ∧ p < b) := by
  obtain ⟨hr, h0, h1, h2⟩ := cut_facts h
  unfold cutL
  rw [if_pos h]
  have hg := good_out (right_good hr) (a := a) (b := b) (by omega)
  exact ⟨norm_right hg, fun p t => (norm_has hg p t).trans (has_out (by omega))⟩
theorem add_facts {xs : List Rgn} {x : Rgn} (h : addE xs x = 0) : rightL xs = true ∧ 0 ≤ x.f ∧ x.f < x.t ∧ x.t ≤ 64 ∧ inL x.f x.t xs = [] := by
  unfold addE at h
  cases hr : rightL xs with
  | false => rw [hr] at h; simp at h
  | true =>
    cases hs : spanB x.f x.t with
    | false => rw [hr, hs] at h; simp at h
    | true =>
      obtain ⟨h1, h2, h3⟩ := span_iff.1 hs
      by_cases hi : inL x.f x.t xs = []
      · exact ⟨rfl, h1, h2, h3, hi⟩
      · rw [hr, hs, if_neg (by simp), if_neg (by simp), if_neg hi] at h; simp at h
theorem add_zero_ {xs : List Rgn} {x : Rgn} (hr : rightL xs = true) (h0 : 0 ≤ x.f) (h1 : x.f < x.t) (h2 : x.t ≤ 64) (hi : inL x.f x.t xs = []) : addE xs x = 0 := by
  unfold addE
  rw [hr, span_iff.2 ⟨h0, h1, h2⟩, if_pos hi]; rfl
theorem in_none {xs : List Rgn} {a b : Int} (h : inL a b xs = []) (p : Int) (t : Att) (hp : Has xs p t) : ¬ (a ≤ p ∧ p < b) := fun hh => by
  have := (has_in (a := a) (b := b)).2 ⟨hp, hh⟩
  rw [h] at this; exact has_nil this
theorem none_in {xs : List Rgn} {a b : Int} (hg : Good xs) (h : ∀ p t, Has xs p t → ¬ (a ≤ p ∧ p < b)) : inL a b xs = [] := by
  cases hl : inL a b xs with
  | nil => rfl
  | cons y l =>
    exfalso
    have hy : y ∈ inL a b xs := by rw [hl]; exact List.mem_cons_self
    have ho := (good_in hg (a := a) (b := b)).ok y hy
    have := (has_in (l := xs) (a := a) (b := b) (p := y.f) (t := y.a)).1 ⟨y, hy, Int.le_refl _, ho.2.1, rfl⟩
    exact h y.f y.a this.1 this.2
theorem add_has {xs : List Rgn} {x : Rgn} (h : addE xs x = 0) : rightL (addL xs x) = true ∧ ∀ p t, Has (addL xs x) p t ↔ Has xs p t ∨ (x.f ≤ p ∧ p < x.t ∧ x.a = t) := by
  obtain ⟨hr, h0, h1, h2, hi⟩ := add_facts h
  unfold addL
  rw [if_pos h]
  have hg := good_add (right_good hr) h0 h1 h2
  refine ⟨norm_right hg, fun p t => (norm_has hg p t).trans ?_⟩
  rw [has_append, has_out (by omega), has_one]
  constructor
  · rintro (h | h)
    · exact .inl h.1
    · exact .inr h
  · rintro (h | h)
    · exact .inl ⟨h, in_none hi p t h⟩
    · exact .inr h
theorem back_law {xs : List Rgn} {x : Rgn} (h : addE xs x = 0) : cutE (addL xs x) x.f x.t = 0 ∧ cutL (addL xs x) x.f x.t = xs ∧ rightL (addL xs x) = true ∧ tot (addL xs x) = tot xs + x.t - x.f := by
  obtain ⟨hr, h0, h1, h2, hi⟩ := add_facts h
  obtain ⟨ha, hh⟩ := add_has h
  have hE := cut_zero ha h0 h1 h2
  obtain ⟨hc, hh2⟩ := cut_has hE
  refine ⟨hE, right_eq hc hr fun p t => ?_, ha, ?_⟩
  · rw [hh2, hh]
    constructor
    · rintro ⟨h3 | h3, h4⟩
      · exact h3
      · exact absurd ⟨h3.1, h3.2.1⟩ h4
    · exact fun h3 => ⟨.inl h3, in_none hi p t h3⟩
  · have hg1 : Good (xs ++ [x]) := good_append (right_good hr) ⟨fun y hy => by
        simp at hy; subst hy; exact ⟨h0, h1, h2⟩, by simp⟩ fun y hy z hz => by
        simp at hz; subst hz
        have hyo := (right_good hr).ok y hy
        have q1 := in_none hi (max y.f z.f) y.a
        have q2 : ¬ (y.f < z.t ∧ z.f < y.t) := fun ⟨a1, a2⟩ => q1 ⟨y, hy, by omega, by omega, rfl⟩ (by omega)
        unfold apartR; omega
    have := tot_same (right_good ha) hg1 fun p => by
      constructor
      · rintro ⟨t, ht⟩
        exact ⟨t, by rw [has_append, has_one]; exact (hh p t).1 ht⟩
      · rintro ⟨t, ht⟩
        rw [has_append, has_one] at ht
        exact ⟨t, (hh p t).2 ht⟩
    rw [this, tot_append]; simp [tot]; omega
theorem turn_facts {xs : List Rgn} {a b : Int} (h : turnE xs a b = 0) : rightL xs = true ∧ 0 ≤ a ∧ a < b ∧ b ≤ 64 ∧ ∀ p, a ≤ p → p < b → ∃ t, Has xs p t := by
  unfold turnE at h
  cases hr : rightL xs with
  | false => rw [hr] at h; simp at h
  | true =>
    cases hs : spanB a b with
    | false => rw [hr, hs] at h; simp at h
    | true =>
      obtain ⟨h1, h2, h3⟩ := span_iff.1 hs
      rw [hr, hs, if_neg (by simp), if_neg (by simp)] at h
      split at h
      · simp at h
      · exact ⟨rfl, h1, h2, h3, all_there (right_good hr) h1 h2 h3 (by omega)⟩
theorem turn_zero {xs : List Rgn} {a b : Int} (hr : rightL xs = true) (h0 : 0 ≤ a) (h1 : a < b) (h2 : b ≤ 64) (h : ∀ p, a ≤ p → p < b → ∃ t, Has xs p t) : turnE xs a b = 0 := by
  unfold turnE
  rw [hr, span_iff.2 ⟨h0, h1, h2⟩, if_neg (by simp), if_neg (by simp), if_neg]
  have hg1 : Good [(⟨a, b, default⟩ : Rgn)] := ⟨fun y hy => by simp at hy; subst hy; exact ⟨h0, h1, h2⟩, by simp⟩
  have := tot_same (good_in (right_good hr) (a := a) (b := b)) hg1 fun p => by
    constructor
    · rintro ⟨t, ht⟩
      have := (has_in.1 ht).2
      exact ⟨default, has_one.2 ⟨this.1, this.2, rfl⟩⟩
    · rintro ⟨t, ht⟩
      obtain ⟨q1, q2, _⟩ := has_one.1 ht
      simp only at q1 q2
      obtain ⟨s, hs⟩ := h p q1 q2
      exact ⟨s, has_in.2 ⟨hs, q1, q2⟩⟩
  rw [this]; simp [tot]
theorem turn_has {xs : List Rgn} {a b : Int} {f : Att → Att} (h : turnE xs a b = 0) : rightL (turnL xs a b f) = true ∧ ∀ p t, Has (turnL xs a b f) p t ↔ (Has xs p t ∧ ¬ (a ≤ p ∧ p < b)) ∨ (a ≤ p ∧ p < b ∧ ∃ s, Has xs p s ∧ f s = t) := by
  obtain ⟨hr, h0, h1, h2, _⟩ := turn_facts h
  unfold turnL
  rw [if_pos h]
  have hg := good_turn (f := f) (right_good hr) (a := a) (b := b) (by omega)
  refine ⟨norm_right hg, fun p t => (norm_has hg p t).trans ?_⟩
  rw [has_append, has_out (by omega), has_map]
  constructor
  · rintro (h | ⟨s, hs, e⟩)
    · exact .inl h
    · rw [has_in] at hs
      exact .inr ⟨hs.2.1, hs.2.2, s, hs.1, e⟩
  · rintro (h | ⟨q1, q2, s, hs, e⟩)
    · exact .inl h
    · exact .inr ⟨s, has_in.2 ⟨hs, q1, q2⟩, e⟩
theorem turn_same {xs : List Rgn} {a b : Int} {f : Att → Att} (h : turnE xs a b = 0) (p : Int) : (∃ t, Has (turnL xs a b f) p t) ↔ ∃ t, Has xs p t := by
  obtain ⟨_, hh⟩ := turn_has (f := f) h
  constructor
  · rintro ⟨t, ht⟩
    rcases (hh p t).1 ht with h1 | ⟨_, _, s, hs, _⟩
    · exact ⟨t, h1.1⟩
    · exact ⟨s, hs⟩
  · rintro ⟨t, ht⟩
    by_cases hp : a ≤ p ∧ p < b
    · exact ⟨f t, (hh p _).2 (.inr ⟨hp.1, hp.2, t, ht, rfl⟩)⟩
    · exact ⟨t, (hh p t).2 (.inl ⟨ht, hp⟩)⟩
theorem pages_law {xs : List Rgn} {a b : Int} {at_ : Att} (h : turnE xs a b = 0) (p : Int) : (at? xs p).isSome = (at? (turnL xs a b fun _ => at_) p).isSome ∧ tot xs = tot (turnL xs a b fun _ => at_) ∧ (a ≤ p → p < b → at? (turnL xs a b fun _ => at_) p = some at_) ∧ (¬ (a ≤ p ∧ p < b) → at? xs p = at? (turnL xs a b fun _ => at_) p) := by
  obtain ⟨hr, h0, h1, h2, hall⟩ := turn_facts h
  obtain ⟨ht, hh⟩ := turn_has (f := fun _ => at_) h
  have g1 := right_good hr
  have g2 := right_good ht
  have hs := turn_same (f := fun _ => at_) h
  refine ⟨?_, tot_same g1 g2 fun p => (hs p).symm, fun q1 q2 => ?_, fun hn => ?_⟩
  · rw [Bool.eq_iff_iff, Option.isSome_iff_exists, Option.isSome_iff_exists]
    constructor
    · rintro ⟨t, e⟩
      obtain ⟨s, e2⟩ := (hs p).2 ⟨t, (at_some g1 p t).1 e⟩
      exact ⟨s, (at_some g2 p s).2 e2⟩
    · rintro ⟨t, e⟩
      obtain ⟨s, e2⟩ := (hs p).1 ⟨t, (at_some g2 p t).1 e⟩
      exact ⟨s, (at_some g1 p s).2 e2⟩
  · obtain ⟨s, e⟩ := hall p q1 q2
    exact (at_some g2 p at_).2 ((hh p at_).2 (.inr ⟨q1, q2, s, e, rfl⟩))
  · cases e : at? xs p with
    | none =>
      symm; rw [at_none]; intro t ht
      rcases (hh p t).1 ht with h3 | ⟨q1, q2, _⟩
      · exact at_none.1 e t h3.1
      · exact hn ⟨q1, q2⟩
    | some t =>
      symm; rw [at_some g2, hh]
      exact .inl ⟨(at_some g1 p t).1 e, hn⟩
theorem once_turn {xs : List Rgn} {a b : Int} {f : Att → Att} (h : turnE xs a b = 0) (hf : ∀ s, f (f s) = f s) : turnE (turnL xs a b f) a b = 0 ∧ turnL (turnL xs a b f) a b f = turnL xs a b f := by
  obtain ⟨hr, h0, h1, h2, hall⟩ := turn_facts h
  obtain ⟨ht, hh⟩ := turn_has (f := f) h
  have hE := turn_zero ht h0 h1 h2 fun p q1 q2 => (turn_same h p).2 (hall p q1 q2)
  obtain ⟨ht2, hh2⟩ := turn_has (f := f) hE
  refine ⟨hE, right_eq ht2 ht fun p t => ?_⟩
  rw [hh2]
  constructor
  · rintro (h3 | ⟨q1, q2, s, hs, e⟩)
    · exact h3.1
    · rcases (hh p s).1 hs with h4 | ⟨_, _, u, hu, e2⟩
      · exact absurd ⟨q1, q2⟩ h4.2
      · exact (hh p t).2 (.inr ⟨q1, q2, u, hu, by rw [← e, ← e2, hf]⟩)
  · intro h3
    by_cases hp : a ≤ p ∧ p < b
    · rcases (hh p t).1 h3 with h4 | ⟨_, _, u, hu, e2⟩
      · exact absurd hp h4.2
      · exact .inr ⟨hp.1, hp.2, t, h3, by rw [← e2, hf]⟩
    · exact .inl ⟨h3, hp⟩
theorem once_cut {xs : List Rgn} {a b : Int} (h : cutE xs a b = 0) : cutE (cutL xs a b) a b = 0 ∧ cutL (cutL xs a b) a b = cutL xs a b := by
  obtain ⟨hr, h0, h1, h2⟩ := cut_facts h
  obtain ⟨hc, hh⟩ := cut_has h
  have hE := cut_zero hc h0 h1 h2
  obtain ⟨hc2, hh2⟩ := cut_has hE
  refine ⟨hE, right_eq hc2 hc fun p t => ?_⟩
  rw [hh2, hh]
  exact ⟨fun h => h.1, fun h => ⟨h, h.2⟩⟩
theorem once_apart {xs : List Rgn} {a b o e : Int} {f g : Att → Att} (h : turnE xs a b = 0) (h2 : turnE (turnL xs a b f) o e = 0) (ha : b ≤ o ∨ e ≤ a) : turnE xs o e = 0 ∧ turnE (turnL xs o e g) a b = 0 ∧ turnL (turnL xs a b f) o e g = turnL (turnL xs o e g) a b f := by
  obtain ⟨hr, p0, p1, p2, hall⟩ := turn_facts h
  obtain ⟨ht, hh⟩ := turn_has (f := f) h
  obtain ⟨_, q0, q1, q2, hal2⟩ := turn_facts h2
  obtain ⟨hu, hhu⟩ := turn_has (f := g) h2
  have h3 := turn_zero hr q0 q1 q2 fun p r1 r2 => (turn_same h p).1 (hal2 p r1 r2)
  obtain ⟨hv, hhv⟩ := turn_has (f := g) h3
  have h4 := turn_zero hv p0 p1 p2 fun p r1 r2 => (turn_same h3 p).2 (hall p r1 r2)
  obtain ⟨hw, hhw⟩ := turn_has (f := f) h4
  refine ⟨h3, h4, right_eq hu hw fun p t => ?_⟩
  rw [hhu, hhw]
  by_cases c1 : a ≤ p ∧ p < b
  · have c2 : ¬ (o ≤ p ∧ p < e) := by omega
    constructor
    · rintro (⟨r, _⟩ | ⟨r1, r2, _⟩)
      · rcases (hh p t).1 r with r | ⟨_, _, s, hs, e2⟩
        · exact absurd c1 r.2
        · exact .inr ⟨c1.1, c1.2, s, (hhv p s).2 (.inl ⟨hs, c2⟩), e2⟩
      · exact absurd ⟨r1, r2⟩ c2
    · rintro (⟨_, r⟩ | ⟨_, _, s, hs, e2⟩)
      · exact absurd c1 r
      · rcases (hhv p s).1 hs with r | ⟨r1, r2, _⟩
        · exact .inl ⟨(hh p t).2 (.inr ⟨c1.1, c1.2, s, r.1, e2⟩), c2⟩
        · exact absurd ⟨r1, r2⟩ c2
  · by_cases c2 : o ≤ p ∧ p < e
    · constructor
      · rintro (⟨_, r⟩ | ⟨_, _, s, hs, e2⟩)
        · exact absurd c2 r
        · rcases (hh p s).1 hs with r | ⟨r1, r2, _⟩
          · exact .inl ⟨(hhv p t).2 (.inr ⟨c2.1, c2.2, s, r.1, e2⟩), c1⟩
          · exact absurd ⟨r1, r2⟩ c1
      · rintro (⟨r, _⟩ | ⟨r1, r2, _⟩)
        · rcases (hhv p t).1 r with r | ⟨_, _, s, hs, e2⟩
          · exact absurd c2 r.2
          · exact .inr ⟨c2.1, c2.2, s, (hh p s).2 (.inl ⟨hs, c1⟩), e2⟩
        · exact absurd ⟨r1, r2⟩ c1
    · constructor
      · rintro (⟨r, _⟩ | ⟨r1, r2, _⟩)
        · rcases (hh p t).1 r with r | ⟨r1, r2, _⟩
          · exact .inl ⟨(hhv p t).2 (.inl ⟨r.1, c2⟩), c1⟩
          · exact absurd ⟨r1, r2⟩ c1
        · exact absurd ⟨r1, r2⟩ c2
      · rintro (⟨r, _⟩ | ⟨r1, r2, _⟩)
        · rcases (hhv p t).1 r with r | ⟨r1, r2, _⟩
          · exact .inl ⟨(hh p t).2 (.inl ⟨r.1, c1⟩), c2⟩
          · exact absurd ⟨r1, r2⟩ c2
        · exact absurd ⟨r1, r2⟩ c1
/-- A region set in its place. -/
def insR (x : Rgn) : List Rgn → List Rgn
  | [] => [x]
  | y :: l => if x.t < y.f then x :: y :: l else y :: insR x l
theorem insR_len (x : Rgn) : ∀ l, (insR x l).length = l.length + 1
  | [] => rfl
  | y :: l => by
    unfold insR; split
    · rfl
    · rw [List.length_cons, insR_len x l]; rfl
theorem insR_mem {x z : Rgn} : ∀ {l : List Rgn}, z ∈ insR x l ↔ z ∈ l ∨ z = x
  | [] => by simp [insR]
  | y :: l => by
    unfold insR; split
    · simp only [List.mem_cons]
      constructor
      · rintro (h | h | h)
        · exact .inr h
        · exact .inl (.inl h)
        · exact .inl (.inr h)
      · rintro ((h | h) | h)
        · exact .inr (.inl h)
        · exact .inr (.inr h)
        · exact .inl h
    · rw [List.mem_cons, insR_mem, List.mem_cons]
      constructor
      · rintro (h | h | h)
        · exact .inl (.inl h)
        · exact .inl (.inr h)
        · exact .inr h
      · rintro ((h | h) | h)
        · exact .inl h
        · exact .inr (.inl h)
        · exact .inr (.inr h)
theorem nextOk_gap {p x : Rgn} (h : p.t < x.f) : nextOk p x = true := by
  unfold nextOk
  have h1 : decide (x.f < p.t) = false := by rw [decide_eq_false_iff_not]; omega
  have h2 : (p.t == x.f) = false := by rw [beq_eq_false_iff_ne]; omega
  rw [h1, h2]; rfl
theorem insR_right {x : Rgn} (hx : okR x = true) : ∀ (l : List Rgn) (q : Option Rgn), rightG q l = true → (∀ y ∈ l, y.t < x.f ∨ x.t < y.f) → (∀ p, q = some p → p.t < x.f) → rightG q (insR x l) = true
  | [], q, _, _, hq => by
    unfold insR rightG
    rw [hx]
    cases q with
    | none => rfl
    | some p => simp [nextOk_gap (hq p rfl), rightG]
  | y :: l, q, h, hg, hq => by
    unfold rightG at h
    unfold insR
    split
    · rename_i hlt
      have hh : rightG (some x) (y :: l) = true := by
        unfold rightG
        rw [Bool.and_eq_true, Bool.and_eq_true] at h
        rw [h.1.1, h.2]; simp [nextOk_gap hlt]
      unfold rightG
      rw [hx, hh]
      cases q with
      | none => rfl
      | some p => simp [nextOk_gap (hq p rfl)]
    · rename_i hlt
      rw [Bool.and_eq_true] at h
      unfold rightG
      rw [h.1, insR_right hx l (some y) h.2 (fun z hz => hg z (List.mem_cons_of_mem _ hz)) (fun p hp => by
        cases hp
        rcases hg y List.mem_cons_self with h1 | h1
        · exact h1
        · exact absurd h1 hlt)]; rfl
theorem insR_has {x : Rgn} {l : List Rgn} {p : Int} {t : Att} : Has (insR x l) p t ↔ Has l p t ∨ (x.f ≤ p ∧ p < x.t ∧ x.a = t) := by
  unfold Has
  constructor
  · rintro ⟨z, hz, h⟩
    rcases insR_mem.1 hz with h1 | rfl
    · exact .inl ⟨z, h1, h⟩
    · exact .inr h
  · rintro (⟨z, hz, h⟩ | h)
    · exact ⟨z, insR_mem.2 (.inl hz), h⟩
    · exact ⟨x, insR_mem.2 (.inr rfl), h⟩
theorem free_iff {xs : List Rgn} (hg : Good xs) {p c : Int} : freeB xs p c = true ↔ ∀ q t, Has xs q t → ¬ (max (p - 1) 0 ≤ q ∧ q < min (p + c + 1) 64) := by
  unfold freeB
  rw [List.isEmpty_iff]
  exact ⟨fun h => in_none h, none_in hg⟩
theorem mem_all {xs : List Rgn} {c p : Int} : p ∈ allP xs c ↔ rightL xs = true ∧ 1 ≤ c ∧ 0 ≤ p ∧ p + c ≤ 64 ∧ freeB xs p c = true := by
  unfold allP
  split
  · rename_i h
    unfold upTo
    rw [List.mem_filter, List.mem_map]
    constructor
    · rintro ⟨⟨k, hk, rfl⟩, hf⟩
      rw [List.mem_range] at hk
      exact ⟨h.1, h.2, by simp, by simp; omega, hf⟩
    · rintro ⟨_, _, h3, h4, h5⟩
      exact ⟨⟨p.toNat, by rw [List.mem_range]; omega, by simp; omega⟩, h5⟩
  · rename_i h
    constructor
    · intro h1; cases h1
    · rintro ⟨h1, h2, _⟩; exact absurd ⟨h1, h2⟩ h
theorem less_one {xs : List Rgn} {c p : Int} (hc : 2 ≤ c) (h : p ∈ allP xs c) : p ∈ allP xs (c - 1) := by
  obtain ⟨h1, h2, h3, h4, h5⟩ := mem_all.1 h
  refine mem_all.2 ⟨h1, by omega, h3, by omega, ?_⟩
  rw [free_iff (right_good h1)] at h5 ⊢
  exact fun q t hq hh => h5 q t hq (by omega)
theorem less_cut {xs : List Rgn} {c p a b : Int} (hE : cutE xs a b = 0) (h : p ∈ allP xs c) : p ∈ allP (cutL xs a b) c := by
  obtain ⟨h1, h2, h3, h4, h5⟩ := mem_all.1 h
  obtain ⟨hc, hh⟩ := cut_has hE
  refine mem_all.2 ⟨hc, h2, h3, h4, ?_⟩
  rw [free_iff (right_good h1)] at h5
  rw [free_iff (right_good hc)]
  exact fun q t hq => h5 q t ((hh q t).1 hq).1
theorem guard_law {xs : List Rgn} {c p : Int} (h : p ∈ allP xs c) (at_ : Att) : addE xs ⟨p, p + c, at_⟩ = 0 ∧ (addL xs ⟨p, p + c, at_⟩).length = xs.length + 1 ∧ at? xs (p - 1) = none ∧ at? xs (p + c) = none := by
  obtain ⟨h1, h2, h3, h4, h5⟩ := mem_all.1 h
  have hg := right_good h1
  rw [free_iff hg] at h5
  have hok := hg.ok
  have hrange : ∀ q t, Has xs q t → 0 ≤ q ∧ q < 64 := by
    rintro q t ⟨y, hy, q1, q2, _⟩
    have := hok y hy
    omega
  have hE : addE xs ⟨p, p + c, at_⟩ = 0 := add_zero_ h1 h3 (by simp only; omega) h4 (none_in hg fun q t hq hh => by
    have := hrange q t hq
    simp only at hh
    exact h5 q t hq (by omega))
  obtain ⟨ha, hh⟩ := add_has hE
  have hgap : ∀ y ∈ xs, y.t < p ∨ p + c < y.f := fun y hy => by
    have h6 := hok y hy
    by_cases g1 : y.t < p
    · exact .inl g1
    · by_cases g2 : p + c < y.f
      · exact .inr g2
      · exact absurd (show max (p - 1) 0 ≤ max y.f (max (p - 1) 0) ∧ max y.f (max (p - 1) 0) < min (p + c + 1) 64 by omega) (h5 (max y.f (max (p - 1) 0)) y.a ⟨y, hy, by omega, by omega, rfl⟩)
  have hins : rightL (insR ⟨p, p + c, at_⟩ xs) = true := insR_right (by
    unfold okR
    simp; omega) xs none h1 hgap (fun p hp => by cases hp)
  have heq : addL xs ⟨p, p + c, at_⟩ = insR ⟨p, p + c, at_⟩ xs := right_eq ha hins fun q t => by rw [hh, insR_has]
  refine ⟨hE, by rw [heq, insR_len], at_none.2 fun t ht => ?_, at_none.2 fun t ht => ?_⟩
  · have := hrange _ t ht
    exact h5 _ t ht (by omega)
  · have := hrange _ t ht
    exact h5 _ t ht (by omega)
theorem chE_facts {xs : List Rgn} {c : Int} (h : chE xs c = 0) : rightL xs = true ∧ 1 ≤ c ∧ c ≤ 64 ∧ allP xs c ≠ [] := by
  unfold chE at h
  cases hr : rightL xs with
  | false => rw [hr] at h; simp at h
  | true =>
    rw [hr, if_neg (by simp)] at h
    split at h
    · simp at h
    · split at h
      · simp at h
      · rename_i h1 h2
        exact ⟨rfl, by omega, by omega, h2⟩
theorem idx_lt {al : List Int} (h : al ≠ []) (d : Int) : 0 ≤ idxC al d ∧ idxC al d < al.length := by
  have hl : 0 < al.length := List.length_pos_iff.2 h
  unfold idxC
  have h1 := Int.lt_tmod_of_pos d (show (0 : Int) < (al.length : Int) by omega)
  have h2 := Int.tmod_nonneg (a := d.tmod al.length + al.length) (al.length : Int) (by omega)
  have h3 := Int.tmod_lt_of_pos (d.tmod al.length + al.length) (show (0 : Int) < (al.length : Int) by omega)
  exact ⟨h2, h3⟩
theorem ch_mem {xs : List Rgn} {c d : Int} (h : chE xs c = 0) : chN xs c d ∈ allP xs c := by
  obtain ⟨_, _, _, hne⟩ := chE_facts h
  obtain ⟨i1, i2⟩ := idx_lt hne d
  unfold chN
  rw [if_pos h]
  have hl : (idxC (allP xs c) d).toNat < (allP xs c).length := by omega
  rw [List.getD_eq_getElem?_getD, List.getElem?_eq_getElem hl]
  exact List.getElem_mem _
theorem ch_each {xs : List Rgn} {c q : Int} {k : Nat} (h : chE xs c = 0) (hk : (allP xs c)[k]? = some q) : chN xs c k = q := by
  unfold chN
  rw [if_pos h]
  have hl := (List.getElem?_eq_some_iff.1 hk).1
  have : idxC (allP xs c) k = k := by
    unfold idxC
    have e1 : (k : Int).tmod (allP xs c).length = k := by rw [Int.tmod_eq_emod_of_nonneg (by omega), Int.emod_eq_of_lt (by omega) (by omega)]
    rw [e1, Int.tmod_eq_emod_of_nonneg (by omega), Int.add_emod_right, Int.emod_eq_of_lt (by omega) (by omega)]
  rw [this, List.getD_eq_getElem?_getD, Int.toNat_natCast, hk]; rfl
theorem ch_no {xs : List Rgn} {c d : Int} (h : chE xs c ≠ 0) : chN xs c d = 0 := if_neg h
end Go.Proofs.Ytnpmbjplmollkaa
