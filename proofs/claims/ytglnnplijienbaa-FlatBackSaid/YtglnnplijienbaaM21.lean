/- Several texts in one: Rgq, Rge, Fla. -/
import Derived.Test.YtglnnplijienbaaM16
import Derived.Test.YtglnnplijienbaaM20
import Derived.Test.YtglnnplijienbaaM3
import Derived.Test.YtglnnplijienbaaM5
/- Regions in plain Lean: what Add, Cut and Turn have. -/
namespace Go.Proofs.Ytglnnplijienbaa
set_option linter.unusedVariables false
def at? (l : List Rgn) (p : Int) : Option Att := (l.find? fun x => decide (x.f ≤ p) && decide (p < x.t)).map (·.a)
theorem at_some {l : List Rgn} (hg : Good l) (p : Int) (t : Att) : at? l p = some t ↔ Has l p t := by
  unfold at?
  constructor
  · intro h
    obtain ⟨x, hx, rfl⟩ := Option.map_eq_some_iff.1 h
    have h1 := List.find?_some hx
    simp at h1
    exact ⟨x, List.mem_of_find?_eq_some hx, h1.1, h1.2, rfl⟩
  · intro h
    cases hf : l.find? (fun x => decide (x.f ≤ p) && decide (p < x.t)) with
    | none =>
      obtain ⟨x, hx, h1, h2, _⟩ := h
      have := List.find?_eq_none.1 hf x hx
      simp [h1, h2] at this
    | some x =>
      have h1 := List.find?_some hf
      simp at h1
      have := hg.fun ⟨x, List.mem_of_find?_eq_some hf, h1.1, h1.2, rfl⟩ h
      rw [← this]; rfl
theorem at_none {l : List Rgn} {p : Int} : at? l p = none ↔ ∀ t, ¬ Has l p t := by
  unfold at?
  rw [Option.map_eq_none_iff, List.find?_eq_none]
  constructor
  · rintro h t ⟨x, hx, h1, h2, _⟩
    have := h x hx
    simp [h1, h2] at this
  · intro h x hx h2
    simp at h2
    exact h x.a ⟨x, hx, h2.1, h2.2, rfl⟩
def spanB (a b : Int) : Bool := decide (0 ≤ a) && decide (a < b) && decide (b ≤ 64)
theorem span_iff {a b : Int} : spanB a b = true ↔ 0 ≤ a ∧ a < b ∧ b ≤ 64 := by simp [spanB, and_assoc]
def cutE (xs : List Rgn) (a b : Int) : Int := if rightL xs = false then 1 else if spanB a b = false then 2 else 0
def cutL (xs : List Rgn) (a b : Int) : List Rgn := if cutE xs a b = 0 then norm (outL a b xs) else []
def addE (xs : List Rgn) (x : Rgn) : Int := if rightL xs = false then 1 else if spanB x.f x.t = false then 2 else if inL x.f x.t xs = [] then 0 else 7
def addL (xs : List Rgn) (x : Rgn) : List Rgn := if addE xs x = 0 then norm (outL x.f x.t xs ++ [x]) else []
def turnE (xs : List Rgn) (a b : Int) : Int := if rightL xs = false then 1 else if spanB a b = false then 2 else if tot (inL a b xs) < b - a then 3 else 0
def turnL (xs : List Rgn) (a b : Int) (f : Att → Att) : List Rgn := if turnE xs a b = 0 then norm (outL a b xs ++ (inL a b xs).map (turnR f)) else []
theorem norm_len (xs : List Rgn) : (norm xs).length ≤ xs.length := by
  unfold norm
  exact Nat.le_trans (joinL_len _) (by rw [List.length_mergeSort]; exact Nat.le_refl _)
theorem cutL_len (xs : List Rgn) (a b : Int) : (cutL xs a b).length ≤ 1000 := by
  unfold cutL
  split
  · rename_i h
    have h1 := norm_len (outL a b xs)
    have h2 := outL_len a b xs
    have h3 : rightL xs = true := by
      unfold cutE at h
      cases hr : rightL xs with
      | true => rfl
      | false => rw [hr] at h; simp at h
    have := rightL_len h3
    omega
  · simp

theorem cut_facts {xs : List Rgn} {a b : Int} (h : cutE xs a b = 0) : rightL xs = true ∧ 0 ≤ a ∧ a < b ∧ b ≤ 64 := by
  unfold cutE at h
  cases hr : rightL xs with
  | false => rw [hr] at h; simp at h
  | true =>
    cases hs : spanB a b with
    | false => rw [hr, hs] at h; simp at h
    | true => exact ⟨rfl, span_iff.1 hs⟩
theorem cut_zero {xs : List Rgn} {a b : Int} (hr : rightL xs = true) (h0 : 0 ≤ a) (h1 : a < b) (h2 : b ≤ 64) : cutE xs a b = 0 := by
  unfold cutE
  rw [hr, span_iff.2 ⟨h0, h1, h2⟩]; rfl
theorem cut_has {xs : List Rgn} {a b : Int} (h : cutE xs a b = 0) : rightL (cutL xs a b) = true ∧ ∀ p t, Has (cutL xs a b) p t ↔ Has xs p t ∧ ¬ (a ≤ p ∧ p < b) := by
  obtain ⟨hr, h0, h1, h2⟩ := cut_facts h
  unfold cutL
  rw [if_pos h]
  have hg := good_out (right_good hr) (a := a) (b := b) (by omega)
  exact ⟨norm_right hg, fun p t => (norm_has hg p t).trans (has_out (by omega))⟩
theorem add_facts {xs : List Rgn} {x : Rgn} (h : addE xs x = 0) : rightL xs = true ∧ 0 ≤ x.f ∧ x.f < x.t ∧ x.t ≤ 64 ∧ inL x.f x.t xs = [] := by
  unfold addE at h
  cases hr : rightL xs with
  | false => rw [hr] at h; simp at h
  | true =>
    cases hs : spanB x.f x.t with
    | false => rw [hr, hs] at h; simp at h
    | true =>
      obtain ⟨h1, h2, h3⟩ := span_iff.1 hs
      by_cases hi : inL x.f x.t xs = []
      · exact ⟨rfl, h1, h2, h3, hi⟩
      · rw [hr, hs, if_neg (by simp), if_neg (by simp), if_neg hi] at h; simp at h
theorem add_zero_ {xs : List Rgn} {x : Rgn} (hr : rightL xs = true) (h0 : 0 ≤ x.f) (h1 : x.f < x.t) (h2 : x.t ≤ 64) (hi : inL x.f x.t xs = []) : addE xs x = 0 := by
  unfold addE
  rw [hr, span_iff.2 ⟨h0, h1, h2⟩, if_pos hi]; rfl
theorem in_none {xs : List Rgn} {a b : Int} (h : inL a b xs = []) (p : Int) (t : Att) (hp : Has xs p t) : ¬ (a ≤ p ∧ p < b) := fun hh => by
  have := (has_in (a := a) (b := b)).2 ⟨hp, hh⟩
  rw [h] at this; exact has_nil this
theorem none_in {xs : List Rgn} {a b : Int} (hg : Good xs) (h : ∀ p t, Has xs p t → ¬ (a ≤ p ∧ p < b)) : inL a b xs = [] := by
  cases hl : inL a b xs with
  | nil => rfl
  | cons y l =>
    exfalso
    have hy : y ∈ inL a b xs := by rw [hl]; exact List.mem_cons_self
    have ho := (good_in hg (a := a) (b := b)).ok y hy
    have := (has_in (l := xs) (a := a) (b := b) (p := y.f) (t := y.a)).1 ⟨y, hy, Int.le_refl _, ho.2.1, rfl⟩
    exact h y.f y.a this.1 this.2
theorem add_has {xs : List Rgn} {x : Rgn} (h : addE xs x = 0) : rightL (addL xs x) = true ∧ ∀ p t, Has (addL xs x) p t ↔ Has xs p t ∨ (x.f ≤ p ∧ p < x.t ∧ x.a = t) := by
  obtain ⟨hr, h0, h1, h2, hi⟩ := add_facts h
  unfold addL
  rw [if_pos h]
  have hg := good_add (right_good hr) h0 h1 h2
  refine ⟨norm_right hg, fun p t => (norm_has hg p t).trans ?_⟩
  rw [has_append, has_out (by omega), has_one]
  constructor
  · rintro (h | h)
    · exact .inl h.1
    · exact .inr h
  · rintro (h | h)
    · exact .inl ⟨h, in_none hi p t h⟩
    · exact .inr h
theorem back_law {xs : List Rgn} {x : Rgn} (h : addE xs x = 0) : cutE (addL xs x) x.f x.t = 0 ∧ cutL (addL xs x) x.f x.t = xs ∧ rightL (addL xs x) = true ∧ tot (addL xs x) = tot xs + x.t - x.f := by
  obtain ⟨hr, h0, h1, h2, hi⟩ := add_facts h
  obtain ⟨ha, hh⟩ := add_has h
  have hE := cut_zero ha h0 h1 h2
  obtain ⟨hc, hh2⟩ := cut_has hE
  refine ⟨hE, right_eq hc hr fun p t => ?_, ha, ?_⟩
  · rw [hh2, hh]
    constructor
    · rintro ⟨h3 | h3, h4⟩
      · exact h3
      · exact absurd ⟨h3.1, h3.2.1⟩ h4
    · exact fun h3 => ⟨.inl h3, in_none hi p t h3⟩
  · have hg1 : Good (xs ++ [x]) := good_append (right_good hr) ⟨fun y hy => by
        simp at hy; subst hy; exact ⟨h0, h1, h2⟩, by simp⟩ fun y hy z hz => by
        simp at hz; subst hz
        have hyo := (right_good hr).ok y hy
        have q1 := in_none hi (max y.f z.f) y.a
        have q2 : ¬ (y.f < z.t ∧ z.f < y.t) := fun ⟨a1, a2⟩ => q1 ⟨y, hy, by omega, by omega, rfl⟩ (by omega)
        unfold apartR; omega
    have := tot_same (right_good ha) hg1 fun p => by
      constructor
      · rintro ⟨t, ht⟩
        exact ⟨t, by rw [has_append, has_one]; exact (hh p t).1 ht⟩
      · rintro ⟨t, ht⟩
        rw [has_append, has_one] at ht
        exact ⟨t, (hh p t).2 ht⟩
    rw [this, tot_append]; simp [tot]; omega
theorem turn_facts {xs : List Rgn} {a b : Int} (h : turnE xs a b = 0) : rightL xs = true ∧ 0 ≤ a ∧ a < b ∧ b ≤ 64 ∧ ∀ p, a ≤ p → p < b → ∃ t, Has xs p t := by
  unfold turnE at h
  cases hr : rightL xs with
  | false => rw [hr] at h; simp at h
  | true =>
    cases hs : spanB a b with
    | false => rw [hr, hs] at h; simp at h
    | true =>
      obtain ⟨h1, h2, h3⟩ := span_iff.1 hs
      rw [hr, hs, if_neg (by simp), if_neg (by simp)] at h
      split at h
      · simp at h
      · exact ⟨rfl, h1, h2, h3, all_there (right_good hr) h1 h2 h3 (by omega)⟩
theorem turn_zero {xs : List Rgn} {a b : Int} (hr : rightL xs = true) (h0 : 0 ≤ a) (h1 : a < b) (h2 : b ≤ 64) (h : ∀ p, a ≤ p → p < b → ∃ t, Has xs p t) : turnE xs a b = 0 := by
  unfold turnE
  rw [hr, span_iff.2 ⟨h0, h1, h2⟩, if_neg (by simp), if_neg (by simp), if_neg]
  have hg1 : Good [(⟨a, b, default⟩ : Rgn)] := ⟨fun y hy => by simp at hy; subst hy; exact ⟨h0, h1, h2⟩, by simp⟩
  have := tot_same (good_in (right_good hr) (a := a) (b := b)) hg1 fun p => by
    constructor
    · rintro ⟨t, ht⟩
      have := (has_in.1 ht).2
      exact ⟨default, has_one.2 ⟨this.1, this.2, rfl⟩⟩
    · rintro ⟨t, ht⟩
      obtain ⟨q1, q2, _⟩ := has_one.1 ht
      simp only at q1 q2
      obtain ⟨s, hs⟩ := h p q1 q2
      exact ⟨s, has_in.2 ⟨hs, q1, q2⟩⟩
  rw [this]; simp [tot]
theorem turn_has {xs : List Rgn} {a b : Int} {f : Att → Att} (h : turnE xs a b = 0) : rightL (turnL xs a b f) = true ∧ ∀ p t, Has (turnL xs a b f) p t ↔ (Has xs p t ∧ ¬ (a ≤ p ∧ p < b)) ∨ (a ≤ p ∧ p < b ∧ ∃ s, Has xs p s ∧ f s = t) := by
  obtain ⟨hr, h0, h1, h2, _⟩ := turn_facts h
  unfold turnL
  rw [if_pos h]
  have hg := good_turn (f := f) (right_good hr) (a := a) (b := b) (by omega)
  refine ⟨norm_right hg, fun p t => (norm_has hg p t).trans ?_⟩
  rw [has_append, has_out (by omega), has_map]
  constructor
  · rintro (h | ⟨s, hs, e⟩)
    · exact .inl h
    · rw [has_in] at hs
      exact .inr ⟨hs.2.1, hs.2.2, s, hs.1, e⟩
  · rintro (h | ⟨q1, q2, s, hs, e⟩)
    · exact .inl h
    · exact .inr ⟨s, has_in.2 ⟨hs, q1, q2⟩, e⟩
theorem turn_same {xs : List Rgn} {a b : Int} {f : Att → Att} (h : turnE xs a b = 0) (p : Int) : (∃ t, Has (turnL xs a b f) p t) ↔ ∃ t, Has xs p t := by
  obtain ⟨_, hh⟩ := turn_has (f := f) h
  constructor
  · rintro ⟨t, ht⟩
    rcases (hh p t).1 ht with h1 | ⟨_, _, s, hs, _⟩
    · exact ⟨t, h1.1⟩
    · exact ⟨s, hs⟩
  · rintro ⟨t, ht⟩
    by_cases hp : a ≤ p ∧ p < b
    · exact ⟨f t, (hh p _).2 (.inr ⟨hp.1, hp.2, t, ht, rfl⟩)⟩
    · exact ⟨t, (hh p t).2 (.inl ⟨ht, hp⟩)⟩
theorem pages_law {xs : List Rgn} {a b : Int} {at_ : Att} (h : turnE xs a b = 0) (p : Int) : (at? xs p).isSome = (at? (turnL xs a b fun _ => at_) p).isSome ∧ tot xs = tot (turnL xs a b fun _ => at_) ∧ (a ≤ p → p < b → at? (turnL xs a b fun _ => at_) p = some at_) ∧ (¬ (a ≤ p ∧ p < b) → at? xs p = at? (turnL xs a b fun _ => at_) p) := by
  obtain ⟨hr, h0, h1, h2, hall⟩ := turn_facts h
  obtain ⟨ht, hh⟩ := turn_has (f := fun _ => at_) h
  have g1 := right_good hr
  have g2 := right_good ht
  have hs := turn_same (f := fun _ => at_) h
  refine ⟨?_, tot_same g1 g2 fun p => (hs p).symm, fun q1 q2 => ?_, fun hn => ?_⟩
  · rw [Bool.eq_iff_iff, Option.isSome_iff_exists, Option.isSome_iff_exists]
    constructor
    · rintro ⟨t, e⟩
      obtain ⟨s, e2⟩ := (hs p).2 ⟨t, (at_some g1 p t).1 e⟩
      exact ⟨s, (at_some g2 p s).2 e2⟩
    · rintro ⟨t, e⟩
      obtain ⟨s, e2⟩ := (hs p).1 ⟨t, (at_some g2 p t).1 e⟩
      exact ⟨s, (at_some g1 p s).2 e2⟩
  · obtain ⟨s, e⟩ := hall p q1 q2
    exact (at_some g2 p at_).2 ((hh p at_).2 (.inr ⟨q1, q2, s, e, rfl⟩))
  · cases e : at? xs p with
    | none =>
      symm; rw [at_none]; intro t ht
      rcases (hh p t).1 ht with h3 | ⟨q1, q2, _⟩
      · exact at_none.1 e t h3.1
      · exact hn ⟨q1, q2⟩
    | some t =>
      symm; rw [at_some g2, hh]
      exact .inl ⟨(at_some g1 p t).1 e, hn⟩
theorem once_turn {xs : List Rgn} {a b : Int} {f : Att → Att} (h : turnE xs a b = 0) (hf : ∀ s, f (f s) = f s) : turnE (turnL xs a b f) a b = 0 ∧ turnL (turnL xs a b f) a b f = turnL xs a b f := by
  obtain ⟨hr, h0, h1, h2, hall⟩ := turn_facts h
  obtain ⟨ht, hh⟩ := turn_has (f := f) h
  have hE := turn_zero ht h0 h1 h2 fun p q1 q2 => (turn_same h p).2 (hall p q1 q2)
  obtain ⟨ht2, hh2⟩ := turn_has (f := f) hE
  refine ⟨hE, right_eq ht2 ht fun p t => ?_⟩
  rw [hh2]
  constructor
  · rintro (h3 | ⟨q1, q2, s, hs, e⟩)
    · exact h3.1
    · rcases (hh p s).1 hs with h4 | ⟨_, _, u, hu, e2⟩
      · exact absurd ⟨q1, q2⟩ h4.2
      · exact (hh p t).2 (.inr ⟨q1, q2, u, hu, by rw [← e, ← e2, hf]⟩)
  · intro h3
    by_cases hp : a ≤ p ∧ p < b
    · rcases (hh p t).1 h3 with h4 | ⟨_, _, u, hu, e2⟩
      · exact absurd hp h4.2
      · exact .inr ⟨hp.1, hp.2, t, h3, by rw [← e2, hf]⟩
    · exact .inl ⟨h3, hp⟩
theorem once_cut {xs : List Rgn} {a b : Int} (h : cutE xs a b = 0) : cutE (cutL xs a b) a b = 0 ∧ cutL (cutL xs a b) a b = cutL xs a b := by
  obtain ⟨hr, h0, h1, h2⟩ := cut_facts h
  obtain ⟨hc, hh⟩ := cut_has h
  have hE := cut_zero hc h0 h1 h2
  obtain ⟨hc2, hh2⟩ := cut_has hE
  refine ⟨hE, right_eq hc2 hc fun p t => ?_⟩
  rw [hh2, hh]
  exact ⟨fun h => h.1, fun h => ⟨h, h.2⟩⟩
theorem once_apart {xs : List Rgn} {a b o e : Int} {f g : Att → Att} (h : turnE xs a b = 0) (h2 : turnE (turnL xs a b f) o e = 0) (ha : b ≤ o ∨ e ≤ a) : turnE xs o e = 0 ∧ turnE (turnL xs o e g) a b = 0 ∧ turnL (turnL xs a b f) o e g = turnL (turnL xs o e g) a b f := by
  obtain ⟨hr, p0, p1, p2, hall⟩ := turn_facts h
  obtain ⟨ht, hh⟩ := turn_has (f := f) h
  obtain ⟨_, q0, q1, q2, hal2⟩ := turn_facts h2
  obtain ⟨hu, hhu⟩ := turn_has (f := g) h2
  have h3 := turn_zero hr q0 q1 q2 fun p r1 r2 => (turn_same h p).1 (hal2 p r1 r2)
  obtain ⟨hv, hhv⟩ := turn_has (f := g) h3
  have h4 := turn_zero hv p0 p1 p2 fun p r1 r2 => (turn_same h3 p).2 (hall p r1 r2)
  obtain ⟨hw, hhw⟩ := turn_has (f := f) h4
  refine ⟨h3, h4, right_eq hu hw fun p t => ?_⟩
  rw [hhu, hhw]
  by_cases c1 : a ≤ p ∧ p < b
  · have c2 : ¬ (o ≤ p ∧ p < e) := by omega
    constructor
    · rintro (⟨r, _⟩ | ⟨r1, r2, _⟩)
      · rcases (hh p t).1 r with r | ⟨_, _, s, hs, e2⟩
        · exact absurd c1 r.2
        · exact .inr ⟨c1.1, c1.2, s, (hhv p s).2 (.inl ⟨hs, c2⟩), e2⟩
      · exact absurd ⟨r1, r2⟩ c2
    · rintro (⟨_, r⟩ | ⟨_, _, s, hs, e2⟩)
      · exact absurd c1 r
      · rcases (hhv p s).1 hs with r | ⟨r1, r2, _⟩
        · exact .inl ⟨(hh p t).2 (.inr ⟨c1.1, c1.2, s, r.1, e2⟩), c2⟩
        · exact absurd ⟨r1, r2⟩ c2
  · by_cases c2 : o ≤ p ∧ p < e
    · constructor
      · rintro (⟨_, r⟩ | ⟨_, _, s, hs, e2⟩)
        · exact absurd c2 r
        · rcases (hh p s).1 hs with r | ⟨r1, r2, _⟩
          · exact .inl ⟨(hhv p t).2 (.inr ⟨c2.1, c2.2, s, r.1, e2⟩), c1⟩
          · exact absurd ⟨r1, r2⟩ c1
      · rintro (⟨r, _⟩ | ⟨r1, r2, _⟩)
        · rcases (hhv p t).1 r with r | ⟨_, _, s, hs, e2⟩
          · exact absurd c2 r.2
          · exact .inr ⟨c2.1, c2.2, s, (hh p s).2 (.inl ⟨hs, c1⟩), e2⟩
        · exact absurd ⟨r1, r2⟩ c1
    · constructor
      · rintro (⟨r, _⟩ | ⟨r1, r2, _⟩)
        · rcases (hh p t).1 r with r | ⟨r1, r2, _⟩
          · exact .inl ⟨(hhv p t).2 (.inl ⟨r.1, c2⟩), c1⟩
          · exact absurd ⟨r1, r2⟩ c1
        · exact absurd ⟨r1, r2⟩ c2
      · rintro (⟨r, _⟩ | ⟨r1, r2, _⟩)
        · rcases (hhv p t).1 r with r | ⟨r1, r2, _⟩
          · exact .inl ⟨(hh p t).2 (.inl ⟨r.1, c1⟩), c2⟩
          · exact absurd ⟨r1, r2⟩ c2
        · exact absurd ⟨r1, r2⟩ c1
/-- A region set in its place. -/
def insR (x : Rgn) : List Rgn → List Rgn
  | [] => [x]
  | y :: l => if x.t < y.f then x :: y :: l else y :: insR x l
theorem insR_len (x : Rgn) : ∀ l, (insR x l).length = l.length + 1
  | [] => rfl
  | y :: l => by
    unfold insR; split
    · rfl
    · rw [List.length_cons, insR_len x l]; rfl
theorem insR_mem {x z : Rgn} : ∀ {l : List Rgn}, z ∈ insR x l ↔ z ∈ l ∨ z = x
  | [] => by simp [insR]
  | y :: l => by
    unfold insR; split
    · simp only [List.mem_cons]
      constructor
      · rintro (h | h | h)
        · exact .inr h
        · exact .inl (.inl h)
        · exact .inl (.inr h)
      · rintro ((h | h) | h)
        · exact .inr (.inl h)
        · exact .inr (.inr h)
        · exact .inl h
    · rw [List.mem_cons, insR_mem, List.mem_cons]
      constructor
      · rintro (h | h | h)
        · exact .inl (.inl h)
        · exact .inl (.inr h)
        · exact .inr h
      · rintro ((h | h) | h)
        · exact .inl h
        · exact .inr (.inl h)
        · exact .inr (.inr h)
theorem nextOk_gap {p x : Rgn} (h : p.t < x.f) : nextOk p x = true := by
  unfold nextOk
  have h1 : decide (x.f < p.t) = false := by rw [decide_eq_false_iff_not]; omega
  have h2 : (p.t == x.f) = false := by rw [beq_eq_false_iff_ne]; omega
  rw [h1, h2]; rfl
theorem insR_right {x : Rgn} (hx : okR x = true) : ∀ (l : List Rgn) (q : Option Rgn), rightG q l = true → (∀ y ∈ l, y.t < x.f ∨ x.t < y.f) → (∀ p, q = some p → p.t < x.f) → rightG q (insR x l) = true
  | [], q, _, _, hq => by
    unfold insR rightG
    rw [hx]
    cases q with
    | none => rfl
    | some p => simp [nextOk_gap (hq p rfl), rightG]
  | y :: l, q, h, hg, hq => by
    unfold rightG at h
    unfold insR
    split
    · rename_i hlt
      have hh : rightG (some x) (y :: l) = true := by
        unfold rightG
        rw [Bool.and_eq_true, Bool.and_eq_true] at h
        rw [h.1.1, h.2]; simp [nextOk_gap hlt]
      unfold rightG
      rw [hx, hh]
      cases q with
      | none => rfl
      | some p => simp [nextOk_gap (hq p rfl)]
    · rename_i hlt
      rw [Bool.and_eq_true] at h
      unfold rightG
      rw [h.1, insR_right hx l (some y) h.2 (fun z hz => hg z (List.mem_cons_of_mem _ hz)) (fun p hp => by
        cases hp
        rcases hg y List.mem_cons_self with h1 | h1
        · exact h1
        · exact absurd h1 hlt)]; rfl
theorem insR_has {x : Rgn} {l : List Rgn} {p : Int} {t : Att} : Has (insR x l) p t ↔ Has l p t ∨ (x.f ≤ p ∧ p < x.t ∧ x.a = t) := by
  unfold Has
  constructor
  · rintro ⟨z, hz, h⟩
    rcases insR_mem.1 hz with h1 | rfl
    · exact .inl ⟨z, h1, h⟩
    · exact .inr h
  · rintro (⟨z, hz, h⟩ | h)
    · exact ⟨z, insR_mem.2 (.inl hz), h⟩
    · exact ⟨x, insR_mem.2 (.inr rfl), h⟩
theorem free_iff {xs : List Rgn} (hg : Good xs) {p c : Int} : freeB xs p c = true ↔ ∀ q t, Has xs q t → ¬ (max (p - 1) 0 ≤ q ∧ q < min (p + c + 1) 64) := by
  unfold freeB
  rw [List.isEmpty_iff]
  exact ⟨fun h => in_none h, none_in hg⟩
theorem mem_all {xs : List Rgn} {c p : Int} : p ∈ allP xs c ↔ rightL xs = true ∧ 1 ≤ c ∧ 0 ≤ p ∧ p + c ≤ 64 ∧ freeB xs p c = true := by
  unfold allP
  split
  · rename_i h
    unfold upTo
    rw [List.mem_filter, List.mem_map]
    constructor
    · rintro ⟨⟨k, hk, rfl⟩, hf⟩
      rw [List.mem_range] at hk
      exact ⟨h.1, h.2, by simp, by simp; omega, hf⟩
    · rintro ⟨_, _, h3, h4, h5⟩
      exact ⟨⟨p.toNat, by rw [List.mem_range]; omega, by simp; omega⟩, h5⟩
  · rename_i h
    constructor
    · intro h1; cases h1
    · rintro ⟨h1, h2, _⟩; exact absurd ⟨h1, h2⟩ h
theorem less_one {xs : List Rgn} {c p : Int} (hc : 2 ≤ c) (h : p ∈ allP xs c) : p ∈ allP xs (c - 1) := by
  obtain ⟨h1, h2, h3, h4, h5⟩ := mem_all.1 h
  refine mem_all.2 ⟨h1, by omega, h3, by omega, ?_⟩
  rw [free_iff (right_good h1)] at h5 ⊢
  exact fun q t hq hh => h5 q t hq (by omega)
theorem less_cut {xs : List Rgn} {c p a b : Int} (hE : cutE xs a b = 0) (h : p ∈ allP xs c) : p ∈ allP (cutL xs a b) c := by
  obtain ⟨h1, h2, h3, h4, h5⟩ := mem_all.1 h
  obtain ⟨hc, hh⟩ := cut_has hE
  refine mem_all.2 ⟨hc, h2, h3, h4, ?_⟩
  rw [free_iff (right_good h1)] at h5
  rw [free_iff (right_good hc)]
  exact fun q t hq => h5 q t ((hh q t).1 hq).1
theorem guard_law {xs : List Rgn} {c p : Int} (h : p ∈ allP xs c) (at_ : Att) : addE xs ⟨p, p + c, at_⟩ = 0 ∧ (addL xs ⟨p, p + c, at_⟩).length = xs.length + 1 ∧ at? xs (p - 1) = none ∧ at? xs (p + c) = none := by
  obtain ⟨h1, h2, h3, h4, h5⟩ := mem_all.1 h
  have hg := right_good h1
  rw [free_iff hg] at h5
  have hok := hg.ok
  have hrange : ∀ q t, Has xs q t → 0 ≤ q ∧ q < 64 := by
    rintro q t ⟨y, hy, q1, q2, _⟩
    have := hok y hy
    omega
  have hE : addE xs ⟨p, p + c, at_⟩ = 0 := add_zero_ h1 h3 (by simp only; omega) h4 (none_in hg fun q t hq hh => by
    have := hrange q t hq
    simp only at hh
    exact h5 q t hq (by omega))
  obtain ⟨ha, hh⟩ := add_has hE
  have hgap : ∀ y ∈ xs, y.t < p ∨ p + c < y.f := fun y hy => by
    have h6 := hok y hy
    by_cases g1 : y.t < p
    · exact .inl g1
    · by_cases g2 : p + c < y.f
      · exact .inr g2
      · exact absurd (show max (p - 1) 0 ≤ max y.f (max (p - 1) 0) ∧ max y.f (max (p - 1) 0) < min (p + c + 1) 64 by omega) (h5 (max y.f (max (p - 1) 0)) y.a ⟨y, hy, by omega, by omega, rfl⟩)
  have hins : rightL (insR ⟨p, p + c, at_⟩ xs) = true := insR_right (by
    unfold okR
    simp; omega) xs none h1 hgap (fun p hp => by cases hp)
  have heq : addL xs ⟨p, p + c, at_⟩ = insR ⟨p, p + c, at_⟩ xs := right_eq ha hins fun q t => by rw [hh, insR_has]
  refine ⟨hE, by rw [heq, insR_len], at_none.2 fun t ht => ?_, at_none.2 fun t ht => ?_⟩
  · have := hrange _ t ht
    exact h5 _ t ht (by omega)
  · have := hrange _ t ht
    exact h5 _ t ht (by omega)
theorem chE_facts {xs : List Rgn} {c : Int} (h : chE xs c = 0) : rightL xs = true ∧ 1 ≤ c ∧ c ≤ 64 ∧ allP xs c ≠ [] := by
  unfold chE at h
  cases hr : rightL xs with
  | false => rw [hr] at h; simp at h
  | true =>
    rw [hr, if_neg (by simp)] at h
    split at h
    · simp at h
    · split at h
      · simp at h
      · rename_i h1 h2
        exact ⟨rfl, by omega, by omega, h2⟩
theorem idx_lt {al : List Int} (h : al ≠ []) (d : Int) : 0 ≤ idxC al d ∧ idxC al d < al.length := by
  have hl : 0 < al.length := List.length_pos_iff.2 h
  unfold idxC
  have h1 := Int.lt_tmod_of_pos d (show (0 : Int) < (al.length : Int) by omega)
  have h2 := Int.tmod_nonneg (a := d.tmod al.length + al.length) (al.length : Int) (by omega)
  have h3 := Int.tmod_lt_of_pos (d.tmod al.length + al.length) (show (0 : Int) < (al.length : Int) by omega)
  exact ⟨h2, h3⟩
theorem ch_mem {xs : List Rgn} {c d : Int} (h : chE xs c = 0) : chN xs c d ∈ allP xs c := by
  obtain ⟨_, _, _, hne⟩ := chE_facts h
  obtain ⟨i1, i2⟩ := idx_lt hne d
  unfold chN
  rw [if_pos h]
  have hl : (idxC (allP xs c) d).toNat < (allP xs c).length := by omega
  rw [List.getD_eq_getElem?_getD, List.getElem?_eq_getElem hl]
  exact List.getElem_mem _
theorem ch_each {xs : List Rgn} {c q : Int} {k : Nat} (h : chE xs c = 0) (hk : (allP xs c)[k]? = some q) : chN xs c k = q := by
  unfold chN
  rw [if_pos h]
  have hl := (List.getElem?_eq_some_iff.1 hk).1
  have : idxC (allP xs c) k = k := by
    unfold idxC
    have e1 : (k : Int).tmod (allP xs c).length = k := by rw [Int.tmod_eq_emod_of_nonneg (by omega), Int.emod_eq_of_lt (by omega) (by omega)]
    rw [e1, Int.tmod_eq_emod_of_nonneg (by omega), Int.add_emod_right, Int.emod_eq_of_lt (by omega) (by omega)]
  rw [this, List.getD_eq_getElem?_getD, Int.toNat_natCast, hk]; rfl
theorem ch_no {xs : List Rgn} {c d : Int} (h : chE xs c ≠ 0) : chN xs c d = 0 := if_neg h
end Go.Proofs.Ytglnnplijienbaa

/- region.Find, Count, Add, Cut. -/

namespace Go.Proofs.Ytglnnplijienbaa
open Go.ChangeShapes Go.WideShapes Go.ChangeAt Go.RowKit Go.Joins
set_option linter.unusedVariables false
theorem find_skip {l : List Rgn} {p : Int} {m : Nat} (h : ∀ (j : Nat) (x : Rgn), j < m → l[j]? = some x → ¬ (x.f ≤ p ∧ p < x.t)) : ∀ x, l[m]? = some x → x.f ≤ p → p < x.t → at? l p = some x.a := by
  intro x hx h1 h2
  unfold at?
  have e : l = l.take m ++ x :: l.drop (m + 1) := by
    have hl := (List.getElem?_eq_some_iff.1 hx).1
    rw [← (List.getElem?_eq_some_iff.1 hx).2, ← List.drop_eq_getElem_cons hl, List.take_append_drop]
  rw [e, List.find?_append, List.find?_eq_none.2 (fun y hy => ?_)]
  · simp [h1, h2]
  · obtain ⟨j, hj⟩ := List.mem_iff_getElem?.1 hy
    have hj2 := (List.getElem?_eq_some_iff.1 hj).1
    rw [List.length_take] at hj2
    rw [List.getElem?_take_of_lt (by omega)] at hj
    have := h j y (by omega) hj
    simp; omega
theorem find_none {l : List Rgn} {p : Int} (h : ∀ (j : Nat) (x : Rgn), l[j]? = some x → ¬ (x.f ≤ p ∧ p < x.t)) : at? l p = none := by
  unfold at?
  rw [List.find?_eq_none.2 (fun y hy => ?_)]; · rfl
  obtain ⟨j, hj⟩ := List.mem_iff_getElem?.1 hy
  have := h j y hj
  simp; omega
def zA : Att := ⟨0, 0, false, false⟩
def FindP (o : Option Att) (w : World) (e : Ending) (w' : World) : Prop := e = .returned (.tuple #[.agg #[.int .i64 (o.getD zA).r, .int .i64 (o.getD zA).k, .bool (o.getD zA).g, .bool (o.getD zA).s], .bool o.isSome]) ∧ Below w.heap.size w w'
set_option maxHeartbeats 4000000 in
set_option maxRecDepth 100000 in
theorem find_any (A : Option Addr) (n c : Nat) (xs : List Rgn) (p : Int) (w : World) (B : Nat) (hz : Rw fR 6 w B A n xs) (hB : B ≤ w.heap.size) (hbig : n ≤ 140737488355328) :
    Calls Try.prog 20 #[.slice A n c, .int .i64 p] w (FindP (at? xs p) w) := by
  have hln := hz.1
  have HX := Lib.hid (fun (i : Nat) (hi : i < n) => (⟨xs[i]'(by omega), List.getElem?_eq_getElem _⟩ : ∃ x, xs[i]? = some x))
  have HLN := Lib.hid hln
  have HZ := Lib.hid hz
  have HA : Hid (0 < n → ∃ b off, A = some ⟨b, off, none⟩ ∧ b < B) := Lib.hid (fun h => HZ.out.open h)
  have HY := Lib.hid (fun m (h : ∀ (j : Nat) (x : Rgn), j < m → xs[j]? = some x → ¬ (x.f ≤ p ∧ p < x.t)) => find_skip h)
  have HN := Lib.hid (fun (h : ∀ (j : Nat) (x : Rgn), xs[j]? = some x → ¬ (x.f ≤ p ∧ p < x.t)) => find_none h)
  generalize at? xs p = res at *
  clear hz hln
  go_enter Try.func20, Try.ntmps20
  go_wp2
  go_loopw [10] (fun i wr => ∃ k : Nat, k ≤ n ∧ i = .int .i64 k ∧ Hid (Below (w.heap.size + 1) (w.alloc (.cells #[.int .i64 0, .int .i64 0, .bool false, .bool false] 38)) wr) ∧ Hid (∀ j x, j < k → xs[j]? = some x → ¬ (x.f ≤ p ∧ p < x.t))) (fun i _ => n - (intOf i).toNat)
  case atStart => exact ⟨0, by omega, rfl, Lib.hid (Below.refl _ _), Lib.hid (fun j x hj => absurd hj (Nat.not_lt_zero _))⟩
  case round =>
    obtain ⟨k, hk, rfl, HB, HG⟩ := hrel
    have hb0 : Below w.heap.size w wr := ((Below.refl w.heap.size w).alloc (Nat.le_refl _) _).trans (HB.out.mono (by omega))
    have HB0 := Lib.hid hb0
    have hsz0 := HB.out.size
    rw [World.size_alloc] at hsz0
    have rc0 : wr.cell? ⟨w.heap.size, 0, none⟩ = some (.int .i64 0) := (HB.out.cell (p := ⟨w.heap.size, 0, none⟩) (Nat.lt_succ_self _)).trans (by simp [go_sem])
    have rc1 : wr.cell? ⟨w.heap.size, 1, none⟩ = some (.int .i64 0) := (HB.out.cell (p := ⟨w.heap.size, 1, none⟩) (Nat.lt_succ_self _)).trans (by simp [go_sem])
    have rc2 : wr.cell? ⟨w.heap.size, 2, none⟩ = some (.bool false) := (HB.out.cell (p := ⟨w.heap.size, 2, none⟩) (Nat.lt_succ_self _)).trans (by simp [go_sem])
    have rc3 : wr.cell? ⟨w.heap.size, 3, none⟩ = some (.bool false) := (HB.out.cell (p := ⟨w.heap.size, 3, none⟩) (Nat.lt_succ_self _)).trans (by simp [go_sem])
    have rz0 : wr.frozen? ⟨w.heap.size, 0, none⟩ = false := (HB.out.frozen (p := ⟨w.heap.size, 0, none⟩) (Nat.lt_succ_self _)).trans (by simp [go_sem])
    have rz1 : wr.frozen? ⟨w.heap.size, 1, none⟩ = false := (HB.out.frozen (p := ⟨w.heap.size, 1, none⟩) (Nat.lt_succ_self _)).trans (by simp [go_sem])
    have rz2 : wr.frozen? ⟨w.heap.size, 2, none⟩ = false := (HB.out.frozen (p := ⟨w.heap.size, 2, none⟩) (Nat.lt_succ_self _)).trans (by simp [go_sem])
    have rz3 : wr.frozen? ⟨w.heap.size, 3, none⟩ = false := (HB.out.frozen (p := ⟨w.heap.size, 3, none⟩) (Nat.lt_succ_self _)).trans (by simp [go_sem])
    clear hb0
    have hwl : w.heap.size < wr.heap.size := by omega
    by_cases hlt : k < n
    · obtain ⟨x, hx⟩ := HX.out k hlt
      obtain ⟨b, off, hAe, hb⟩ := HA.out (by omega)
      subst hAe
      have hcs := (HZ.out.below (HB0.out.mono hB)).at_ fR_len hx
      have xc0 : wr.cell? ⟨b, off + k * 6, none⟩ = some (.int .i64 x.f) := hcs 0 _ rfl
      have xc1 : wr.cell? ⟨b, off + k * 6 + 1, none⟩ = some (.int .i64 x.t) := hcs 1 _ rfl
      have xc2 : wr.cell? ⟨b, off + k * 6 + 2, none⟩ = some (.int .i64 x.a.r) := hcs 2 _ rfl
      have xc3 : wr.cell? ⟨b, off + k * 6 + 3, none⟩ = some (.int .i64 x.a.k) := hcs 3 _ rfl
      have xc4 : wr.cell? ⟨b, off + k * 6 + 4, none⟩ = some (.bool x.a.g) := hcs 4 _ rfl
      have xc5 : wr.cell? ⟨b, off + k * 6 + 5, none⟩ = some (.bool x.a.s) := hcs 5 _ rfl
      have HX0 := Lib.hid hx
      clear hcs hx
      have HS1 := Lib.hid (fun (h : ¬ (x.f ≤ p ∧ p < x.t)) => (show ∀ j y, j < k + 1 → xs[j]? = some y → ¬ (y.f ≤ p ∧ p < y.t) from fun j y hj hy => by
        by_cases e : j = k
        · subst e; rw [HX0.out] at hy; cases hy; exact h
        · exact HG.out j y (by omega) hy))
      by_cases h1 : x.f ≤ p
      · by_cases h2 : p < x.t
        · have HR := Lib.hid (HY.out k HG.out x HX0.out h1 h2)
          go_wp2
          try simp only [Exit.inBlock, Exit.then]
          refine bodyPost_ret (v := .tuple #[.agg #[.int .i64 x.a.r, .int .i64 x.a.k, .bool x.a.g, .bool x.a.s], .bool true]) (by simp [results, Try.results20, go_sem, rc0, rc1, rc2, rc3, hwl]) rfl ⟨?_, ?_⟩
          · rw [HR.out]; rfl
          · exact (((((HB0.out.setCell (p := ⟨w.heap.size, 0, none⟩) (Nat.le_refl _) _).setCell (p := ⟨w.heap.size, 1, none⟩) (Nat.le_refl _) _).setCell (p := ⟨w.heap.size, 2, none⟩) (Nat.le_refl _) _).setCell (p := ⟨w.heap.size, 3, none⟩) (Nat.le_refl _) _).alloc (by simp; omega) _)
        · have h2' : x.t ≤ p := by omega
          have HS2 := Lib.hid (HS1.out (by omega))
          go_wp2
          go_roundw
          case rel => exact ⟨k + 1, by omega, by go_num, Lib.hid (HB.out.alloc (by omega) _), HS2⟩
          case measure => simp [intOf]; omega
      · have h1' : p < x.f := by omega
        have HS2 := Lib.hid (HS1.out (by omega))
        go_wp2
        go_roundw
        case rel => exact ⟨k + 1, by omega, by go_num, Lib.hid (HB.out.alloc (by omega) _), HS2⟩
        case measure => simp [intOf]; omega
    · have hkn : n = k := by omega
      subst hkn
      have HR := Lib.hid (HN.out fun j x hx => HG.out j x (by have := (List.getElem?_eq_some_iff.1 hx).1; rw [HLN.out] at this; exact this) hx)
      go_wp2
      try simp only [Exit.inBlock, Exit.then]
      refine bodyPost_ret (v := .tuple #[.agg #[.int .i64 0, .int .i64 0, .bool false, .bool false], .bool false]) (by simp [results, Try.results20, go_sem, rc0, rc1, rc2, rc3]) rfl ⟨?_, ?_⟩
      · rw [HR.out]; rfl
      · exact ((((HB0.out.setCell (p := ⟨w.heap.size, 0, none⟩) (Nat.le_refl _) _).setCell (p := ⟨w.heap.size, 1, none⟩) (Nat.le_refl _) _).setCell (p := ⟨w.heap.size, 2, none⟩) (Nat.le_refl _) _).setCell (p := ⟨w.heap.size, 3, none⟩) (Nat.le_refl _) _)
theorem tot_snoc (l : List Rgn) (x : Rgn) : tot (l ++ [x]) = tot l + (x.t - x.f) := by rw [tot_append]; simp [tot]
theorem tot_le : ∀ l : List Rgn, (∀ x ∈ l, 0 ≤ x.f ∧ x.f < x.t ∧ x.t ≤ 64) → 0 ≤ tot l ∧ tot l ≤ 64 * l.length
  | [], _ => by simp [tot]
  | x :: l, h => by
    have h1 := h x List.mem_cons_self
    have h2 := tot_le l fun y hy => h y (List.mem_cons_of_mem _ hy)
    simp only [tot, List.length_cons]; omega
set_option maxHeartbeats 2000000 in
theorem count_any (A : Option Addr) (n c : Nat) (xs : List Rgn) (w : World) (B : Nat) (hz : Rw fR 6 w B A n xs) (hB : B ≤ w.heap.size) (hbig : n ≤ 1000) (hok : ∀ x ∈ xs, 0 ≤ x.f ∧ x.f < x.t ∧ x.t ≤ 64) :
    Calls Try.prog 11 #[.slice A n c] w fun e w' => e = .returned (.int .i64 (tot xs)) ∧ Below w.heap.size w w' := by
  have hln := hz.1
  have HX := Lib.hid (fun (i : Nat) (hi : i < n) => (⟨xs[i]'(by omega), List.getElem?_eq_getElem _⟩ : ∃ x, xs[i]? = some x))
  have HZ := Lib.hid hz
  have HA : Hid (0 < n → ∃ b off, A = some ⟨b, off, none⟩ ∧ b < B) := Lib.hid (fun h => HZ.out.open h)
  have HOK := Lib.hid (fun k x (h : xs[k]? = some x) => hok x (List.mem_of_getElem? h))
  obtain ⟨tk, htk⟩ : ∃ f : Nat → Int, f = fun k => tot (xs.take k) := ⟨_, rfl⟩
  have T0 : Hid (tk 0 = 0) := Lib.hid (by rw [htk]; rfl)
  have TS : Hid (∀ k x, xs[k]? = some x → tk (k + 1) = tk k + (x.t - x.f)) := Lib.hid (by rw [htk]; exact fun k x h => (congrArg tot (take_snocR h)).trans (tot_snoc _ x))
  have TL : Hid (∀ k, k ≤ n → 0 ≤ tk k ∧ tk k ≤ 64 * n) := Lib.hid (by
    rw [htk]; intro k hk
    have := tot_le (xs.take k) fun x hx => hok x (List.mem_of_mem_take hx)
    rw [List.length_take] at this; simp only; omega)
  have TN : Hid (tk n = tot xs) := Lib.hid (by rw [htk]; simp only; rw [List.take_of_length_le (by omega)])
  generalize tot xs = res at *
  clear htk hz hok hln
  go_enter Try.func11, Try.ntmps11
  go_wp2
  go_loopw [3, 8] (fun v i wr => ∃ k : Nat, k ≤ n ∧ i = .int .i64 k ∧ v = .int .i64 (tk k) ∧ Hid (Below w.heap.size w wr)) (fun _ i _ => n - (intOf i).toNat)
  case atStart => exact ⟨0, by omega, rfl, by rw [T0.out], Lib.hid (Below.refl _ _)⟩
  case round =>
    obtain ⟨k, hk, rfl, rfl, HB⟩ := hrel
    have hsz := HB.out.size
    by_cases hlt : k < n
    · obtain ⟨x, hx⟩ := HX.out k hlt
      obtain ⟨b, off, hAe, hb⟩ := HA.out (by omega)
      subst hAe
      have hcs := (HZ.out.below (HB.out.mono hB)).at_ fR_len hx
      have xc0 : wr.cell? ⟨b, off + k * 6, none⟩ = some (.int .i64 x.f) := hcs 0 _ rfl
      have xc1 : wr.cell? ⟨b, off + k * 6 + 1, none⟩ = some (.int .i64 x.t) := hcs 1 _ rfl
      have xc2 : wr.cell? ⟨b, off + k * 6 + 2, none⟩ = some (.int .i64 x.a.r) := hcs 2 _ rfl
      have xc3 : wr.cell? ⟨b, off + k * 6 + 3, none⟩ = some (.int .i64 x.a.k) := hcs 3 _ rfl
      have xc4 : wr.cell? ⟨b, off + k * 6 + 4, none⟩ = some (.bool x.a.g) := hcs 4 _ rfl
      have xc5 : wr.cell? ⟨b, off + k * 6 + 5, none⟩ = some (.bool x.a.s) := hcs 5 _ rfl
      have HT := Lib.hid (TS.out k x hx)
      obtain ⟨q1, q2, q3⟩ := HOK.out k x hx
      obtain ⟨t1, t2⟩ := TL.out k hk
      have m1 : min x.t 64 = x.t := by omega
      have m2 : max x.f 0 = x.f := by omega
      have m3 : max 0 (x.t - x.f) = x.t - x.f := by omega
      have m4 : wrap64 (x.t - x.f) = x.t - x.f := by unfold wrap64; omega
      have m5 : wrap64 (tk k + (x.t - x.f)) = tk k + (x.t - x.f) := by unfold wrap64; omega
      clear hcs hx
      go_wp2
      go_roundw
      case rel => exact ⟨k + 1, by omega, by go_num, by rw [HT.out], Lib.hid (HB.out.alloc hsz _)⟩
      case measure => simp [intOf]; omega
    · have hkn : n = k := by omega
      subst hkn
      go_wp2
      go_ret
      exact ⟨ret_i (by rw [TN.out]), HB.out⟩
end Go.Proofs.Ytglnnplijienbaa

/- flat in plain Lean: processes as they seem. -/
namespace Go.Proofs.Ytglnnplijienbaa
set_option linter.unusedVariables false
structure Fop where
  kind : Int
  proc : Int
  page : Int
  count : Int
  rights : Int
  key : Int
  tagged : Bool
  draw : Int
  addr : Int
  size : Int
  value : Int
  tag : Int
instance : Inhabited Fop := ⟨⟨0, 0, 0, 0, 0, 0, false, 0, 0, 0, 0, 0⟩⟩
structure Fan where
  err : Int
  value : Int
  fault : Int
  pos : Int
deriving DecidableEq
instance : Inhabited Fan := ⟨⟨0, 0, 0, 0⟩⟩
structure Fp where
  live : Bool
  rg : List Rgn
  ks : Key4
  bt : Nat → Nat → Int
  tg : Nat → Nat → Int
abbrev Fw := Nat → Fp
def updW (w : Fw) (k : Nat) (p : Fp) : Fw := fun i => if i = k then p else w i
theorem updW_at (w : Fw) (k : Nat) (p : Fp) : updW w k p k = p := by unfold updW; rw [if_pos rfl]
theorem updW_ne (w : Fw) {k i : Nat} (p : Fp) (h : i ≠ k) : updW w k p i = w i := by unfold updW; rw [if_neg h]
def zeroFp : Fp := ⟨false, [], zero4, fun _ _ => 0, fun _ _ => 0⟩
def key1 : Key4 := ⟨true, 0, false, 0, false, 0, false, 0⟩
def newF : Fw := updW (fun _ => zeroFp) 0 ⟨true, [], key1, fun _ _ => 0, fun _ _ => 0⟩
def failA (e : Int) : Fan := ⟨e, 0, 0, 0⟩
def faultA (f a : Int) : Fan := ⟨8, 0, f, a⟩
def mappedF (w : Fw) : Int := tot (w 0).rg + tot (w 1).rg + tot (w 2).rg + tot (w 3).rg
def mapF (l : List Rgn) (K : Key4) (all : Int) (o : Fop) : List Rgn × Fan :=
  if o.count < 1 ∨ 64 < o.count then ([], failA 2)
  else if wrongE o.rights ≠ 0 then ([], failA (wrongE o.rights))
  else if K.tk o.key = false then ([], failA 3)
  else if 64 < all + o.count then ([], failA 4)
  else if chE l o.count ≠ 0 then ([], failA (chE l o.count))
  else (addL l ⟨chN l o.count o.draw, chN l o.count o.draw + o.count, ⟨o.rights, o.key, o.tagged, false⟩⟩, ⟨addE l ⟨chN l o.count o.draw, chN l o.count o.draw + o.count, ⟨o.rights, o.key, o.tagged, false⟩⟩, chN l o.count o.draw, 0, 0⟩)
def sealA (a : Att) : Att := ⟨a.r, a.k, a.g, true⟩
def guardA (r k : Int) (a : Att) : Att := ⟨r, k, a.g, a.s⟩
def spanF (p c : Int) : Bool := decide (0 ≤ p) && decide (1 ≤ c) && decide (c ≤ 64) && decide (p ≤ 64 - c)
/-- What is wrong with what shall be protected. -/
def protE (K : Key4) (o : Fop) : Int := if o.kind = 3 then (if wrongE o.rights ≠ 0 then wrongE o.rights else if K.tk o.key = false then 3 else 0) else 0
def shapeF (l : List Rgn) (K : Key4) (o : Fop) : List Rgn × Fan :=
  if spanF o.page o.count = false then ([], failA 2)
  else if protE K o ≠ 0 then ([], failA (protE K o))
  else if turnE l o.page (o.page + o.count) ≠ 0 ∧ o.kind ≠ 2 then ([], failA 1)
  else if o.kind = 4 then (turnL l o.page (o.page + o.count) sealA, failA 0)
  else if ((inL o.page (o.page + o.count) l).any fun x => x.a.s) = true then ([], failA 7)
  else if o.kind = 2 then (cutL l o.page (o.page + o.count), failA (cutE l o.page (o.page + o.count)))
  else (turnL l o.page (o.page + o.count) (guardA o.rights o.key), failA (turnE l o.page (o.page + o.count)))
def holdF (l : List Rgn) (K : Key4) (o : Fop) : Key4 × Fan :=
  if o.kind = 5 then (new4 K, ⟨new4E K, new4K K, 0, 0⟩)
  else if o.kind = 6 then (chg4 K o.key 1 false 0, failA (if chg4E K o.key 1 0 = 0 ∧ ((inL 0 64 l).any fun x => decide (x.a.k = o.key)) = true then 7 else chg4E K o.key 1 0))
  else (chg4 K o.key 0 true o.rights, failA (chg4E K o.key 0 o.rights))
/-- The least process that does not live (4: none). -/
def childF (w : Fw) : Nat := if (w 0).live = false then 0 else if (w 1).live = false then 1 else if (w 2).live = false then 2 else if (w 3).live = false then 3 else 4
def forkF (w : Fw) (p : Fp) : Fw × Fan :=
  if childF w = 4 ∨ 64 < mappedF w + tot p.rg then (w, failA 4) else (updW w (childF w) p, ⟨0, (childF w : Int), 0, 0⟩)
def wayF (kind : Int) : Int := if kind = 10 then 1 else if kind = 12 then 4 else 2
def bytesF (a s : Int) : Bool := decide (0 ≤ a) && decide (0 ≤ s) && decide (s ≤ 4096) && decide (a ≤ 4096 - s)
def rightF_ (o : Fop) : Bool :=
  if o.tag < 0 ∨ 15 < o.tag then false
  else if o.kind = 13 then decide (o.addr % 16 = 0) && decide (1 ≤ o.count) && decide (o.count ≤ 256) && bytesF o.addr (o.count * 16)
  else decide (1 ≤ o.size) && decide (o.size ≤ 4) && bytesF o.addr o.size
structure Tch where
  p : Int
  f : Int
  t : Int
instance : Inhabited Tch := ⟨⟨0, 0, 0⟩⟩
/-- What addresses from 'at' on, below 'e', touch. -/
def tchs (e : Int) : Nat → Int → List Tch
  | 0, _ => []
  | f + 1, a => if a < e then ⟨a / 64, a - a / 64 * 64, min e ((a / 64 + 1) * 64) - a / 64 * 64⟩ :: tchs e f (min e ((a / 64 + 1) * 64)) else []
def touchF (addr size : Int) : List Tch := tchs (addr + size) 65 addr
def faultF (l : List Rgn) (K : Key4) (page way : Int) : Int := match at? l page with | none => 1 | some a => pageF a.r a.k K way
def grains (p : Fp) (t : Tch) : List Int := (List.range ((t.t - 1) / 16 + 1 - t.f / 16).toNat).map fun i => p.tg t.p.toNat ((t.f / 16).toNat + i)
def stopF (p : Fp) (o : Fop) (t : Tch) : Int × Int :=
  if faultF p.rg p.ks t.p (wayF o.kind) ≠ 0 then (faultF p.rg p.ks t.p (wayF o.kind), t.p * 64 + t.f)
  else if o.kind = 13 then (if ((at? p.rg t.p).getD zA).g = false then (4, t.p * 64 + t.f) else (0, 0))
  else if tagsF ((at? p.rg t.p).getD zA).g (wayF o.kind) (grains p t) o.tag ≠ 0 then (tagsF ((at? p.rg t.p).getD zA).g (wayF o.kind) (grains p t) o.tag, max (t.p * 64 + t.f) (t.p * 64 + (t.f / 16 + tagsK ((at? p.rg t.p).getD zA).g (wayF o.kind) (grains p t) o.tag) * 16))
  else (0, 0)
def stopsF (p : Fp) (o : Fop) : List Tch → Int × Int
  | [] => (0, 0)
  | t :: l => if (stopF p o t).1 ≠ 0 then stopF p o t else stopsF p o l
def sizeF (o : Fop) : Int := if o.kind = 13 then o.count * 16 else o.size
/-- The byte at an address. -/
def byteAt (b : Nat → Nat → Int) (a : Int) : Int := b (a / 64).toNat (a % 64).toNat
def loadF (b : Nat → Nat → Int) (addr : Int) : Nat → Int
  | 0 => 0
  | k + 1 => loadF b addr k + byteAt b (addr + k) * 256 ^ k
def storeF (b : Nat → Nat → Int) (addr size value : Int) : Nat → Nat → Int := fun n i =>
  if addr ≤ (n * 64 + i : Nat) ∧ ((n * 64 + i : Nat) : Int) < addr + size then value / 256 ^ (((n * 64 + i : Nat) : Int) - addr).toNat % 256 else b n i
def tagF (g : Nat → Nat → Int) (addr size tag : Int) : Nat → Nat → Int := fun n i =>
  if addr ≤ (n * 64 + i * 16 : Nat) ∧ ((n * 64 + i * 16 : Nat) : Int) < addr + size then tag else g n i
def lookF (p : Fp) (o : Fop) : Fp × Fan :=
  if rightF_ o = false then (p, failA 2)
  else if (stopsF p o (touchF o.addr (sizeF o))).1 ≠ 0 then (p, faultA (stopsF p o (touchF o.addr (sizeF o))).1 (stopsF p o (touchF o.addr (sizeF o))).2)
  else if o.kind = 13 then ({ p with tg := tagF p.tg o.addr (sizeF o) o.tag }, failA 0)
  else if o.kind = 11 then ({ p with bt := storeF p.bt o.addr o.size o.value }, failA 0)
  else (p, ⟨0, loadF p.bt o.addr o.size.toNat, 0, 0⟩)
/-- Pages that are not there are empty. -/
def cleanF (p : Fp) : Fp := { p with bt := fun n i => if (at? p.rg n).isNone then 0 else p.bt n i, tg := fun n i => if (at? p.rg n).isNone then 0 else p.tg n i }
def doF (w : Fw) (o : Fop) : Fw × Fan :=
  if o.kind < 1 ∨ 14 < o.kind then (w, failA 5)
  else if o.kind = 14 then (w, failA 0)
  else if o.proc < 0 ∨ 4 ≤ o.proc ∨ (w o.proc.toNat).live = false then (w, failA 3)
  else if o.kind ≤ 4 then
    (let r := if o.kind = 1 then mapF (w o.proc.toNat).rg (w o.proc.toNat).ks (mappedF w) o else shapeF (w o.proc.toNat).rg (w o.proc.toNat).ks o
     if r.2.err = 0 then (updW w o.proc.toNat (cleanF { w o.proc.toNat with rg := r.1 }), r.2) else (w, r.2))
  else if o.kind ≤ 7 then
    (let r := holdF (w o.proc.toNat).rg (w o.proc.toNat).ks o
     if r.2.err = 0 then (updW w o.proc.toNat { w o.proc.toNat with ks := r.1 }, r.2) else (w, r.2))
  else if o.kind = 8 then forkF w (w o.proc.toNat)
  else if o.kind = 9 then (updW w o.proc.toNat zeroFp, failA 0)
  else (updW w o.proc.toNat (lookF (w o.proc.toNat) o).1, (lookF (w o.proc.toNat) o).2)
def runF : List Fop → Fw × List Fan
  | l => l.foldl (fun s o => ((doF s.1 o).1, s.2 ++ [(doF s.1 o).2])) (newF, [])
theorem runF_snoc (l : List Fop) (o : Fop) : runF (l ++ [o]) = ((doF (runF l).1 o).1, (runF l).2 ++ [(doF (runF l).1 o).2]) := by
  unfold runF; simp [List.foldl_append]
theorem run_len (l : List Fop) : ∀ (w : Fw) (a : List Fan), (l.foldl (fun s o => ((doF s.1 o).1, s.2 ++ [(doF s.1 o).2])) (w, a)).2.length = a.length + l.length := by
  induction l with
  | nil => intro w a; simp
  | cons o l ih =>
    intro w a
    rw [List.foldl_cons, ih]
    simp; omega
theorem runF_len (l : List Fop) : (runF l).2.length = l.length := by
  unfold runF; rw [run_len]; simp
end Go.Proofs.Ytglnnplijienbaa
