/- Cut, added, turned: plain Lean. -/
import Derived.Test.YtnpmbjplmollkaaJnl
namespace Go.Proofs.Ytnpmbjplmollkaa
set_option linter.unusedVariables false
theorem mem_outP {a b : Int} {x y : Rgn} : y ∈ outP a b x ↔ (y = ⟨x.f, min x.t a, x.a⟩ ∧ x.f < min x.t a) ∨ (y = ⟨max x.f b, x.t, x.a⟩ ∧ max x.f b < x.t) := by
  unfold outP
  rw [List.mem_append]
  constructor
  · rintro (h | h)
    · split at h
      · rename_i h2; exact .inl ⟨by simpa using h, h2⟩
      · cases h
    · split at h
      · rename_i h2; exact .inr ⟨by simpa using h, h2⟩
      · cases h
  · rintro (⟨rfl, h⟩ | ⟨rfl, h⟩)
    · left; rw [if_pos h]; exact List.mem_singleton_self _
    · right; rw [if_pos h]; exact List.mem_singleton_self _
theorem mem_inP {a b : Int} {x y : Rgn} : y ∈ inP a b x ↔ y = ⟨max x.f a, min x.t b, x.a⟩ ∧ max x.f a < min x.t b := by
  unfold inP
  constructor
  · intro h
    split at h
    · rename_i h2; exact ⟨by simpa using h, h2⟩
    · cases h
  · rintro ⟨rfl, h⟩
    rw [if_pos h]; exact List.mem_singleton_self _
theorem good_flat {l : List Rgn} {g : Rgn → List Rgn} (h : Good l) (h1 : ∀ x ∈ l, (0 ≤ x.f ∧ x.f < x.t ∧ x.t ≤ 64) → ∀ y ∈ g x, x.f ≤ y.f ∧ y.f < y.t ∧ y.t ≤ x.t) (h2 : ∀ x ∈ l, (g x).Pairwise apartR) : Good (l.flatMap g) := by
  refine ⟨fun y hy => ?_, ?_⟩
  · obtain ⟨x, hx, hy⟩ := List.mem_flatMap.1 hy
    have := h.ok x hx
    have := h1 x hx this y hy
    omega
  · rw [List.pairwise_flatMap]
    refine ⟨h2, h.apart.imp_of_mem fun {x y} hx hy hxy u hu v hv => ?_⟩
    have := h1 x hx (h.ok x hx) u hu
    have := h1 y hy (h.ok y hy) v hv
    unfold apartR at *
    omega
theorem good_out {l : List Rgn} {a b : Int} (h : Good l) (hab : a ≤ b) : Good (outL a b l) := by
  refine good_flat h (fun x hx hox y hy => ?_) (fun x hx => ?_)
  · rcases mem_outP.1 hy with ⟨rfl, h⟩ | ⟨rfl, h⟩ <;> simp only <;> omega
  · unfold outP
    rw [List.pairwise_append]
    refine ⟨by split <;> simp, by split <;> simp, fun u hu v hv => ?_⟩
    split at hu
    · split at hv
      · simp at hu hv; subst hu hv; unfold apartR; simp only; omega
      · cases hv
    · cases hu
theorem good_in {l : List Rgn} {a b : Int} (h : Good l) : Good (inL a b l) := by
  refine good_flat h (fun x hx hox y hy => ?_) (fun x hx => by unfold inP; split <;> simp)
  obtain ⟨rfl, h⟩ := mem_inP.1 hy
  simp only; omega
theorem in_span {l : List Rgn} {a b : Int} {y : Rgn} (hy : y ∈ inL a b l) : a ≤ y.f ∧ y.t ≤ b := by
  obtain ⟨x, hx, hy⟩ := List.mem_flatMap.1 hy
  obtain ⟨rfl, h⟩ := mem_inP.1 hy
  simp only; omega
theorem out_span {l : List Rgn} {a b : Int} {y : Rgn} (hy : y ∈ outL a b l) : y.t ≤ a ∨ b ≤ y.f := by
  obtain ⟨x, hx, hy⟩ := List.mem_flatMap.1 hy
  rcases mem_outP.1 hy with ⟨rfl, h⟩ | ⟨rfl, h⟩ <;> simp only <;> omega
def turnR (f : Att → Att) (x : Rgn) : Rgn := ⟨x.f, x.t, f x.a⟩
theorem good_map {l : List Rgn} {f : Att → Att} (h : Good l) : Good (l.map (turnR f)) :=
  ⟨fun y hy => by obtain ⟨x, hx, rfl⟩ := List.mem_map.1 hy; exact h.ok x hx, by rw [List.pairwise_map]; exact h.apart⟩
theorem good_append {l m : List Rgn} (h : Good l) (g : Good m) (hx : ∀ x ∈ l, ∀ y ∈ m, apartR x y) : Good (l ++ m) :=
  ⟨fun x hx => (List.mem_append.1 hx).elim (h.ok x) (g.ok x), List.pairwise_append.2 ⟨h.apart, g.apart, hx⟩⟩
theorem good_turn {l : List Rgn} {a b : Int} {f : Att → Att} (h : Good l) (hab : a ≤ b) : Good (outL a b l ++ (inL a b l).map (turnR f)) :=
  good_append (good_out h hab) (good_map (good_in h)) fun x hx y hy => by
    obtain ⟨z, hz, rfl⟩ := List.mem_map.1 hy
    have := in_span hz
    have := out_span hx
    unfold apartR turnR
    simp only
    omega
theorem good_add {l : List Rgn} {x : Rgn} (h : Good l) (h0 : 0 ≤ x.f) (h1 : x.f < x.t) (h2 : x.t ≤ 64) : Good (outL x.f x.t l ++ [x]) :=
  good_append (good_out h (by omega)) ⟨fun y hy => by rw [List.mem_singleton] at hy; subst hy; exact ⟨h0, h1, h2⟩, List.pairwise_singleton _ _⟩ fun u hu v hv => by
    rw [List.mem_singleton] at hv; subst hv
    have := out_span hu
    unfold apartR; omega
theorem has_out {l : List Rgn} {a b p : Int} {t : Att} (hab : a ≤ b) : Has (outL a b l) p t ↔ Has l p t ∧ ¬ (a ≤ p ∧ p < b) := by
  constructor
  · rintro ⟨y, hy, h1, h2, h3⟩
    have hs := out_span hy
    obtain ⟨x, hx, hy⟩ := List.mem_flatMap.1 hy
    rcases mem_outP.1 hy with ⟨rfl, h⟩ | ⟨rfl, h⟩ <;> simp only at h1 h2 h3 hs <;> exact ⟨⟨x, hx, by omega, by omega, h3⟩, by omega⟩
  · rintro ⟨⟨x, hx, h1, h2, h3⟩, h4⟩
    by_cases hp : p < a
    · exact ⟨_, List.mem_flatMap.2 ⟨x, hx, mem_outP.2 (.inl ⟨rfl, by omega⟩)⟩, h1, by simp only; omega, h3⟩
    · exact ⟨_, List.mem_flatMap.2 ⟨x, hx, mem_outP.2 (.inr ⟨rfl, by omega⟩)⟩, by simp only; omega, h2, h3⟩
theorem has_in {l : List Rgn} {a b p : Int} {t : Att} : Has (inL a b l) p t ↔ Has l p t ∧ a ≤ p ∧ p < b := by
  constructor
  · rintro ⟨y, hy, h1, h2, h3⟩
    have hs := in_span hy
    obtain ⟨x, hx, hy⟩ := List.mem_flatMap.1 hy
    obtain ⟨rfl, h⟩ := mem_inP.1 hy
    simp only at h1 h2 h3 hs
    exact ⟨⟨x, hx, by omega, by omega, h3⟩, by omega, by omega⟩
  · rintro ⟨⟨x, hx, h1, h2, h3⟩, h4, h5⟩
    exact ⟨_, List.mem_flatMap.2 ⟨x, hx, mem_inP.2 ⟨rfl, by omega⟩⟩, by simp only; omega, by simp only; omega, h3⟩
theorem has_map {l : List Rgn} {f : Att → Att} {p : Int} {t : Att} : Has (l.map (turnR f)) p t ↔ ∃ s, Has l p s ∧ f s = t := by
  constructor
  · rintro ⟨y, hy, h1, h2, h3⟩
    obtain ⟨x, hx, rfl⟩ := List.mem_map.1 hy
    exact ⟨x.a, ⟨x, hx, h1, h2, rfl⟩, h3⟩
  · rintro ⟨s, ⟨x, hx, h1, h2, rfl⟩, h4⟩
    exact ⟨_, List.mem_map.2 ⟨x, hx, rfl⟩, h1, h2, h4⟩
theorem has_one {x : Rgn} {p : Int} {t : Att} : Has [x] p t ↔ x.f ≤ p ∧ p < x.t ∧ x.a = t := by
  rw [has_cons]; exact ⟨fun h => h.resolve_right has_nil, .inl⟩
theorem Good.fun : ∀ {l : List Rgn} {p : Int} {s t : Att}, Good l → Has l p s → Has l p t → s = t
  | [], _, _, _, _, h, _ => absurd h has_nil
  | x :: l, p, s, t, hg, h1, h2 => by
    have hl : Good l := ⟨fun y hy => hg.ok y (List.mem_cons_of_mem _ hy), (List.pairwise_cons.1 hg.apart).2⟩
    have no : ∀ u, Has l p u → ¬ (x.f ≤ p ∧ p < x.t) := fun u ⟨y, hy, g1, g2, _⟩ => by
      have := (List.pairwise_cons.1 hg.apart).1 y hy
      unfold apartR at this; omega
    rcases has_cons.1 h1 with ⟨g1, g2, g3⟩ | g
    · rcases has_cons.1 h2 with ⟨k1, k2, k3⟩ | k
      · rw [← g3, ← k3]
      · exact absurd ⟨g1, g2⟩ (no t k)
    · rcases has_cons.1 h2 with ⟨k1, k2, k3⟩ | k
      · exact absurd ⟨k1, k2⟩ (no s g)
      · exact hl.fun g k
/-- How many pages. -/
def tot : List Rgn → Int
  | [] => 0
  | x :: l => (x.t - x.f) + tot l
theorem tot_append : ∀ l m : List Rgn, tot (l ++ m) = tot l + tot m
  | [], m => by simp [tot]
  | x :: l, m => by simp only [List.cons_append, tot]; rw [tot_append l m]; omega
theorem tot_map (f : Att → Att) : ∀ l : List Rgn, tot (l.map (turnR f)) = tot l
  | [] => rfl
  | x :: l => by simp only [List.map_cons, tot]; rw [tot_map f l]; rfl
def inB (x : Rgn) (p : Nat) : Bool := decide (x.f ≤ (p : Int)) && decide ((p : Int) < x.t)
def cov (l : List Rgn) (p : Nat) : Bool := l.any fun x => inB x p
theorem cov_iff {l : List Rgn} {p : Nat} : cov l p = true ↔ ∃ t, Has l p t := by
  unfold cov
  rw [List.any_eq_true]
  constructor
  · rintro ⟨x, hx, h⟩
    simp [inB] at h
    exact ⟨x.a, x, hx, h.1, h.2, rfl⟩
  · rintro ⟨t, x, hx, h1, h2, h3⟩
    exact ⟨x, hx, by simp [inB, h1, h2]⟩
theorem count_in (x : Rgn) (h0 : 0 ≤ x.f) (h1 : x.f ≤ x.t) : ∀ n : Nat, (((List.range n).countP (inB x) : Nat) : Int) = min x.t n - min x.f n
  | 0 => by simp; omega
  | n + 1 => by
    rw [List.range_succ, List.countP_append, Int.natCast_add, count_in x h0 h1 n]
    simp only [List.countP_cons, List.countP_nil, inB]
    by_cases a : x.f ≤ (n : Int) <;> by_cases b : (n : Int) < x.t <;> simp [a, b] <;> omega
theorem countP_or {α : Type} (p q : α → Bool) : ∀ l : List α, (∀ x ∈ l, ¬ (p x = true ∧ q x = true)) → l.countP (fun x => p x || q x) = l.countP p + l.countP q
  | [], _ => rfl
  | x :: l, h => by
    have ih := countP_or p q l fun y hy => h y (List.mem_cons_of_mem _ hy)
    have hx := h x List.mem_cons_self
    simp only [List.countP_cons, ih]
    cases hp : p x <;> cases hq : q x <;> simp [hp, hq] at * <;> omega
theorem tot_count : ∀ {l : List Rgn}, Good l → tot l = ((List.range 64).countP (cov l) : Nat)
  | [], _ => by
    have : (List.range 64).countP (cov []) = 0 := List.countP_eq_zero.2 fun x _ => by simp [cov]
    rw [this]; rfl
  | x :: l, hg => by
    have hl : Good l := ⟨fun y hy => hg.ok y (List.mem_cons_of_mem _ hy), (List.pairwise_cons.1 hg.apart).2⟩
    have hx := hg.ok x List.mem_cons_self
    have e : cov (x :: l) = fun p => inB x p || cov l p := by funext p; simp [cov]
    rw [e, countP_or _ _ _ (fun p _ ⟨h1, h2⟩ => by
      obtain ⟨t, y, hy, g1, g2, _⟩ := cov_iff.1 h2
      have := (List.pairwise_cons.1 hg.apart).1 y hy
      simp [inB] at h1
      unfold apartR at this; omega), Int.natCast_add, ← tot_count hl, count_in x hx.1 (by omega)]
    simp only [tot]; omega
theorem tot_same {l m : List Rgn} (hl : Good l) (hm : Good m) (h : ∀ p, (∃ t, Has l p t) ↔ ∃ t, Has m p t) : tot l = tot m := by
  rw [tot_count hl, tot_count hm]
  congr 1
  refine List.countP_congr fun p _ => ?_
  rw [cov_iff, cov_iff]; exact h p
theorem count_one (k : Nat) : ∀ n : Nat, (List.range n).countP (fun p => p == k) = if k < n then 1 else 0
  | 0 => rfl
  | n + 1 => by
    rw [List.range_succ, List.countP_append, count_one k n]
    simp only [List.countP_cons, List.countP_nil]
    by_cases h : n = k
    · subst h; simp
    · have : (n == k) = false := by simpa using h
      simp only [this, Bool.false_eq_true, if_false, Nat.add_zero]
      by_cases h1 : k < n
      · rw [if_pos h1, if_pos (by omega)]
      · rw [if_neg h1, if_neg (by omega)]
theorem all_there {l : List Rgn} {a b : Int} (hg : Good l) (h0 : 0 ≤ a) (hab : a < b) (h64 : b ≤ 64) (h : b - a ≤ tot (inL a b l)) : ∀ p, a ≤ p → p < b → ∃ t, Has l p t := by
  intro p h1 h2
  obtain ⟨k, rfl⟩ := Int.eq_ofNat_of_zero_le (show 0 ≤ p by omega)
  rw [tot_count (good_in hg)] at h
  have hc := count_in ⟨a, b, default⟩ h0 (by simp only; omega) 64
  simp only at hc
  by_cases hk : cov (inL a b l) k = true
  · obtain ⟨t, ht⟩ := cov_iff.1 hk
    exact ⟨t, (has_in.1 ht).1⟩
  · exfalso
    have hle : (List.range 64).countP (cov (inL a b l)) + 1 ≤ (List.range 64).countP (inB ⟨a, b, default⟩) := by
      have e : (List.range 64).countP (fun p => cov (inL a b l) p || p == k) = (List.range 64).countP (cov (inL a b l)) + (List.range 64).countP (fun p => p == k) := countP_or _ _ _ (fun p _ ⟨g1, g2⟩ => by
        simp at g2; subst g2; exact hk g1)
      have e2 : (List.range 64).countP (fun p => p == k) = 1 := by
        rw [count_one k 64, if_pos (by omega)]
      rw [e2] at e
      rw [← e]
      refine List.countP_mono_left fun p _ hp => ?_
      simp only [Bool.or_eq_true, beq_iff_eq] at hp
      rcases hp with hp | rfl
      · obtain ⟨t, ht⟩ := cov_iff.1 hp
        have := (has_in.1 ht).2
        simp [inB]; omega
      · simp [inB]; omega
    omega
end Go.Proofs.Ytnpmbjplmollkaa
