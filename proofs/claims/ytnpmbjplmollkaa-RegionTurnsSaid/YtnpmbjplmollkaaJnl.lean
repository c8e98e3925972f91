/- Regions that are joined: plain Lean. -/
import Derived.Test.YtnpmbjplmollkaaRgl
namespace Go.Proofs.Ytnpmbjplmollkaa
set_option linter.unusedVariables false
def SortedR (l : List Rgn) : Prop := l.Pairwise (fun a b => a.f ≤ b.f)
def stepJ (out : List Rgn) (x : Rgn) : List Rgn := match out.getLast? with | some p => if p.t == x.f && eqA p.a x.a then out.dropLast ++ [⟨p.f, x.t, p.a⟩] else out ++ [x] | none => [x]
def joinL (l : List Rgn) : List Rgn := l.foldl stepJ []
theorem joinL_snoc (l : List Rgn) (x : Rgn) : joinL (l ++ [x]) = stepJ (joinL l) x := by unfold joinL; rw [List.foldl_append]; rfl
theorem stepJ_nil (x : Rgn) : stepJ [] x = [x] := rfl
theorem stepJ_no {q : List Rgn} {p x : Rgn} (h : (p.t == x.f && eqA p.a x.a) = false) : stepJ (q ++ [p]) x = q ++ [p] ++ [x] := by unfold stepJ; simp [h]
theorem stepJ_yes {q : List Rgn} {p x : Rgn} (h : (p.t == x.f && eqA p.a x.a) = true) : stepJ (q ++ [p]) x = q ++ [⟨p.f, x.t, p.a⟩] := by
  unfold stepJ; simp only [List.getLast?_append, List.getLast?_singleton, Option.some_or, h, if_true, List.dropLast_concat]
theorem stepJ_len (out : List Rgn) (x : Rgn) : (stepJ out x).length ≤ out.length + 1 := by
  rcases List.eq_nil_or_concat out with rfl | ⟨q, p, rfl⟩
  · simp [stepJ_nil]
  · rw [List.concat_eq_append]
    cases h : (p.t == x.f && eqA p.a x.a) with
    | true => rw [stepJ_yes h]; simp
    | false => rw [stepJ_no h]; simp
theorem foldJ_len : ∀ (l out : List Rgn), (l.foldl stepJ out).length ≤ out.length + l.length
  | [], out => by simp
  | x :: l, out => by
    have := foldJ_len l (stepJ out x)
    have := stepJ_len out x
    simp only [List.foldl_cons, List.length_cons]; omega
theorem joinL_len (l : List Rgn) : (joinL l).length ≤ l.length := by have := foldJ_len l []; simpa [joinL] using this
/-- The same from the left. -/
def joinG : Rgn → List Rgn → List Rgn
  | p, [] => [p]
  | p, x :: l => if p.t == x.f && eqA p.a x.a then joinG ⟨p.f, x.t, p.a⟩ l else p :: joinG x l
theorem fold_joinG : ∀ (l q : List Rgn) (p : Rgn), l.foldl stepJ (q ++ [p]) = q ++ joinG p l
  | [], q, p => rfl
  | x :: l, q, p => by
    rw [List.foldl_cons]
    unfold joinG
    cases h : (p.t == x.f && eqA p.a x.a) with
    | true => rw [stepJ_yes h, fold_joinG l q ⟨p.f, x.t, p.a⟩]; rfl
    | false => rw [stepJ_no h, fold_joinG l (q ++ [p]) x, List.append_assoc]; rfl
theorem joinL_cons (x : Rgn) (l : List Rgn) : joinL (x :: l) = joinG x l := fold_joinG l [] x
/-- Rising and apart from b on. -/
def Asc : Int → List Rgn → Prop
  | _, [] => True
  | b, x :: l => b ≤ x.f ∧ x.f < x.t ∧ x.t ≤ 64 ∧ Asc x.t l
theorem Asc.mem : ∀ {l : List Rgn} {b : Int}, Asc b l → ∀ x ∈ l, b ≤ x.f ∧ x.f < x.t ∧ x.t ≤ 64
  | [], _, _, _, h => by cases h
  | y :: l, b, h, x, hx => by
    obtain ⟨h1, h2, h3, h4⟩ := h
    rcases List.mem_cons.1 hx with rfl | hx
    · exact ⟨h1, h2, h3⟩
    · have := Asc.mem h4 x hx; omega
theorem asc_of_right : ∀ (l : List Rgn) (q : Option Rgn) (b : Int), rightG q l = true → (∀ p, q = some p → b ≤ p.t) → (q = none → b ≤ 0) → Asc b l
  | [], _, _, _, _, _ => trivial
  | x :: l, q, b, h, hq, hn => by
    unfold rightG at h
    simp only [Bool.and_eq_true] at h
    obtain ⟨⟨h1, h2⟩, h3⟩ := h
    unfold okR at h1
    simp only [Bool.and_eq_true, decide_eq_true_eq] at h1
    refine ⟨?_, by omega, by omega, asc_of_right l (some x) x.t h3 (fun p hp => by cases hp; exact Int.le_refl _) (fun h => by cases h)⟩
    cases q with
    | none => have := hn rfl; omega
    | some p =>
      have := hq p rfl
      simp [nextOk] at h2
      omega
theorem rightL_asc {l : List Rgn} (h : rightL l = true) : Asc 0 l := asc_of_right l none 0 h (fun p hp => by cases hp) (fun _ => Int.le_refl _)
/-- Page p is there and is a. -/
def Has (l : List Rgn) (p : Int) (a : Att) : Prop := ∃ x ∈ l, x.f ≤ p ∧ p < x.t ∧ x.a = a
theorem has_nil {p : Int} {a : Att} : ¬ Has [] p a := fun ⟨_, h, _⟩ => by cases h
theorem has_cons {x : Rgn} {l : List Rgn} {p : Int} {a : Att} : Has (x :: l) p a ↔ (x.f ≤ p ∧ p < x.t ∧ x.a = a) ∨ Has l p a := by
  constructor
  · rintro ⟨y, hy, h⟩
    rcases List.mem_cons.1 hy with rfl | hy
    · exact .inl h
    · exact .inr ⟨y, hy, h⟩
  · rintro (h | ⟨y, hy, h⟩)
    · exact ⟨x, List.mem_cons_self, h⟩
    · exact ⟨y, List.mem_cons_of_mem _ hy, h⟩
theorem has_append {l m : List Rgn} {p : Int} {a : Att} : Has (l ++ m) p a ↔ Has l p a ∨ Has m p a := by
  constructor
  · rintro ⟨y, hy, h⟩
    rcases List.mem_append.1 hy with hy | hy
    · exact .inl ⟨y, hy, h⟩
    · exact .inr ⟨y, hy, h⟩
  · rintro (⟨y, hy, h⟩ | ⟨y, hy, h⟩)
    · exact ⟨y, List.mem_append_left _ hy, h⟩
    · exact ⟨y, List.mem_append_right _ hy, h⟩
theorem has_perm {l m : List Rgn} (h : l.Perm m) {p : Int} {a : Att} : Has l p a ↔ Has m p a :=
  ⟨fun ⟨y, hy, h2⟩ => ⟨y, h.mem_iff.1 hy, h2⟩, fun ⟨y, hy, h2⟩ => ⟨y, h.mem_iff.2 hy, h2⟩⟩
theorem Asc.has {l : List Rgn} {b p : Int} {a : Att} (h : Asc b l) (h2 : Has l p a) : b ≤ p := by
  obtain ⟨x, hx, h3, _⟩ := h2
  have := h.mem x hx; omega
theorem has_tail {x : Rgn} {l : List Rgn} {b : Int} (h : Asc b (x :: l)) {p : Int} {a : Att} : Has l p a ↔ Has (x :: l) p a ∧ x.t ≤ p := by
  constructor
  · intro h2
    exact ⟨has_cons.2 (.inr h2), h.2.2.2.has h2⟩
  · rintro ⟨h2, h3⟩
    rcases has_cons.1 h2 with h2 | h2
    · omega
    · exact h2
theorem head_end {x y : Rgn} {l m : List Rgn} {b c : Int} (hx : Asc b (x :: l)) (hr : rightG (some x) l = true) (hy : Asc c (y :: m)) (hf : x.f = y.f) (ha : x.a = y.a) (he : ∀ p a, Has (y :: m) p a → Has (x :: l) p a) : y.t ≤ x.t := by
  rcases Int.lt_or_le x.t y.t with hlt | h
  · obtain ⟨x1, x2, x3, x4⟩ := hx
    have h1 := he x.t y.a ⟨y, List.mem_cons_self, by omega, by omega, rfl⟩
    rcases has_cons.1 h1 with h1 | h1
    · omega
    · exfalso
      match l, x4, hr, h1 with
      | [], _, _, h1 => exact has_nil h1
      | z :: l, x4, hr, h1 =>
        obtain ⟨z1, z2, z3, z4⟩ := x4
        rcases has_cons.1 h1 with ⟨g1, g2, g3⟩ | h1
        · unfold rightG at hr
          have e1 : x.t = z.f := by omega
          have e2 : x.a = z.a := by rw [ha, g3]
          simp [nextOk, e1, eqA_iff.2 e2] at hr
        · have := z4.has h1; omega
  · exact h
/-- ONE WAY ALONE. -/
theorem right_unique : ∀ (l m : List Rgn) (q r : Option Rgn) (b c : Int), rightG q l = true → rightG r m = true → Asc b l → Asc c m → (∀ p a, Has l p a ↔ Has m p a) → l = m
  | [], [], _, _, _, _, _, _, _, _, _ => rfl
  | [], y :: m, _, _, _, _, _, _, _, hm, h => absurd ((h y.f y.a).2 ⟨y, List.mem_cons_self, Int.le_refl _, hm.2.1, rfl⟩) has_nil
  | x :: l, [], _, _, _, _, _, _, hl, _, h => absurd ((h x.f x.a).1 ⟨x, List.mem_cons_self, Int.le_refl _, hl.2.1, rfl⟩) has_nil
  | x :: l, y :: m, q, r, b, c, rl, rm, hl, hm, h => by
    unfold rightG at rl rm
    simp only [Bool.and_eq_true] at rl rm
    have hl' := hl
    have hm' := hm
    obtain ⟨l1, l2, l3, l4⟩ := hl
    obtain ⟨m1, m2, m3, m4⟩ := hm
    have hf : x.f = y.f := by
      have h1 : y.f ≤ x.f := by
        rcases has_cons.1 ((h x.f x.a).1 ⟨x, List.mem_cons_self, Int.le_refl _, l2, rfl⟩) with g | g
        · exact g.1
        · have := m4.has g; omega
      have h2 : x.f ≤ y.f := by
        rcases has_cons.1 ((h y.f y.a).2 ⟨y, List.mem_cons_self, Int.le_refl _, m2, rfl⟩) with g | g
        · exact g.1
        · have := l4.has g; omega
      omega
    have ha : x.a = y.a := by
      rcases has_cons.1 ((h x.f x.a).1 ⟨x, List.mem_cons_self, Int.le_refl _, l2, rfl⟩) with g | g
      · exact g.2.2.symm
      · have := m4.has g; omega
    have ht : x.t = y.t := by
      have h1 := head_end hl' rl.2 hm' hf ha fun p a => (h p a).2
      have h2 := head_end hm' rm.2 hl' hf.symm ha.symm fun p a => (h p a).1
      omega
    have e : x = y := by
      obtain ⟨x1, x2, x3⟩ := x
      obtain ⟨y1, y2, y3⟩ := y
      simp only at hf ha ht
      rw [hf, ha, ht]
    subst e
    rw [right_unique l m (some x) (some x) x.t x.t rl.2 rm.2 l4 m4 fun p a => by rw [has_tail hl', has_tail hm', h p a]]
theorem right_eq {l m : List Rgn} (hl : rightL l = true) (hm : rightL m = true) (h : ∀ p a, Has l p a ↔ Has m p a) : l = m :=
  right_unique l m none none 0 0 hl hm (rightL_asc hl) (rightL_asc hm) h
/-- What is joined is right, and page by page as it was. -/
theorem nextOk_head (q p : Rgn) (t : Int) : nextOk q ⟨p.f, t, p.a⟩ = nextOk q p := rfl
theorem joinG_right : ∀ (l : List Rgn) (p : Rgn) (q : Option Rgn), 0 ≤ p.f → p.f < p.t → p.t ≤ 64 → Asc p.t l → (∀ r, q = some r → nextOk r p = true) → rightG q (joinG p l) = true
  | [], p, q, h0, h1, h2, _, hq => by
    unfold joinG rightG rightG
    have : okR p = true := by unfold okR; simp; omega
    cases q with
    | none => simp [this]
    | some r => simp [this, hq r rfl]
  | x :: l, p, q, h0, h1, h2, h3, hq => by
    obtain ⟨x1, x2, x3, x4⟩ := h3
    unfold joinG
    cases h : (p.t == x.f && eqA p.a x.a) with
    | true =>
      simp only [if_true]
      exact joinG_right l ⟨p.f, x.t, p.a⟩ q h0 (by simp only; omega) x3 x4 fun r hr => by rw [nextOk_head]; exact hq r hr
    | false =>
      simp only [Bool.false_eq_true, if_false]
      unfold rightG
      have h4 : nextOk p x = true := by unfold nextOk; rw [h]; simp; omega
      have h5 : okR p = true := by unfold okR; simp; omega
      rw [joinG_right l x (some p) (by omega) x2 x3 x4 (fun r hr => by cases hr; exact h4), h5]
      cases q with
      | none => simp
      | some r => simp [hq r rfl]
theorem joinG_has : ∀ (l : List Rgn) (p : Rgn) (b : Int), Asc b (p :: l) → ∀ n a, Has (joinG p l) n a ↔ Has (p :: l) n a
  | [], p, _, _, n, a => Iff.rfl
  | x :: l, p, b, h, n, a => by
    obtain ⟨p1, p2, p3, x1, x2, x3, x4⟩ := h
    unfold joinG
    cases h : (p.t == x.f && eqA p.a x.a) with
    | true =>
      simp only [if_true]
      rw [joinG_has l ⟨p.f, x.t, p.a⟩ b ⟨p1, by simp only; omega, x3, x4⟩, has_cons, has_cons, has_cons]
      simp only [Bool.and_eq_true, beq_iff_eq, eqA_iff] at h
      obtain ⟨e1, e2⟩ := h
      constructor
      · rintro (⟨g1, g2, g3⟩ | g)
        · simp only at g1 g2 g3
          by_cases hn : n < p.t
          · exact .inl ⟨g1, hn, g3⟩
          · exact .inr (.inl ⟨by omega, g2, by rw [← e2]; exact g3⟩)
        · exact .inr (.inr g)
      · rintro (⟨g1, g2, g3⟩ | ⟨g1, g2, g3⟩ | g)
        · exact .inl ⟨g1, by simp only; omega, g3⟩
        · exact .inl ⟨by simp only; omega, g2, by rw [e2]; exact g3⟩
        · exact .inr g
    | false =>
      simp only [Bool.false_eq_true, if_false]
      rw [has_cons, joinG_has l x p.t ⟨x1, x2, x3, x4⟩, has_cons (x := p)]
theorem joinG_len : ∀ (l : List Rgn) (p : Rgn) (q : Option Rgn), rightG q (p :: l) = true → joinG p l = p :: l
  | [], _, _, _ => rfl
  | x :: l, p, q, h => by
    unfold rightG at h
    simp only [Bool.and_eq_true] at h
    have h1 := h.2
    have h2 := h1
    unfold rightG at h1
    simp only [Bool.and_eq_true] at h1
    have h3 := h1.1.2
    unfold nextOk at h3
    simp only [Bool.not_eq_true', Bool.or_eq_false_iff] at h3
    unfold joinG
    rw [h3.2]
    simp only [Bool.false_eq_true, if_false]
    rw [joinG_len l x (some p) h2]
theorem joinL_right {l : List Rgn} (h : Asc 0 l) : rightL (joinL l) = true := by
  cases l with
  | nil => rfl
  | cons x l => rw [joinL_cons]; exact joinG_right l x none h.1 h.2.1 h.2.2.1 h.2.2.2 (fun r hr => by cases hr)
theorem joinL_has {l : List Rgn} (h : Asc 0 l) (p : Int) (a : Att) : Has (joinL l) p a ↔ Has l p a := by
  cases l with
  | nil => exact Iff.rfl
  | cons x l => rw [joinL_cons]; exact joinG_has l x 0 h p a
/-- Apart, in whatever order. -/
def apartR (a b : Rgn) : Prop := a.t ≤ b.f ∨ b.t ≤ a.f
structure Good (l : List Rgn) : Prop where
  ok : ∀ x ∈ l, 0 ≤ x.f ∧ x.f < x.t ∧ x.t ≤ 64
  apart : l.Pairwise apartR
theorem Good.perm {l m : List Rgn} (h : Good l) (hp : m.Perm l) : Good m :=
  ⟨fun x hx => h.ok x (hp.mem_iff.1 hx), (hp.pairwise_iff fun {a b} h => Or.symm h).2 h.apart⟩
theorem asc_of : ∀ (l : List Rgn) (b : Int), (∀ x ∈ l, b ≤ x.f ∧ x.f < x.t ∧ x.t ≤ 64) → l.Pairwise apartR → SortedR l → Asc b l
  | [], _, _, _, _ => trivial
  | x :: l, b, h, h2, h3 => by
    have hx := h x List.mem_cons_self
    unfold SortedR at h3
    rw [List.pairwise_cons] at h2 h3
    refine ⟨hx.1, hx.2.1, hx.2.2, asc_of l x.t (fun y hy => ?_) h2.2 h3.2⟩
    have hy2 := h y (List.mem_cons_of_mem _ hy)
    have g1 := h2.1 y hy
    have g2 := h3.1 y hy
    unfold apartR at g1
    omega
theorem Good.asc {l : List Rgn} (h : Good l) (hs : SortedR l) : Asc 0 l := asc_of l 0 h.ok h.apart hs
theorem Asc.good : ∀ {l : List Rgn} {b : Int}, 0 ≤ b → Asc b l → Good l
  | [], _, _, _ => ⟨fun x hx => (nomatch hx), List.Pairwise.nil⟩
  | x :: l, b, hb, h => by
    have h2 := h
    obtain ⟨h3, h4, h5, h6⟩ := h
    have hg := Asc.good (by omega) h6
    refine ⟨fun y hy => by have := h2.mem y hy; omega, List.pairwise_cons.2 ⟨fun y hy => .inl (h6.mem y hy).1, hg.apart⟩⟩
theorem right_good {l : List Rgn} (h : rightL l = true) : Good l := (rightL_asc h).good (Int.le_refl _)
/-- The one right way to have pages. -/
def norm (xs : List Rgn) : List Rgn := joinL (xs.mergeSort fun a b => decide (a.f ≤ b.f))
theorem sorted_norm (xs : List Rgn) : SortedR (xs.mergeSort fun a b => decide (a.f ≤ b.f)) := by
  have := List.pairwise_mergeSort (le := fun a b : Rgn => decide (a.f ≤ b.f)) (fun a b c h1 h2 => by simp at *; omega) (fun a b => by simp; omega) xs
  exact this.imp fun h => by simpa using h
theorem norm_asc {xs : List Rgn} (h : Good xs) : Asc 0 (xs.mergeSort fun a b => decide (a.f ≤ b.f)) := (h.perm (List.mergeSort_perm xs _)).asc (sorted_norm xs)
theorem norm_right {xs : List Rgn} (h : Good xs) : rightL (norm xs) = true := joinL_right (norm_asc h)
theorem norm_has {xs : List Rgn} (h : Good xs) (p : Int) (a : Att) : Has (norm xs) p a ↔ Has xs p a := (joinL_has (norm_asc h) p a).trans (has_perm (List.mergeSort_perm xs _))
theorem norm_of {xs ys : List Rgn} (h : Good xs) (hp : ys.Perm xs) (hs : SortedR ys) : joinL ys = norm xs :=
  right_eq (joinL_right ((h.perm hp).asc hs)) (norm_right h) fun p a => by rw [joinL_has ((h.perm hp).asc hs), norm_has h, has_perm hp]
theorem norm_id {l : List Rgn} (h : rightL l = true) : norm l = l := right_eq (norm_right (right_good h)) h fun p a => norm_has (right_good h) p a
end Go.Proofs.Ytnpmbjplmollkaa
