/- Blocks of frames in plain Lean: a right list is told by its frames. -/
import Derived.Test.YtnbhchfpfbbngaaBlk
namespace Go.Proofs.Ytnbhchfpfbbngaa
set_option linter.unusedVariables false
def szO (o : Int) : Int := 2 ^ o.toNat
def okB (b : Blk) : Bool := decide (0 ≤ b.o) && decide (b.o ≤ 6) && decide (0 ≤ b.a) && decide (b.a ≤ 64 - szO b.o) && decide (b.a % szO b.o = 0)
def budA (a o : Int) : Int := if (a / szO o) % 2 = 0 then a + szO o else a - szO o
def nextB (p x : Blk) : Bool := !(decide (x.a < p.a + szO p.o)) && !(decide (x.o < 6) && eqB p ⟨budA x.a x.o, x.o⟩)
def rightF : Option Blk → List Blk → Bool
  | _, [] => true
  | p, x :: l => okB x && (match p with | none => true | some p => nextB p x) && rightF (some x) l
def rightB (l : List Blk) : Bool := rightF none l
theorem rightF_bad : ∀ (l : List Blk) (q : Option Blk) (k : Nat) (x : Blk), l[k]? = some x → (okB x = false ∨ ∃ p, (if k = 0 then q else l[k - 1]?) = some p ∧ nextB p x = false) → rightF q l = false
  | [], _, _, _, h, _ => by simp at h
  | y :: l, q, 0, x, h, h2 => by
    simp at h; subst h
    unfold rightF
    rcases h2 with h2 | ⟨p, hp, h2⟩
    · rw [h2]; rfl
    · rw [if_pos rfl] at hp
      subst hp
      simp [h2]
  | y :: l, q, k + 1, x, h, h2 => by
    unfold rightF
    rw [rightF_bad l (some y) k x (by simpa using h) (h2.imp id fun ⟨p, hp, h3⟩ => ⟨p, by
      rw [if_neg (by omega), Nat.add_sub_cancel] at hp
      cases k with
      | zero => simpa using hp
      | succ k => simpa using hp, h3⟩), Bool.and_false]
theorem rightF_good : ∀ (l : List Blk) (q : Option Blk), (∀ k x, k < l.length → l[k]? = some x → okB x = true ∧ ∀ p, (if k = 0 then q else l[k - 1]?) = some p → nextB p x = true) → rightF q l = true
  | [], _, _ => rfl
  | y :: l, q, h => by
    unfold rightF
    have h0 := h 0 y (by simp) rfl
    rw [h0.1, rightF_good l (some y) fun k x hk hx => ?_]
    · cases q with
      | none => rfl
      | some p =>
        have := h0.2 p rfl
        simp [this]
    · have h1 := h (k + 1) x (by simpa using hk) (by simpa using hx)
      refine ⟨h1.1, fun p hp => h1.2 p ?_⟩
      rw [if_neg (by omega), Nat.add_sub_cancel]
      cases k with
      | zero => simpa using hp
      | succ k => simpa using hp
theorem szO_pos (o : Int) : 0 < szO o := by unfold szO; exact Int.pow_pos (by decide)
/-- The sizes, one by one. -/
theorem okB_cases {b : Blk} (h : okB b = true) : 0 ≤ b.a ∧ b.a ≤ 64 - szO b.o ∧ b.a % szO b.o = 0 ∧ ((b.o = 0 ∧ szO b.o = 1) ∨ (b.o = 1 ∧ szO b.o = 2) ∨ (b.o = 2 ∧ szO b.o = 4) ∨ (b.o = 3 ∧ szO b.o = 8) ∨ (b.o = 4 ∧ szO b.o = 16) ∨ (b.o = 5 ∧ szO b.o = 32) ∨ (b.o = 6 ∧ szO b.o = 64)) := by
  simp only [okB, Bool.and_eq_true, decide_eq_true_eq] at h
  obtain ⟨⟨⟨⟨h1, h2⟩, h3⟩, h4⟩, h5⟩ := h
  refine ⟨h3, h4, h5, ?_⟩
  have : b.o = 0 ∨ b.o = 1 ∨ b.o = 2 ∨ b.o = 3 ∨ b.o = 4 ∨ b.o = 5 ∨ b.o = 6 := by omega
  rcases this with e | e | e | e | e | e | e <;> rw [e] <;> simp [szO]
def ltB (x y : Blk) : Prop := x.a + szO x.o ≤ y.a
def djB (x y : Blk) : Prop := ltB x y ∨ ltB y x
def noBud (l : List Blk) : Prop := ∀ x ∈ l, ∀ y ∈ l, x.o < 6 → y ≠ ⟨budA x.a x.o, x.o⟩
def Rp (l : List Blk) : Prop := (∀ b ∈ l, okB b = true) ∧ l.Pairwise ltB ∧ noBud l
def Good (l : List Blk) : Prop := (∀ b ∈ l, okB b = true) ∧ l.Pairwise djB ∧ noBud l
def inB (b : Blk) (n : Int) : Prop := b.a ≤ n ∧ n < b.a + szO b.o
def cov (l : List Blk) (n : Int) : Prop := ∃ b ∈ l, inB b n
theorem cov_nil (n : Int) : ¬ cov [] n := by rintro ⟨b, hb, _⟩; cases hb
theorem cov_cons {b : Blk} {l : List Blk} {n : Int} : cov (b :: l) n ↔ inB b n ∨ cov l n := by
  simp [cov]
theorem cov_append {l m : List Blk} {n : Int} : cov (l ++ m) n ↔ cov l n ∨ cov m n := by
  simp [cov, or_and_right, exists_or]
theorem cov_perm {l m : List Blk} (h : l.Perm m) {n : Int} : cov l n ↔ cov m n := by
  simp [cov, h.mem_iff]
theorem inB_start (b : Blk) : inB b b.a := ⟨Int.le_refl _, by have := szO_pos b.o; omega⟩
theorem ltB_not_in {x y : Blk} (h : ltB x y) {n : Int} (hx : inB x n) : ¬ inB y n := fun hy => by
  unfold ltB at h; unfold inB at hx hy; omega
theorem Rp.tail {x : Blk} {l : List Blk} (h : Rp (x :: l)) : Rp l :=
  ⟨fun b hb => h.1 b (List.mem_cons_of_mem _ hb), (List.pairwise_cons.1 h.2.1).2, fun a ha b hb => h.2.2 a (List.mem_cons_of_mem _ ha) b (List.mem_cons_of_mem _ hb)⟩
theorem Rp.head {x : Blk} {l : List Blk} (h : Rp (x :: l)) : ∀ y ∈ l, ltB x y := (List.pairwise_cons.1 h.2.1).1
theorem budA_low {a o : Int} (h : (a / szO o) % 2 = 0) : budA a o = a + szO o := by unfold budA; rw [if_pos h]
/-- Halves that are both there could be one. -/
theorem no_half : ∀ (l : List Blk) (x : Blk), Rp (x :: l) → x.a % (2 * szO x.o) = 0 → x.o < 6 → (∀ n, x.a + szO x.o ≤ n → n < x.a + 2 * szO x.o → cov l n) → False
  | [], x, h, h1, h2, h3 => cov_nil _ (h3 (x.a + szO x.o) (Int.le_refl _) (by have := szO_pos x.o; omega))
  | y :: r, x, h, h1, h2, h3 => by
    have hp := szO_pos x.o
    obtain ⟨b, hb, hin⟩ := h3 (x.a + szO x.o) (Int.le_refl _) (by omega)
    have hbx := h.head b hb
    have hyx := h.head y (List.mem_cons_self ..)
    have hya : y.a = x.a + szO x.o := by
      rcases List.mem_cons.1 hb with rfl | hb
      · unfold ltB at hbx; unfold inB at hin; omega
      · have := h.tail.head b hb
        have := szO_pos y.o
        unfold ltB at *; unfold inB at hin; omega
    have oky := okB_cases (h.1 y (by simp))
    have okx := okB_cases (h.1 x (by simp))
    have hnb := h.2.2 x (by simp) y (by simp) h2
    by_cases hlt : y.o < x.o
    · refine no_half r y h.tail ?_ (by omega) fun n hn1 hn2 => ?_
      · obtain ⟨_, _, x3, x4⟩ := okx
        obtain ⟨_, _, y3, y4⟩ := oky
        generalize szO x.o = sx at *; generalize szO y.o = sy at *; clear h3 hnb; rcases x4 with ⟨e1, e2⟩ | ⟨e1, e2⟩ | ⟨e1, e2⟩ | ⟨e1, e2⟩ | ⟨e1, e2⟩ | ⟨e1, e2⟩ | ⟨e1, e2⟩ <;> subst e2 <;> rcases y4 with ⟨f1, f2⟩ | ⟨f1, f2⟩ | ⟨f1, f2⟩ | ⟨f1, f2⟩ | ⟨f1, f2⟩ | ⟨f1, f2⟩ | ⟨f1, f2⟩ <;> subst f2 <;> omega
      · have hle : 2 * szO y.o ≤ szO x.o := by
          obtain ⟨_, _, x3, x4⟩ := okx
          obtain ⟨_, _, y3, y4⟩ := oky
          omega
        rcases cov_cons.1 (h3 n (by omega) (by omega)) with hi | hc
        · unfold inB at hi; omega
        · exact hc
    · obtain ⟨_, _, x3, x4⟩ := okx
      obtain ⟨_, _, y3, y4⟩ := oky
      by_cases he : y.o = x.o
      · refine hnb ?_
        rw [budA_low]
        · obtain ⟨ya, yo⟩ := y
          simp only at hya he
          rw [hya, he]
        · generalize szO x.o = sx at *; rcases x4 with ⟨e1, e2⟩ | ⟨e1, e2⟩ | ⟨e1, e2⟩ | ⟨e1, e2⟩ | ⟨e1, e2⟩ | ⟨e1, e2⟩ | ⟨e1, e2⟩ <;> subst e2 <;> omega
      · generalize szO x.o = sx at *; generalize szO y.o = sy at *; clear h3 hnb; rcases x4 with ⟨e1, e2⟩ | ⟨e1, e2⟩ | ⟨e1, e2⟩ | ⟨e1, e2⟩ | ⟨e1, e2⟩ | ⟨e1, e2⟩ | ⟨e1, e2⟩ <;> subst e2 <;> rcases y4 with ⟨f1, f2⟩ | ⟨f1, f2⟩ | ⟨f1, f2⟩ | ⟨f1, f2⟩ | ⟨f1, f2⟩ | ⟨f1, f2⟩ | ⟨f1, f2⟩ <;> subst f2 <;> omega
theorem first_le {x : Blk} {l : List Blk} (h : Rp (x :: l)) {n : Int} (hc : cov (x :: l) n) : x.a ≤ n := by
  rcases cov_cons.1 hc with hi | ⟨b, hb, hi⟩
  · exact hi.1
  · have := h.head b hb
    have := szO_pos x.o
    unfold ltB at *; unfold inB at hi; omega
theorem ord_le {x y : Blk} {l m : List Blk} (hl : Rp (x :: l)) (hm : Rp (y :: m)) (h : ∀ n, cov (x :: l) n ↔ cov (y :: m) n) (ha : x.a = y.a) : ¬ x.o < y.o := fun hlt => by
  have okx := okB_cases (hl.1 x (by simp))
  have oky := okB_cases (hm.1 y (by simp))
  have hle : 2 * szO x.o ≤ szO y.o := by
    obtain ⟨_, _, x3, x4⟩ := okx
    obtain ⟨_, _, y3, y4⟩ := oky
    omega
  refine no_half l x hl ?_ ?_ fun n hn1 hn2 => ?_
  · obtain ⟨_, _, x3, x4⟩ := okx
    obtain ⟨_, _, y3, y4⟩ := oky
    rw [← ha] at y3
    generalize szO x.o = sx at *; generalize szO y.o = sy at *; rcases x4 with ⟨e1, e2⟩ | ⟨e1, e2⟩ | ⟨e1, e2⟩ | ⟨e1, e2⟩ | ⟨e1, e2⟩ | ⟨e1, e2⟩ | ⟨e1, e2⟩ <;> subst e2 <;> rcases y4 with ⟨f1, f2⟩ | ⟨f1, f2⟩ | ⟨f1, f2⟩ | ⟨f1, f2⟩ | ⟨f1, f2⟩ | ⟨f1, f2⟩ | ⟨f1, f2⟩ <;> subst f2 <;> omega
  · obtain ⟨_, _, y3, y4⟩ := oky
    omega
  · rcases cov_cons.1 ((h n).2 (cov_cons.2 (.inl ⟨by omega, by omega⟩))) with hi | hc
    · unfold inB at hi; omega
    · exact hc
/-- A RIGHT LIST IS TOLD BY ITS FRAMES. -/
theorem rp_eq : ∀ (l m : List Blk), Rp l → Rp m → (∀ n, cov l n ↔ cov m n) → l = m
  | [], [], _, _, _ => rfl
  | [], y :: m, _, hm, h => absurd ((h y.a).2 (cov_cons.2 (.inl (inB_start y)))) (cov_nil _)
  | x :: l, [], hl, _, h => absurd ((h x.a).1 (cov_cons.2 (.inl (inB_start x)))) (cov_nil _)
  | x :: l, y :: m, hl, hm, h => by
    have ha : x.a = y.a := by
      have h1 := first_le hl ((h y.a).2 (cov_cons.2 (.inl (inB_start y))))
      have h2 := first_le hm ((h x.a).1 (cov_cons.2 (.inl (inB_start x))))
      omega
    have ho1 := ord_le hl hm h ha
    have ho2 := ord_le hm hl (fun n => (h n).symm) ha.symm
    have hxy : x = y := by
      obtain ⟨xa, xo⟩ := x
      obtain ⟨ya, yo⟩ := y
      simp only at ha ho1 ho2
      have : xo = yo := by omega
      subst this; subst ha; rfl
    subst hxy
    refine congrArg (x :: ·) (rp_eq l m hl.tail hm.tail fun n => ⟨fun hc => ?_, fun hc => ?_⟩)
    · rcases cov_cons.1 ((h n).1 (cov_cons.2 (.inr hc))) with hi | hc'
      · obtain ⟨b, hb, hi2⟩ := hc
        exact absurd hi2 (ltB_not_in (hl.head b hb) hi)
      · exact hc'
    · rcases cov_cons.1 ((h n).2 (cov_cons.2 (.inr hc))) with hi | hc'
      · obtain ⟨b, hb, hi2⟩ := hc
        exact absurd hi2 (ltB_not_in (hm.head b hb) hi)
      · exact hc'
theorem budA_budA {b : Blk} (h : okB b = true) (h6 : b.o < 6) : budA (budA b.a b.o) b.o = b.a := by
  obtain ⟨_, _, x3, x4⟩ := okB_cases h
  unfold budA
  generalize szO b.o = sx at *; rcases x4 with ⟨e1, e2⟩ | ⟨e1, e2⟩ | ⟨e1, e2⟩ | ⟨e1, e2⟩ | ⟨e1, e2⟩ | ⟨e1, e2⟩ | ⟨e1, e2⟩ <;> subst e2 <;> split <;> split <;> omega
/-- Right, as the program walks it. -/
theorem rightF_rp : ∀ (l : List Blk) (q : Option Blk), rightF q l = true → (∀ p, q = some p → okB p = true ∧ ∀ x ∈ l.head?, nextB p x = true) → Rp l ∧ ∀ p, q = some p → ∀ x ∈ l, ltB p x ∧ ∀ y : Blk, okB y = true → ltB y p → (∀ z ∈ l, z.o < 6 → y ≠ ⟨budA z.a z.o, z.o⟩)
  | [], q, _, hq => ⟨⟨by simp, List.Pairwise.nil, by simp [noBud]⟩, by simp⟩
  | x :: l, q, h, hq => by
    simp only [rightF, Bool.and_eq_true] at h
    obtain ⟨⟨hx, hn⟩, hr⟩ := h
    obtain ⟨ih, ih2⟩ := rightF_rp l (some x) hr fun p hp => by
      cases hp
      refine ⟨hx, fun y hy => ?_⟩
      cases l with
      | nil => simp at hy
      | cons z l =>
        simp at hy; subst hy
        simp only [rightF, Bool.and_eq_true] at hr
        exact hr.1.2
    have ih2 := ih2 x rfl
    have hnx : ∀ z ∈ l, z.o < 6 → x ≠ ⟨budA z.a z.o, z.o⟩ := by
      intro z hz h6 e
      cases l with
      | nil => cases hz
      | cons y l =>
        simp only [rightF, Bool.and_eq_true] at hr
        have hny := hr.1.2
        rcases List.mem_cons.1 hz with rfl | hz
        · simp only [nextB, Bool.and_eq_true, Bool.not_eq_true', Bool.and_eq_false_iff, decide_eq_false_iff_not] at hny
          rcases hny.2 with h7 | h7
          · exact h7 h6
          · rw [← e, eqB_iff.2 rfl] at h7; cases h7
        · have h1 := (ih2 y (by simp)).1
          have h2 := ih.head z hz
          have h3 := okB_cases (ih.1 z (by simp [hz]))
          have h4 := okB_cases hx
          have := szO_pos y.o
          have e2 : x.o = z.o := by rw [e]
          have e1 : x.a = budA z.a z.o := by rw [e]
          unfold ltB at h1 h2
          unfold budA at e1
          rw [e2] at h1
          split at e1 <;> omega
    have hmem : ∀ z ∈ l, ltB x z := fun z hz => (ih2 z hz).1
    refine ⟨⟨?_, List.pairwise_cons.2 ⟨hmem, ih.2.1⟩, ?_⟩, ?_⟩
    · intro b hb
      rcases List.mem_cons.1 hb with rfl | hb
      · exact hx
      · exact ih.1 b hb
    · intro a ha b hb h6 e
      rcases List.mem_cons.1 ha with rfl | ha' <;> rcases List.mem_cons.1 hb with rfl | hb'
      · have e1 : b.a = budA b.a b.o := congrArg Blk.a e
        have := szO_pos b.o
        unfold budA at e1; split at e1 <;> omega
      · refine hnx b hb' (by rw [e]; exact h6) ?_
        have e1 : b.a = budA a.a a.o := by rw [e]
        have e2 : b.o = a.o := by rw [e]
        rw [e1, e2, budA_budA hx h6]
      · exact hnx a ha' h6 e
      · exact ih.2.2 a ha' b hb' h6 e
    · rintro p rfl
      obtain ⟨hp, hp2⟩ := hq p rfl
      have hpx := hp2 x (by simp)
      have hpl : ltB p x := by
        simp only [nextB, Bool.and_eq_true, Bool.not_eq_true', decide_eq_false_iff_not] at hpx
        unfold ltB; omega
      intro z hz
      constructor
      · rcases List.mem_cons.1 hz with rfl | hz
        · exact hpl
        · have := hmem z hz
          have := szO_pos x.o
          unfold ltB at *; omega
      · intro y hy hyp z hz h6 e
        have hz2 : ltB p z := by
          rcases List.mem_cons.1 hz with rfl | hz
          · exact hpl
          · have := hmem z hz
            have := szO_pos x.o
            unfold ltB at *; omega
        have := szO_pos p.o
        have := szO_pos z.o
        have e1 : y.a = budA z.a z.o := by rw [e]
        have e2 : y.o = z.o := by rw [e]
        unfold ltB at *
        unfold budA at e1
        rw [e2] at hyp
        split at e1 <;> omega
theorem right_rp {l : List Blk} (h : rightB l = true) : Rp l := (rightF_rp l none h (by simp)).1
theorem rp_rightF : ∀ (l : List Blk) (q : Option Blk), Rp l → (∀ p, q = some p → ∀ x ∈ l, nextB p x = true) → rightF q l = true
  | [], _, _, _ => rfl
  | x :: l, q, h, hq => by
    simp only [rightF, Bool.and_eq_true]
    refine ⟨⟨h.1 x (by simp), ?_⟩, ?_⟩
    · cases q with
      | none => rfl
      | some p => exact hq p rfl x (by simp)
    · refine rp_rightF l (some x) h.tail ?_
      rintro p hp y hy
      cases hp
      have h1 := h.head y hy
      unfold ltB at h1
      simp only [nextB, Bool.and_eq_true, Bool.not_eq_true', Bool.and_eq_false_iff, decide_eq_false_iff_not]
      refine ⟨by omega, ?_⟩
      by_cases h6 : y.o < 6
      · right
        cases he : eqB x ⟨budA y.a y.o, y.o⟩ with
        | false => rfl
        | true => exact absurd (eqB_iff.1 he) (h.2.2 y (by simp [hy]) x (by simp) h6)
      · exact .inl h6
theorem right_iff {l : List Blk} : rightB l = true ↔ Rp l := ⟨right_rp, fun h => rp_rightF l none h (by simp)⟩
theorem Rp.good {l : List Blk} (h : Rp l) : Good l := ⟨h.1, h.2.1.imp fun h => .inl h, h.2.2⟩
theorem djB_symm {x y : Blk} (h : djB x y) : djB y x := h.symm
theorem Good.perm {l m : List Blk} (h : Good l) (hp : l.Perm m) : Good m :=
  ⟨fun b hb => h.1 b (hp.mem_iff.2 hb), (hp.pairwise_iff (fun {_ _} h => djB_symm h)).1 h.2.1, fun x hx y hy => h.2.2 x (hp.mem_iff.2 hx) y (hp.mem_iff.2 hy)⟩
/-- Blocks in the order of their frames. -/
theorem Good.sorted {l : List Blk} (h : Good l) (hs : l.Pairwise fun x y => x.a ≤ y.a) : Rp l := by
  refine ⟨h.1, ?_, h.2.2⟩
  refine (hs.and h.2.1).imp fun {x y} ⟨h1, h2⟩ => ?_
  have := szO_pos x.o
  have := szO_pos y.o
  rcases h2 with h2 | h2
  · exact h2
  · unfold ltB at *; omega
end Go.Proofs.Ytnbhchfpfbbngaa
