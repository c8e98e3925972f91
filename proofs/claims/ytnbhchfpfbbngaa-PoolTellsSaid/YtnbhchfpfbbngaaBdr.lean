/- Blocks: the laws in plain Lean. -/
import Derived.Test.YtnbhchfpfbbngaaBdq
namespace Go.Proofs.Ytnbhchfpfbbngaa
set_option linter.unusedVariables false
theorem takeC_rp (l : List Blk) (a o : Int) : Rp (takeC l a o) := canon_rp _
theorem giveC_rp (l : List Blk) (b : Blk) : Rp (giveC l b) := canon_rp _
theorem takeC_cov {l : List Blk} (h : Rp l) (a o : Int) (n : Int) : cov (takeC l a o) n ↔ cov l n ∧ ¬ inB ⟨a, o⟩ n := by
  unfold takeC
  rw [canon_cov, Bool.and_eq_true, covB_iff, Bool.not_eq_true', ← Bool.not_eq_true, inBB_iff]
  constructor
  · rintro ⟨h1, h2, h3, h4⟩
    rw [show ((n.toNat : Nat) : Int) = n by omega] at h3 h4
    exact ⟨h3, h4⟩
  · rintro ⟨h3, h4⟩
    obtain ⟨h1, h2⟩ := cov_range h.1 h3
    rw [show ((n.toNat : Nat) : Int) = n by omega]
    exact ⟨h1, h2, h3, h4⟩
theorem giveC_cov {l : List Blk} (h : Rp l) {b : Blk} (hb : okB b = true) (n : Int) : cov (giveC l b) n ↔ cov l n ∨ inB b n := by
  unfold giveC
  rw [canon_cov, Bool.or_eq_true, covB_iff, inBB_iff]
  constructor
  · rintro ⟨h1, h2, h3⟩
    rwa [show ((n.toNat : Nat) : Int) = n by omega] at h3
  · intro h3
    have : 0 ≤ n ∧ n < 64 := by
      rcases h3 with h3 | h3
      · exact cov_range h.1 h3
      · obtain ⟨h4, h5, _⟩ := okB_cases hb
        unfold inB at h3; omega
    refine ⟨this.1, this.2, ?_⟩
    rwa [show ((n.toNat : Nat) : Int) = n by omega]
/-- What is taken lies in what was free. -/
theorem take_ok {l : List Blk} {ord : Int} (h : (takeS l ord).2.2 = 0) : Rp l ∧ 0 ≤ ord ∧ ord ≤ 6 ∧ (∃ b, bestB l ord = some b ∧ b ∈ l ∧ ord ≤ b.o ∧ takeS l ord = (takeC l b.a ord, b.a, 0)) := by
  unfold takeS at *
  cases hr : rightB l with
  | false => rw [hr] at h; simp at h
  | true =>
    rw [hr, if_pos rfl] at h
    rw [if_pos rfl]
    by_cases ho : 0 ≤ ord ∧ ord ≤ 6
    · rw [if_pos ho] at h ⊢
      cases hb : bestB l ord with
      | none => rw [hb] at h; simp at h
      | some b =>
        obtain ⟨h1, h2⟩ := bestF_some hb
        exact ⟨right_rp hr, ho.1, ho.2, b, rfl, h1, h2, rfl⟩
    · rw [if_neg ho] at h; simp at h
theorem take_bad {l : List Blk} {ord : Int} (h : (takeS l ord).2.2 ≠ 0) : (takeS l ord).1 = [] := by
  unfold takeS at *
  split at h
  · split at h
    · cases hb : bestB l ord with
      | none => rename_i h1 h2; rw [if_pos h1, if_pos h2]
      | some b => rw [hb] at h; simp at h
    · rename_i h1 h2; rw [if_pos h1, if_neg h2]
  · rename_i h1; rw [if_neg h1]
theorem sub_ok {b : Blk} {ord : Int} (hb : okB b = true) (h0 : 0 ≤ ord) (ho : ord ≤ b.o) : okB ⟨b.a, ord⟩ = true ∧ szO ord ≤ szO b.o := by
  obtain ⟨h1, h2, h3, h4⟩ := okB_cases hb
  have hs : (ord = 0 ∧ szO ord = 1) ∨ (ord = 1 ∧ szO ord = 2) ∨ (ord = 2 ∧ szO ord = 4) ∨ (ord = 3 ∧ szO ord = 8) ∨ (ord = 4 ∧ szO ord = 16) ∨ (ord = 5 ∧ szO ord = 32) ∨ (ord = 6 ∧ szO ord = 64) := by
    have : ord = 0 ∨ ord = 1 ∨ ord = 2 ∨ ord = 3 ∨ ord = 4 ∨ ord = 5 ∨ ord = 6 := by omega
    rcases this with e | e | e | e | e | e | e <;> rw [e] <;> simp [szO]
  have key : b.a ≤ 64 - szO ord ∧ b.a % szO ord = 0 ∧ szO ord ≤ szO b.o := by
    generalize szO ord = so at *; generalize szO b.o = sb at *; clear hb
    rcases h4 with ⟨e1, e2⟩ | ⟨e1, e2⟩ | ⟨e1, e2⟩ | ⟨e1, e2⟩ | ⟨e1, e2⟩ | ⟨e1, e2⟩ | ⟨e1, e2⟩ <;> subst e2 <;> rcases hs with ⟨f1, f2⟩ | ⟨f1, f2⟩ | ⟨f1, f2⟩ | ⟨f1, f2⟩ | ⟨f1, f2⟩ | ⟨f1, f2⟩ | ⟨f1, f2⟩ <;> subst f2 <;> omega
  exact ⟨okB_of h0 (by omega) h1 key.1 key.2.1, key.2.2⟩
theorem inB_sub {b : Blk} {ord : Int} (hs : szO ord ≤ szO b.o) {n : Int} (h : inB ⟨b.a, ord⟩ n) : inB b n := by
  unfold inB at *; simp only at h; omega
/-- All that Take's success tells. -/
theorem take_all {l : List Blk} {ord : Int} (h : (takeS l ord).2.2 = 0) : Rp l ∧ Rp (takeS l ord).1 ∧ okB ⟨(takeS l ord).2.1, ord⟩ = true ∧ (∀ n, cov (takeS l ord).1 n ↔ cov l n ∧ ¬ inB ⟨(takeS l ord).2.1, ord⟩ n) ∧ ∀ n, inB ⟨(takeS l ord).2.1, ord⟩ n → cov l n := by
  obtain ⟨hr, h0, h6, b, hb, hm, ho, e⟩ := take_ok h
  rw [e]
  obtain ⟨h1, h2⟩ := sub_ok (hr.1 b hm) h0 ho
  exact ⟨hr, takeC_rp _ _ _, h1, takeC_cov hr _ _, fun n hn => ⟨b, hm, inB_sub h2 hn⟩⟩
theorem give_ok {l : List Blk} {b : Blk} (hr : Rp l) (hb : okB b = true) (hm : meets l b = false) : giveS l b = (giveC l b, 0) := by
  unfold giveS
  rw [right_iff.2 hr, hb, hm]; rfl
theorem give_held {l : List Blk} {b : Blk} (hr : Rp l) (hb : okB b = true) (hm : meets l b = true) : giveS l b = ([], 7) := by
  unfold giveS
  rw [right_iff.2 hr, hb, hm]; rfl
theorem back_give {l : List Blk} {ord : Int} (h : (takeS l ord).2.2 = 0) : giveS (takeS l ord).1 ⟨(takeS l ord).2.1, ord⟩ = (l, 0) := by
  obtain ⟨h1, h2, h3, h4, h5⟩ := take_all h
  rw [give_ok h2 h3 (meets_cov.2 fun n hn hc => ((h4 n).1 hc).2 hn)]
  congr 1
  refine rp_eq _ _ (giveC_rp _ _) h1 fun n => ?_
  rw [giveC_cov h2 h3, h4]
  constructor
  · rintro (⟨h, _⟩ | h)
    · exact h
    · exact h5 n h
  · intro h
    by_cases hi : inB ⟨(takeS l ord).2.1, ord⟩ n
    · exact .inr hi
    · exact .inl ⟨h, hi⟩
/-! How many frames. -/
def sumO (l : List Blk) : Int := (l.map fun b => szO b.o).sum
def cnt (p : Nat → Bool) : Nat → Int
  | 0 => 0
  | n + 1 => cnt p n + if p n then 1 else 0
theorem cnt_add {p q r : Nat → Bool} : ∀ {n : Nat}, (∀ k < n, r k = (p k || q k) ∧ (p k && q k) = false) → cnt r n = cnt p n + cnt q n
  | 0, _ => rfl
  | n + 1, h => by
    unfold cnt
    rw [cnt_add (fun k hk => h k (by omega))]
    obtain ⟨h1, h2⟩ := h n (by omega)
    rw [h1]
    cases hp : p n <;> cases hq : q n <;> simp [hp, hq] at h2 ⊢ <;> omega
theorem cnt_in (b : Blk) (h0 : 0 ≤ b.a) : ∀ n : Nat, cnt (inBB b) n = max 0 (min (b.a + szO b.o) n - b.a)
  | 0 => by have := szO_pos b.o; unfold cnt; omega
  | n + 1 => by
    have := szO_pos b.o
    unfold cnt
    rw [cnt_in b h0 n]
    by_cases h : inBB b n = true
    · have h2 := inBB_iff.1 h
      rw [h, if_pos rfl]; unfold inB at h2; omega
    · have h2 : ¬ inB b n := fun h3 => h (inBB_iff.2 h3)
      rw [if_neg h]; unfold inB at h2; omega
theorem cnt_ok {b : Blk} (h : okB b = true) : cnt (inBB b) 64 = szO b.o := by
  obtain ⟨h1, h2, _⟩ := okB_cases h
  have := szO_pos b.o
  rw [cnt_in b h1]
  have : ((64 : Nat) : Int) = 64 := rfl
  omega
theorem cnt_zero : ∀ n, cnt (fun _ => false) n = 0
  | 0 => rfl
  | n + 1 => by simp [cnt, cnt_zero n]
theorem cnt_congr {p q : Nat → Bool} : ∀ {n : Nat}, (∀ k < n, p k = q k) → cnt p n = cnt q n
  | 0, _ => rfl
  | n + 1, h => by unfold cnt; rw [cnt_congr fun k hk => h k (by omega), h n (by omega)]
theorem cnt_sum : ∀ {l : List Blk}, Rp l → sumO l = cnt (covB l) 64
  | [], _ => (cnt_zero 64).symm
  | x :: l, h => by
    rw [cnt_add (p := inBB x) (q := covB l) fun k hk => ⟨by simp [covB], ?_⟩, ← cnt_sum h.tail, cnt_ok (h.1 x (by simp))]
    · simp [sumO]
    · rw [Bool.and_eq_false_iff]
      by_cases hx : inBB x k = true
      · right
        rw [← Bool.not_eq_true, covB_iff]
        rintro ⟨y, hy, hi⟩
        exact ltB_not_in (h.head y hy) (inBB_iff.1 hx) hi
      · left; simpa using hx
theorem back_sum {l : List Blk} {ord : Int} (h : (takeS l ord).2.2 = 0) : sumO (takeS l ord).1 = sumO l - szO ord := by
  obtain ⟨h1, h2, h3, h4, h5⟩ := take_all h
  rw [cnt_sum h1, cnt_sum h2, cnt_add (r := covB l) (p := covB (takeS l ord).1) (q := inBB ⟨(takeS l ord).2.1, ord⟩) fun k hk => ?_, cnt_ok h3]
  · simp only; omega
  · constructor
    · rw [Bool.eq_iff_iff, Bool.or_eq_true, covB_iff, covB_iff, inBB_iff, h4]
      constructor
      · intro hc
        by_cases hi : inB ⟨(takeS l ord).2.1, ord⟩ k
        · exact .inr hi
        · exact .inl ⟨hc, hi⟩
      · rintro (⟨h, _⟩ | h)
        · exact h
        · exact h5 _ h
    · rw [Bool.and_eq_false_iff]
      by_cases hi : inBB ⟨(takeS l ord).2.1, ord⟩ k = true
      · left
        rw [← Bool.not_eq_true, covB_iff, h4]
        exact fun hc => hc.2 (inBB_iff.1 hi)
      · right; simpa using hi
def backR (l : List Blk) (ord : Int) : Bool :=
  if (takeS l ord).2.2 = 0 then (giveS (takeS l ord).1 ⟨(takeS l ord).2.1, ord⟩).2 == 0 && sameL eqB (giveS (takeS l ord).1 ⟨(takeS l ord).2.1, ord⟩).1 l && rightB (takeS l ord).1 && sumO (takeS l ord).1 == sumO l - szO ord
  else ((takeS l ord).1.length : Int) == 0
/-- THE ORDER OF GIVING BACK IS NO MATTER. -/
theorem give_comm {l : List Blk} {a b : Blk} (ha : (giveS l a).2 = 0) (hb : (giveS l b).2 = 0) : giveS (giveS l a).1 b = giveS (giveS l b).1 a := by
  have un : ∀ x : Blk, (giveS l x).2 = 0 → Rp l ∧ okB x = true ∧ meets l x = false := by
    intro x hx
    unfold giveS at hx
    cases h1 : rightB l with
    | false => rw [h1] at hx; simp at hx
    | true =>
      cases h2 : okB x with
      | false => rw [h1, h2] at hx; simp at hx
      | true =>
        cases h3 : meets l x with
        | true => rw [h1, h2, h3] at hx; simp at hx
        | false => exact ⟨right_rp h1, rfl, rfl⟩
  obtain ⟨hr, oa, ma⟩ := un a ha
  obtain ⟨_, ob, mb⟩ := un b hb
  rw [give_ok hr oa ma, give_ok hr ob mb]
  simp only
  have e1 : meets (giveC l a) b = meetB a b := by
    cases hm : meetB a b with
    | false =>
      refine meets_cov.2 fun n hn hc => ?_
      rcases (giveC_cov hr oa n).1 hc with hc | hc
      · exact meets_cov.1 mb n hn hc
      · exact dj_iff.1 (meetB_dj.1 hm) n hc hn
    | true =>
      rw [← Bool.not_eq_false]
      intro h2
      have h3 := meets_cov.1 h2
      have : djB a b := dj_iff.2 fun n hna hnb => h3 n hnb ((giveC_cov hr oa n).2 (.inr hna))
      rw [meetB_dj.2 this] at hm; cases hm
  have e2 : meets (giveC l b) a = meetB a b := by
    cases hm : meetB a b with
    | false =>
      refine meets_cov.2 fun n hn hc => ?_
      rcases (giveC_cov hr ob n).1 hc with hc | hc
      · exact meets_cov.1 ma n hn hc
      · exact dj_iff.1 (meetB_dj.1 hm) n hn hc
    | true =>
      rw [← Bool.not_eq_false]
      intro h2
      have h3 := meets_cov.1 h2
      have : djB a b := dj_iff.2 fun n hna hnb => h3 n hna ((giveC_cov hr ob n).2 (.inr hnb))
      rw [meetB_dj.2 this] at hm; cases hm
  cases hm : meetB a b with
  | true => rw [give_held (giveC_rp _ _) ob (e1.trans hm), give_held (giveC_rp _ _) oa (e2.trans hm)]
  | false =>
    rw [give_ok (giveC_rp _ _) ob (e1.trans hm), give_ok (giveC_rp _ _) oa (e2.trans hm)]
    congr 1
    refine rp_eq _ _ (giveC_rp _ _) (giveC_rp _ _) fun n => ?_
    rw [giveC_cov (giveC_rp _ _) ob, giveC_cov (giveC_rp _ _) oa, giveC_cov hr oa, giveC_cov hr ob]
    constructor
    · rintro ((h | h) | h)
      · exact .inl (.inl h)
      · exact .inr h
      · exact .inl (.inr h)
    · rintro ((h | h) | h)
      · exact .inl (.inl h)
      · exact .inr h
      · exact .inl (.inr h)
/-! What is taken one behind the other. -/
def newL : List Blk := [⟨0, 6⟩]
theorem new_rp : Rp newL := right_iff.1 (by decide)
theorem new_cov (n : Int) : cov newL n ↔ 0 ≤ n ∧ n < 64 := by
  simp [cov, newL, inB, szO]
structure ApI (l had : List Blk) : Prop where
  rp : Rp l
  ok : ∀ x ∈ had, okB x = true
  dj : ∀ x ∈ had, ∀ n, inB x n → ¬ cov l n
  all : ∀ n, 0 ≤ n → n < 64 → cov l n ∨ cov had n
theorem ApI.start : ApI newL [] := ⟨new_rp, by simp, by simp, fun n h1 h2 => .inl ((new_cov n).2 ⟨h1, h2⟩)⟩
theorem ApI.step {l had : List Blk} (h : ApI l had) {ord : Int} (ht : (takeS l ord).2.2 = 0) : ApI (takeS l ord).1 (had ++ [⟨(takeS l ord).2.1, ord⟩]) ∧ (∀ x ∈ had, meetB x ⟨(takeS l ord).2.1, ord⟩ = false) ∧ (giveS l ⟨(takeS l ord).2.1, ord⟩).2 = 7 ∧ okB ⟨(takeS l ord).2.1, ord⟩ = true := by
  obtain ⟨h1, h2, h3, h4, h5⟩ := take_all ht
  refine ⟨⟨h2, fun x hx => ?_, fun x hx n hn hc => ?_, fun n hn1 hn2 => ?_⟩, fun x hx => ?_, ?_, h3⟩
  · rcases List.mem_append.1 hx with hx | hx
    · exact h.ok x hx
    · rw [List.mem_singleton.1 hx]; exact h3
  · rcases List.mem_append.1 hx with hx | hx
    · exact h.dj x hx n hn ((h4 n).1 hc).1
    · rw [List.mem_singleton.1 hx] at hn
      exact ((h4 n).1 hc).2 hn
  · rw [cov_append, h4]
    rcases h.all n hn1 hn2 with hc | hc
    · by_cases hi : inB ⟨(takeS l ord).2.1, ord⟩ n
      · exact .inr (.inr ⟨_, by simp, hi⟩)
      · exact .inl ⟨hc, hi⟩
    · exact .inr (.inl hc)
  · exact meetB_dj.2 (dj_iff.2 fun n hn hi => h.dj x hx n hn (h5 n hi))
  · rw [give_held h1 h3]
    rw [← Bool.not_eq_false]
    intro hm
    exact meets_cov.1 hm _ (inB_start _) (h5 _ (inB_start _))
structure GvA (l had : List Blk) : Prop where
  rp : Rp l
  ok : ∀ x ∈ had, okB x = true
  wh : ∀ x ∈ had, (∀ n, inB x n → cov l n) ∨ ∀ n, inB x n → ¬ cov l n
  all : ∀ n, 0 ≤ n → n < 64 → cov l n ∨ cov had n
theorem ApI.gva {l had : List Blk} (h : ApI l had) : GvA l had := ⟨h.rp, h.ok, fun x hx => .inr (h.dj x hx), h.all⟩
def gvN (l : List Blk) (x : Blk) : List Blk := if (giveS l x).2 = 0 then (giveS l x).1 else l
/-- The blocks that were had do not meet one another. -/
def Djl (had : List Blk) : Prop := ∀ x ∈ had, ∀ y ∈ had, x = y ∨ djB x y
theorem GvA.step {l had : List Blk} (h : GvA l had) (hd : Djl had) {x : Blk} (hx : x ∈ had) : GvA (gvN l x) had ∧ (∀ n, inB x n → cov (gvN l x) n) ∧ ∀ n, cov l n → cov (gvN l x) n := by
  have hok := h.ok x hx
  cases hm : meets l x with
  | true =>
    have e : gvN l x = l := by unfold gvN; rw [give_held h.rp hok hm]; rfl
    rw [e]
    refine ⟨h, ?_, fun _ h => h⟩
    rcases h.wh x hx with hw | hw
    · exact hw
    · rw [meets_cov.2 hw] at hm; cases hm
  | false =>
    have e : gvN l x = giveC l x := by unfold gvN; rw [give_ok h.rp hok hm]; rfl
    rw [e]
    have hc := giveC_cov h.rp hok
    refine ⟨⟨giveC_rp _ _, h.ok, fun y hy => ?_, fun n h1 h2 => ?_⟩, fun n hn => (hc n).2 (.inr hn), fun n hn => (hc n).2 (.inl hn)⟩
    · rcases hd x hx y hy with rfl | hxy
      · exact .inl fun n hn => (hc n).2 (.inr hn)
      · rcases h.wh y hy with hw | hw
        · exact .inl fun n hn => (hc n).2 (.inl (hw n hn))
        · refine .inr fun n hn hcn => ?_
          rcases (hc n).1 hcn with hcn | hcn
          · exact hw n hn hcn
          · exact dj_iff.1 hxy n hcn hn
    · rcases h.all n h1 h2 with h3 | h3
      · exact .inl ((hc n).2 (.inl h3))
      · exact .inr h3
theorem GvA.done {l had : List Blk} (h : GvA l had) (hw : ∀ x ∈ had, ∀ n, inB x n → cov l n) : l = newL := by
  refine rp_eq _ _ h.rp new_rp fun n => ?_
  rw [new_cov]
  constructor
  · exact cov_range h.rp.1
  · rintro ⟨h1, h2⟩
    rcases h.all n h1 h2 with h3 | ⟨x, hx, hi⟩
    · exact h3
    · exact hw x hx n hi
theorem djl_snoc {had : List Blk} {b : Blk} (h : Djl had) (hb : ∀ x ∈ had, meetB x b = false) : Djl (had ++ [b]) := by
  intro x hx y hy
  rcases List.mem_append.1 hx with hx | hx <;> rcases List.mem_append.1 hy with hy | hy
  · exact h x hx y hy
  · rw [List.mem_singleton.1 hy]; exact .inr (meetB_dj.1 (hb x hx))
  · rw [List.mem_singleton.1 hx]; exact .inr (djB_symm (meetB_dj.1 (hb y hy)))
  · rw [List.mem_singleton.1 hx, List.mem_singleton.1 hy]; exact .inl rfl
end Go.Proofs.Ytnbhchfpfbbngaa
