/- Pools in plain Lean. -/
import Derived.Test.YtnbhchfpfbbngaaBde
namespace Go.Proofs.Ytnbhchfpfbbngaa
set_option linter.unusedVariables false
structure Pl where
  f : List Blk
  r : Nat → Int
def updI (r : Nat → Int) (j : Nat) (x : Int) : Nat → Int := fun i => if i = j then x else r i
theorem updI_upd (r : Nat → Int) (j : Nat) (x y : Int) : updI (updI r j x) j y = updI r j y := by
  funext i; unfold updI; split <;> rfl
theorem updI_self {r : Nat → Int} {j : Nat} {x : Int} (h : r j = x) : updI r j x = r := by
  funext i; unfold updI; split
  · next e => rw [e, h]
  · rfl
theorem updI_at (r : Nat → Int) (j : Nat) (x : Int) : updI r j x j = x := by unfold updI; rw [if_pos rfl]
def zeroP : Pl := ⟨[], fun _ => 0⟩
def refOk (p : Pl) (n : Nat) : Bool := decide (0 ≤ p.r n) && ((p.r n == 0) == covB p.f n)
def rightP (p : Pl) : Bool := rightB p.f && (List.range 64).all (refOk p)
def ofR (r : Nat → Int) : Pl := ⟨canon fun n => r n == 0, r⟩
theorem rightP_iff {p : Pl} : rightP p = true ↔ (∀ n, n < 64 → 0 ≤ p.r n) ∧ p.f = canon fun n => p.r n == 0 := by
  simp only [rightP, Bool.and_eq_true, List.all_eq_true, List.mem_range, refOk, decide_eq_true_eq, beq_iff_eq]
  constructor
  · rintro ⟨h1, h2⟩
    obtain ⟨hb, hc⟩ := right_bf.1 h1
    refine ⟨fun n hn => (h2 n hn).1, ?_⟩
    rw [canon_congr fun n hn => (h2 n hn).2]; exact hc.symm
  · rintro ⟨h1, h2⟩
    refine ⟨by rw [h2]; exact right_iff.2 (canon_rp _), fun n hn => ⟨h1 n hn, ?_⟩⟩
    rw [h2, Bool.eq_iff_iff, covB_iff, canon_cov]
    simp; omega
theorem right_ofR {r : Nat → Int} (h : ∀ n, n < 64 → 0 ≤ r n) : rightP (ofR r) = true := rightP_iff.2 ⟨h, rfl⟩
theorem right_eq {p : Pl} (h : rightP p = true) : p = ofR p.r := by
  obtain ⟨f, r⟩ := p
  have := (rightP_iff.1 h).2
  simp only at this
  rw [this]; rfl
theorem rightP_f {p : Pl} (h : rightP p = true) : rightB p.f = true := by
  simp only [rightP, Bool.and_eq_true] at h; exact h.1
theorem rightP_cov {p : Pl} (h : rightP p = true) {n : Nat} (hn : n < 64) : covB p.f n = (p.r n == 0) := by
  simp only [rightP, Bool.and_eq_true, List.all_eq_true, List.mem_range, refOk, beq_iff_eq] at h
  exact (h.2 n hn).2.symm
def takeP (p : Pl) : Pl × Int × Int :=
  if rightP p then (if (takeS p.f 0).2.2 = 0 then (⟨(takeS p.f 0).1, updI p.r (takeS p.f 0).2.1.toNat 1⟩, (takeS p.f 0).2.1, 0) else (zeroP, 0, (takeS p.f 0).2.2)) else (zeroP, 0, 1)
def meantP (p : Pl) (n : Int) : Int := if rightP p then (if 0 ≤ n ∧ n < 64 ∧ p.r n.toNat ≠ 0 then 0 else 3) else 1
def shareP (p : Pl) (n : Int) : Pl × Int := if meantP p n = 0 then (if p.r n.toNat < 4 then (⟨p.f, updI p.r n.toNat (p.r n.toNat + 1)⟩, 0) else (zeroP, 4)) else (zeroP, meantP p n)
def dropP (p : Pl) (n : Int) : Pl × Int := if meantP p n = 0 then (if 0 < p.r n.toNat - 1 then (⟨p.f, updI p.r n.toNat (p.r n.toNat - 1)⟩, 0) else (⟨(giveS p.f ⟨n, 0⟩).1, updI p.r n.toNat (p.r n.toNat - 1)⟩, 0)) else (zeroP, meantP p n)
def mtakeP (p : Pl) : Pl × Int × Int :=
  if rightP p then (if (takeS p.f 0).2.2 = 0 then (ofR (updI p.r (takeS p.f 0).2.1.toNat 1), (takeS p.f 0).2.1, 0) else (zeroP, 0, (takeS p.f 0).2.2)) else (zeroP, 0, 1)
def mchangeP (p : Pl) (n by' : Int) : Pl × Int :=
  if rightP p then (if 0 ≤ n ∧ n < 64 ∧ p.r n.toNat ≠ 0 then (if 0 < by' ∧ 4 ≤ p.r n.toNat then (zeroP, 4) else (ofR (updI p.r n.toNat (p.r n.toNat + by')), 0)) else (zeroP, 3)) else (zeroP, 1)
theorem ok_one {n : Int} (h0 : 0 ≤ n) (h1 : n < 64) : okB ⟨n, 0⟩ = true := okB_of (by omega) (by omega) h0 (by simp [szO]; omega) (by simp [szO])
theorem in_one {n m : Int} : inB ⟨n, 0⟩ m ↔ m = n := by
  unfold inB; simp [szO]; omega
theorem okB_rng {n : Int} (h : okB ⟨n, 0⟩ = true) : 0 ≤ n ∧ n < 64 := by
  obtain ⟨h1, h2, _⟩ := okB_cases h
  simp [szO] at h1 h2
  omega
/-- What is taken was free. -/
theorem take_free {p : Pl} (h : rightP p = true) (ht : (takeS p.f 0).2.2 = 0) : 0 ≤ (takeS p.f 0).2.1 ∧ (takeS p.f 0).2.1 < 64 ∧ p.r (takeS p.f 0).2.1.toNat = 0 := by
  obtain ⟨h1, h2, h3, h4, h5⟩ := take_all ht
  obtain ⟨r1, r2⟩ := okB_rng h3
  refine ⟨r1, r2, ?_⟩
  have h6 := h5 _ (in_one.2 rfl)
  have h7 := rightP_cov h (n := (takeS p.f 0).2.1.toNat) (by omega)
  rw [Bool.eq_iff_iff, covB_iff, show (((takeS p.f 0).2.1.toNat : Nat) : Int) = (takeS p.f 0).2.1 by omega] at h7
  simpa using h7.1 h6
theorem take_of {p : Pl} (h : rightP p = true) (ht : (takeS p.f 0).2.2 = 0) : (takeS p.f 0).1 = canon fun m => updI p.r (takeS p.f 0).2.1.toNat 1 m == 0 := by
  obtain ⟨h1, h2, h3, h4, h5⟩ := take_all ht
  obtain ⟨r1, r2⟩ := okB_rng h3
  refine (canon_eq h2 fun n hn => ?_).symm
  rw [h4, in_one]
  have h7 := rightP_cov h hn
  rw [Bool.eq_iff_iff, covB_iff] at h7
  unfold updI
  split
  · next e => simp; omega
  · next e =>
    rw [h7]
    simp; intro _; omega
theorem take_eq (p : Pl) : takeP p = mtakeP p := by
  unfold takeP mtakeP
  split
  · next h =>
    split
    · next ht => rw [take_of h ht]; rfl
    · rfl
  · rfl
theorem bestF_none {l : List Blk} : ∀ {f : Nat} {o : Int}, bestF l f o = none → ∀ x ∈ l, o ≤ x.o → x.o < o + f → False
  | 0, o, h, x, hx, h1, h2 => by omega
  | f + 1, o, h, x, hx, h1, h2 => by
    unfold bestF at h
    cases hf : l.find? (fun b => b.o == o) with
    | some c => rw [hf] at h; cases h
    | none =>
      rw [hf] at h
      have := List.find?_eq_none.1 hf x hx
      simp only [beq_iff_eq] at this
      exact bestF_none h x hx (by omega) (by omega)
theorem take_full {p : Pl} (h : rightP p = true) (ht : (takeS p.f 0).2.2 ≠ 0) : (takeS p.f 0).2.2 = 4 ∧ p.f = [] := by
  have hr := rightP_f h
  rw [takeS_eq, hr, if_pos rfl, if_pos (by omega)] at ht ⊢
  cases hb : bestB p.f 0 with
  | some b => rw [hb] at ht; exact absurd rfl ht
  | none =>
    refine ⟨rfl, ?_⟩
    cases hl : p.f with
    | nil => rfl
    | cons x l =>
      exfalso
      have hx : x ∈ p.f := by rw [hl]; simp
      have hok := okB_cases ((right_rp hr).1 x hx)
      exact bestF_none hb x hx (by omega) (by omega)
theorem full_no {p : Pl} (h : rightP p = true) (hf : p.f = []) {n : Nat} (hn : n < 64) : p.r n ≠ 0 := by
  have := rightP_cov h hn
  rw [hf] at this
  simp [covB] at this
  exact this
theorem meant_zero {p : Pl} {n : Int} (h : meantP p n = 0) : rightP p = true ∧ 0 ≤ n ∧ n < 64 ∧ p.r n.toNat ≠ 0 := by
  unfold meantP at h
  split at h
  · next hr =>
    split at h
    · next h2 => exact ⟨hr, h2⟩
    · omega
  · omega
theorem share_eq (p : Pl) (n : Int) : shareP p n = mchangeP p n 1 := by
  unfold shareP mchangeP meantP
  by_cases hr : rightP p = true
  · simp only [hr, if_true]
    by_cases h2 : 0 ≤ n ∧ n < 64 ∧ p.r n.toNat ≠ 0
    · rw [if_pos h2, if_pos rfl, if_pos h2]
      by_cases h4 : p.r n.toNat < 4
      · rw [if_pos h4, if_neg (by omega)]
        have h5 := (rightP_iff.1 hr).1 n.toNat (by omega)
        have h6 := (rightP_iff.1 hr).2
        rw [h6]
        unfold ofR
        refine congrArg (fun l => ((⟨l, _⟩ : Pl), (0 : Int))) (canon_congr fun m hm => ?_)
        unfold updI
        split
        · next e =>
          subst e
          rw [Bool.eq_iff_iff]
          simp; omega
        · rfl
      · rw [if_neg h4, if_pos ⟨by omega, by omega⟩]
    · rw [if_neg h2, if_neg (by omega), if_neg h2]
  · simp [hr]
theorem drop_give {p : Pl} {n : Int} (h : meantP p n = 0) : giveS p.f ⟨n, 0⟩ = (giveC p.f ⟨n, 0⟩, 0) := by
  obtain ⟨hr, h1, h2, h3⟩ := meant_zero h
  refine give_ok (right_rp (rightP_f hr)) (ok_one h1 h2) (meets_cov.2 fun m hm hc => ?_)
  rw [in_one] at hm
  subst hm
  have h7 := rightP_cov hr (n := m.toNat) (by omega)
  rw [Bool.eq_iff_iff, covB_iff, show ((m.toNat : Nat) : Int) = m by omega] at h7
  exact h3 (by simpa using h7.1 hc)
theorem drop_eq (p : Pl) (n : Int) : dropP p n = mchangeP p n (-1) := by
  have hg := drop_give (p := p) (n := n)
  unfold dropP mchangeP
  by_cases hr : rightP p = true
  · by_cases h2 : 0 ≤ n ∧ n < 64 ∧ p.r n.toNat ≠ 0
    · have hm : meantP p n = 0 := by unfold meantP; rw [hr, if_pos rfl, if_pos h2]
      have h5 := (rightP_iff.1 hr).1 n.toNat (by omega)
      have h6 := (rightP_iff.1 hr).2
      rw [if_pos hm, if_pos hr, if_pos h2, if_neg (show ¬ ((0 : Int) < -1 ∧ 4 ≤ p.r n.toNat) by omega), hg hm]
      by_cases h4 : 0 < p.r n.toNat - 1
      · rw [if_pos h4]
        rw [h6]
        unfold ofR
        refine congrArg (fun l => ((⟨l, _⟩ : Pl), (0 : Int))) (canon_congr fun m hm => ?_)
        unfold updI
        split
        · next e =>
          subst e
          rw [Bool.eq_iff_iff]
          simp; omega
        · rfl
      · rw [if_neg h4]
        unfold ofR
        refine congrArg (fun l => ((⟨l, _⟩ : Pl), (0 : Int))) ?_
        refine (canon_congr fun m hm => ?_)
        rw [rightP_cov hr hm]
        unfold updI
        rw [Bool.eq_iff_iff, Bool.or_eq_true, inBB_iff, in_one]
        split
        · next e =>
          subst e
          simp; omega
        · next e => simp; omega
    · have hm : meantP p n = 3 := by unfold meantP; rw [hr, if_pos rfl, if_neg h2]
      rw [hm, if_neg (by omega), if_pos hr, if_neg h2]
  · have hm : meantP p n = 1 := by unfold meantP; rw [if_neg hr]
    rw [hm, if_neg (by omega), if_neg hr]
theorem change_ok {r : Nat → Int} (h : ∀ n, n < 64 → 0 ≤ r n) {n : Int} (h0 : 0 ≤ n) (h1 : n < 64) (h2 : r n.toNat ≠ 0) {by' : Int} (h3 : ¬ (0 < by' ∧ 4 ≤ r n.toNat)) : mchangeP (ofR r) n by' = (ofR (updI r n.toNat (r n.toNat + by')), 0) := by
  unfold mchangeP
  rw [right_ofR h, if_pos rfl, if_pos ⟨h0, h1, h2⟩]
  show (if 0 < by' ∧ 4 ≤ r n.toNat then (zeroP, 4) else (ofR (updI r n.toNat (r n.toNat + by')), 0)) = _
  rw [if_neg h3]
/-- What PoolBack asks. -/
theorem pool_back {p : Pl} (h : rightP p = true) (ht : (takeS p.f 0).2.2 = 0) :
    takeP p = (ofR (updI p.r (takeS p.f 0).2.1.toNat 1), (takeS p.f 0).2.1, 0) ∧
    shareP (ofR (updI p.r (takeS p.f 0).2.1.toNat 1)) (takeS p.f 0).2.1 = (ofR (updI p.r (takeS p.f 0).2.1.toNat 2), 0) ∧
    dropP (ofR (updI p.r (takeS p.f 0).2.1.toNat 2)) (takeS p.f 0).2.1 = (ofR (updI p.r (takeS p.f 0).2.1.toNat 1), 0) ∧
    dropP (ofR (updI p.r (takeS p.f 0).2.1.toNat 1)) (takeS p.f 0).2.1 = (p, 0) ∧ p.r (takeS p.f 0).2.1.toNat = 0 ∧
    (∀ x : Int, 0 ≤ x → rightP (ofR (updI p.r (takeS p.f 0).2.1.toNat x)) = true) := by
  obtain ⟨f0, f1, f2⟩ := take_free h ht
  have e1 : takeP p = (ofR (updI p.r (takeS p.f 0).2.1.toNat 1), (takeS p.f 0).2.1, 0) := by
    rw [take_eq]; unfold mtakeP; rw [if_pos h, if_pos ht]
  generalize (takeS p.f 0).2.1 = n at *
  have hp := (rightP_iff.1 h).1
  have hu : ∀ x : Int, 0 ≤ x → ∀ m, m < 64 → 0 ≤ updI p.r n.toNat x m := fun x hx m hm => by
    unfold updI; split
    · exact hx
    · exact hp m hm
  refine ⟨e1, ?_, ?_, ?_, f2, fun x hx => right_ofR (hu x hx)⟩
  · rw [share_eq, change_ok (hu 1 (by omega)) f0 f1 (by rw [updI_at]; omega) (by rw [updI_at]; omega), updI_at, updI_upd]; rfl
  · rw [drop_eq, change_ok (hu 2 (by omega)) f0 f1 (by rw [updI_at]; omega) (by omega), updI_at, updI_upd]; rfl
  · rw [drop_eq, change_ok (hu 1 (by omega)) f0 f1 (by rw [updI_at]; omega) (by omega), updI_at, updI_upd, updI_self (by rw [f2]; rfl)]
    exact Prod.ext (right_eq h).symm rfl
/-- How many are free. -/
def freeN (r : Nat → Int) : Int := cnt (fun n => r n == 0) 64
theorem cnt_upd {r : Nat → Int} {j : Nat} (h : r j = 0) : ∀ n, cnt (fun m => updI r j 1 m == 0) n = cnt (fun m => r m == 0) n - if j < n then 1 else 0
  | 0 => by simp [cnt]
  | n + 1 => by
    have ih := cnt_upd h n
    unfold cnt
    by_cases e : n = j
    · subst e
      rw [updI_at, h]
      rw [if_neg (Nat.lt_irrefl _)] at ih
      rw [if_pos (Nat.lt_succ_self _)]
      simp; omega
    · have : updI r j 1 n = r n := by unfold updI; rw [if_neg e]
      rw [this]
      by_cases e2 : j < n
      · rw [if_pos e2] at ih; rw [if_pos (show j < n + 1 by omega)]; omega
      · rw [if_neg e2] at ih; rw [if_neg (show ¬ j < n + 1 by omega)]; omega
theorem cnt_none {q : Nat → Bool} : ∀ {n : Nat}, (∀ m, m < n → q m = false) → cnt q n = 0
  | 0, _ => rfl
  | n + 1, h => by
    unfold cnt
    rw [h n (by omega), cnt_none fun m hm => h m (by omega)]; rfl
theorem cnt_nonneg' (q : Nat → Bool) : ∀ n, 0 ≤ cnt q n
  | 0 => Int.le_refl _
  | n + 1 => by
    have := cnt_nonneg' q n
    unfold cnt
    split <;> omega
theorem cnt_some {q : Nat → Bool} {j : Nat} (hq : q j = true) : ∀ {n : Nat}, j < n → 0 < cnt q n
  | 0, h => by omega
  | n + 1, h => by
    have := cnt_nonneg' q n
    unfold cnt
    by_cases e : n = j
    · subst e; rw [hq]; simp; omega
    · have := cnt_some hq (n := n) (by omega)
      split <;> omega
/-- What PoolAll asks of each step. -/
theorem all_step {p : Pl} (h : rightP p = true) (hn : 0 < freeN p.r) : (takeS p.f 0).2.2 = 0 ∧ rightP (takeP p).1 = true ∧ (takeP p).2.2 = 0 ∧ p.r (takeP p).2.1.toNat = 0 ∧ 0 ≤ (takeP p).2.1 ∧ (takeP p).2.1 < 64 ∧ (takeP p).1.r (takeP p).2.1.toNat = 1 ∧ freeN (takeP p).1.r = freeN p.r - 1 := by
  by_cases ht : (takeS p.f 0).2.2 = 0
  · obtain ⟨b1, b2, b3, b4, b5, b6⟩ := pool_back h ht
    obtain ⟨f0, f1, f2⟩ := take_free h ht
    rw [b1]
    refine ⟨ht, b6 1 (by omega), rfl, b5, f0, f1, updI_at _ _ _, ?_⟩
    have := cnt_upd b5 64
    rw [if_pos (by omega)] at this
    exact this
  · obtain ⟨h4, h5⟩ := take_full h ht
    have := cnt_none (q := fun n => p.r n == 0) (n := 64) fun m hm => by simpa using full_no h h5 hm
    unfold freeN at hn
    omega
theorem all_end {p : Pl} (h : rightP p = true) (hn : freeN p.r = 0) : (takeP p) = (zeroP, 0, 4) := by
  by_cases ht : (takeS p.f 0).2.2 = 0
  · obtain ⟨f0, f1, f2⟩ := take_free h ht
    have := cnt_some (q := fun n => p.r n == 0) (j := (takeS p.f 0).2.1.toNat) (by simp [f2]) (n := 64) (by omega)
    unfold freeN at hn
    omega
  · obtain ⟨h4, h5⟩ := take_full h ht
    unfold takeP
    rw [if_pos h, if_neg ht, h4]
theorem takeP_bad {p : Pl} (h : (takeP p).2.2 ≠ 0) : takeP p = (zeroP, 0, if rightP p then 4 else 1) ∧ (rightP p = true → p.f = []) := by
  unfold takeP at *
  by_cases hr : rightP p = true
  · rw [if_pos hr] at *
    by_cases ht : (takeS p.f 0).2.2 = 0
    · rw [if_pos ht] at h; exact absurd rfl h
    · obtain ⟨h4, h5⟩ := take_full hr ht
      rw [if_neg ht, h4, if_pos hr]
      exact ⟨rfl, fun _ => h5⟩
  · rw [if_neg hr, if_neg hr]
    exact ⟨rfl, fun h => absurd h hr⟩
end Go.Proofs.Ytnbhchfpfbbngaa
