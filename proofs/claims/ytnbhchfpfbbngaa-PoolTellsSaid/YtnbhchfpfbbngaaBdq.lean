/- The one way to have frames in blocks; what is taken and given. -/
import Derived.Test.YtnbhchfpfbbngaaBdl
namespace Go.Proofs.Ytnbhchfpfbbngaa
set_option linter.unusedVariables false
def allFr (fr : Nat → Bool) (at' n : Nat) : Bool := (List.range n).all fun j => fr (at' + j)
def fitO (fr : Nat → Bool) (at' k : Nat) : Bool := decide (at' % 2 ^ k = 0) && allFr fr at' (2 ^ k)
def bigO (fr : Nat → Bool) (at' : Nat) : Nat → Option Nat
  | 0 => none
  | k + 1 => if fitO fr at' k then some k else bigO fr at' k
def blkF (fr : Nat → Bool) : Nat → Nat → List Blk
  | 0, _ => []
  | f + 1, at' => if at' < 64 then (match bigO fr at' 7 with
      | none => blkF fr f (at' + 1)
      | some o => ⟨at', o⟩ :: blkF fr f (at' + 2 ^ o)) else []
def canon (fr : Nat → Bool) : List Blk := blkF fr 64 0
theorem allFr_iff {fr : Nat → Bool} {a n : Nat} : allFr fr a n = true ↔ ∀ j < n, fr (a + j) = true := by simp [allFr]
theorem bigO_some {fr : Nat → Bool} {a : Nat} : ∀ {k o : Nat}, bigO fr a k = some o → o < k ∧ fitO fr a o = true ∧ ∀ j, o < j → j < k → fitO fr a j = false
  | 0, _, h => by simp [bigO] at h
  | k + 1, o, h => by
    unfold bigO at h
    split at h
    · next h1 =>
      cases h
      exact ⟨Nat.lt_succ_self _, h1, fun j h2 h3 => by omega⟩
    · next h1 =>
      obtain ⟨h2, h3, h4⟩ := bigO_some h
      refine ⟨by omega, h3, fun j h5 h6 => ?_⟩
      by_cases e : j = k
      · rw [e]; simpa using h1
      · exact h4 j h5 (by omega)
theorem bigO_none {fr : Nat → Bool} {a : Nat} : ∀ {k : Nat}, bigO fr a k = none → ∀ j, j < k → fitO fr a j = false
  | 0, _, j, hj => by omega
  | k + 1, h, j, hj => by
    unfold bigO at h
    split at h
    · cases h
    · next h1 =>
      by_cases e : j = k
      · rw [e]; simpa using h1
      · exact bigO_none h j (by omega)
theorem szO_nat (k : Nat) : szO (k : Int) = ((2 ^ k : Nat) : Int) := by simp [szO]
theorem pow_dvd64 {k a : Nat} (hk : k < 7) (ha : a < 64) (h : a % 2 ^ k = 0) : a + 2 ^ k ≤ 64 := by
  have : k = 0 ∨ k = 1 ∨ k = 2 ∨ k = 3 ∨ k = 4 ∨ k = 5 ∨ k = 6 := by omega
  rcases this with rfl | rfl | rfl | rfl | rfl | rfl | rfl <;> simp at h ⊢ <;> omega
def isBig (fr : Nat → Bool) (b : Blk) : Prop := ∃ a o : Nat, b = ⟨a, o⟩ ∧ a < 64 ∧ bigO fr a 7 = some o
theorem isBig.ok {fr : Nat → Bool} {b : Blk} (h : isBig fr b) : okB b = true := by
  obtain ⟨a, o, rfl, ha, hb⟩ := h
  obtain ⟨h1, h2, _⟩ := bigO_some hb
  simp only [fitO, Bool.and_eq_true, decide_eq_true_eq] at h2
  have := pow_dvd64 h1 ha h2.1
  simp only [okB, Bool.and_eq_true, decide_eq_true_eq, szO_nat]
  refine ⟨⟨⟨⟨by omega, by omega⟩, by omega⟩, by omega⟩, ?_⟩
  have := h2.1
  exact_mod_cast this
theorem isBig.in {fr : Nat → Bool} {b : Blk} (h : isBig fr b) {n : Int} (hn : inB b n) : 0 ≤ n ∧ n < 64 ∧ fr n.toNat = true := by
  have hok := okB_cases h.ok
  obtain ⟨a, o, rfl, ha, hb⟩ := h
  obtain ⟨h1, h2, _⟩ := bigO_some hb
  simp only [fitO, Bool.and_eq_true, decide_eq_true_eq] at h2
  have hA := allFr_iff.1 h2.2
  unfold inB at hn
  simp only [szO_nat] at hn hok
  have := hA (n.toNat - a) (by omega)
  rw [show a + (n.toNat - a) = n.toNat by omega] at this
  exact ⟨by omega, by omega, this⟩
theorem big_low {fr : Nat → Bool} {a o : Nat} (h1 : bigO fr a 7 = some o) (h2 : fitO fr (a + 2 ^ o) o = true) (h6 : o < 6) (ha : a % 2 ^ (o + 1) = 0) : False := by
  obtain ⟨_, h3, h4⟩ := bigO_some h1
  have h5 := h4 (o + 1) (by omega) (by omega)
  simp only [fitO, Bool.and_eq_true, decide_eq_true_eq] at h2 h3
  have h7 : fitO fr a (o + 1) = true := by
    simp only [fitO, Bool.and_eq_true, decide_eq_true_eq]
    refine ⟨ha, allFr_iff.2 fun j hj => ?_⟩
    rw [Nat.pow_succ] at hj
    by_cases hl : j < 2 ^ o
    · exact allFr_iff.1 h3.2 j hl
    · have := allFr_iff.1 h2.2 (j - 2 ^ o) (by omega)
      rw [show a + 2 ^ o + (j - 2 ^ o) = a + j by omega] at this
      exact this
  rw [h7] at h5; cases h5
theorem big_noBud {fr : Nat → Bool} {l : List Blk} (h : ∀ b ∈ l, isBig fr b) : noBud l := by
  intro x hx y hy h6 e
  have okx := okB_cases (h x hx).ok
  have oky := okB_cases (h y hy).ok
  obtain ⟨a, o, rfl, ha, hb⟩ := h x hx
  obtain ⟨c, p, rfl, hc, hd⟩ := h y hy
  have e1 : (c : Int) = budA a o := congrArg Blk.a e
  have e2 : (p : Int) = o := congrArg Blk.o e
  have e3 : p = o := by omega
  subst e3
  simp only at h6
  obtain ⟨_, f1, _⟩ := bigO_some hb
  obtain ⟨_, g1, _⟩ := bigO_some hd
  have hp0 : 0 < 2 ^ p := Nat.two_pow_pos p
  unfold budA at e1
  simp only [szO_nat] at e1 okx oky
  obtain ⟨_, _, okx, _⟩ := okx
  obtain ⟨_, _, oky, _⟩ := oky
  have ha0 : a % 2 ^ p = 0 := by exact_mod_cast okx
  have hc0 : c % 2 ^ p = 0 := by exact_mod_cast oky
  have key : ∀ z : Nat, z % 2 ^ p = 0 → (z / 2 ^ p) % 2 = 0 → z % 2 ^ (p + 1) = 0 := by
    intro z h1 h2
    obtain ⟨k, rfl⟩ := Nat.dvd_of_mod_eq_zero h1
    rw [Nat.mul_div_cancel_left _ hp0] at h2
    obtain ⟨q, rfl⟩ := Nat.dvd_of_mod_eq_zero h2
    rw [Nat.pow_succ, ← Nat.mul_assoc]
    exact Nat.mul_mod_right _ _
  split at e1
  · next hz =>
    have hz' : (a / 2 ^ p) % 2 = 0 := by exact_mod_cast hz
    have : c = a + 2 ^ p := by omega
    subst this
    exact big_low hb g1 (by omega) (key a ha0 hz')
  · next hz =>
    have hz' : ¬ (a / 2 ^ p) % 2 = 0 := by exact_mod_cast hz
    have hca : a = c + 2 ^ p := by omega
    subst hca
    refine big_low hd f1 (by omega) (key c hc0 ?_)
    rw [Nat.add_div_right _ hp0] at hz'
    omega
theorem blkF_all (fr : Nat → Bool) : ∀ (f a : Nat), (∀ b ∈ blkF fr f a, isBig fr b ∧ (a : Int) ≤ b.a) ∧ (blkF fr f a).Pairwise ltB
  | 0, _ => ⟨by simp [blkF], by simp [blkF]⟩
  | f + 1, a => by
    unfold blkF
    split
    · next ha =>
      cases hb : bigO fr a 7 with
      | none =>
        obtain ⟨h1, h2⟩ := blkF_all fr f (a + 1)
        exact ⟨fun b hb => ⟨(h1 b hb).1, by have := (h1 b hb).2; omega⟩, h2⟩
      | some o =>
        obtain ⟨h1, h2⟩ := blkF_all fr f (a + 2 ^ o)
        refine ⟨fun b hm => ?_, List.pairwise_cons.2 ⟨fun b hm => ?_, h2⟩⟩
        · rcases List.mem_cons.1 hm with rfl | hm
          · exact ⟨⟨a, o, rfl, ha, hb⟩, Int.le_refl _⟩
          · exact ⟨(h1 b hm).1, by have := (h1 b hm).2; have := Nat.two_pow_pos o; omega⟩
        · have := (h1 b hm).2
          unfold ltB; simp only [szO_nat]; omega
    · simp
theorem blkF_cov (fr : Nat → Bool) : ∀ (f a : Nat), 64 ≤ a + f → ∀ n : Nat, a ≤ n → n < 64 → fr n = true → cov (blkF fr f a) n
  | 0, a, h, n, h1, h2, _ => by omega
  | f + 1, a, h, n, h1, h2, h3 => by
    unfold blkF
    rw [if_pos (by omega)]
    cases hb : bigO fr a 7 with
    | none =>
      by_cases e : n = a
      · have := bigO_none hb 0 (by omega)
        subst e
        simp [fitO, allFr, h3, Nat.mod_one] at this
      · exact blkF_cov fr f (a + 1) (by omega) n (by omega) h2 h3
    | some o =>
      have := Nat.two_pow_pos o
      by_cases e : n < a + 2 ^ o
      · exact cov_cons.2 (.inl ⟨by simp only; omega, by simp only [szO_nat]; omega⟩)
      · exact cov_cons.2 (.inr (blkF_cov fr f (a + 2 ^ o) (by omega) n (by omega) h2 h3))
theorem canon_rp (fr : Nat → Bool) : Rp (canon fr) := ⟨fun b hb => ((blkF_all fr 64 0).1 b hb).1.ok, (blkF_all fr 64 0).2, big_noBud fun b hb => ((blkF_all fr 64 0).1 b hb).1⟩
theorem canon_cov (fr : Nat → Bool) (n : Int) : cov (canon fr) n ↔ 0 ≤ n ∧ n < 64 ∧ fr n.toNat = true := by
  constructor
  · rintro ⟨b, hb, hi⟩
    exact ((blkF_all fr 64 0).1 b hb).1.in hi
  · rintro ⟨h1, h2, h3⟩
    have := blkF_cov fr 64 0 (by omega) n.toNat (by omega) (by omega) h3
    rwa [show ((n.toNat : Nat) : Int) = n by omega] at this
theorem cov_range {l : List Blk} (h : ∀ b ∈ l, okB b = true) {n : Int} (hc : cov l n) : 0 ≤ n ∧ n < 64 := by
  obtain ⟨b, hb, hi⟩ := hc
  obtain ⟨h1, h2, _⟩ := okB_cases (h b hb)
  unfold inB at hi
  omega
theorem canon_eq {l : List Blk} {fr : Nat → Bool} (h : Rp l) (hf : ∀ n : Nat, n < 64 → (cov l n ↔ fr n = true)) : canon fr = l := by
  refine rp_eq _ _ (canon_rp fr) h fun n => ?_
  rw [canon_cov]
  constructor
  · rintro ⟨h1, h2, h3⟩
    have := (hf n.toNat (by omega)).2 h3
    rwa [show ((n.toNat : Nat) : Int) = n by omega] at this
  · intro hc
    obtain ⟨h1, h2⟩ := cov_range h.1 hc
    refine ⟨h1, h2, (hf n.toNat (by omega)).1 ?_⟩
    rwa [show ((n.toNat : Nat) : Int) = n by omega]
theorem canon_congr {f g : Nat → Bool} (h : ∀ n, n < 64 → f n = g n) : canon f = canon g := by
  refine canon_eq (canon_rp g) fun n hn => ?_
  rw [canon_cov, h n hn]
  simp only [Int.toNat_natCast]
  exact ⟨fun h => h.2.2, fun h => ⟨by omega, by omega, h⟩⟩
def inBB (b : Blk) (n : Nat) : Bool := decide (b.a ≤ n) && decide ((n : Int) < b.a + szO b.o)
def covB (l : List Blk) (n : Nat) : Bool := l.any fun b => inBB b n
theorem inBB_iff {b : Blk} {n : Nat} : inBB b n = true ↔ inB b n := by simp [inBB, inB]
theorem covB_iff {l : List Blk} {n : Nat} : covB l n = true ↔ cov l n := by
  simp [covB, cov, inBB_iff]
def meetB (x b : Blk) : Bool := decide (x.a < b.a + szO b.o) && decide (b.a < x.a + szO x.o)
def meets (l : List Blk) (b : Blk) : Bool := l.any fun x => meetB x b
theorem meetB_dj {x b : Blk} : meetB x b = false ↔ djB x b := by
  unfold meetB djB ltB
  rw [Bool.and_eq_false_iff, decide_eq_false_iff_not, decide_eq_false_iff_not]
  omega
theorem meets_false {l : List Blk} {b : Blk} : meets l b = false ↔ ∀ x ∈ l, djB x b := by
  unfold meets
  rw [List.any_eq_false]
  exact ⟨fun h x hx => meetB_dj.1 (by simpa using h x hx), fun h x hx => by simp [meetB_dj.2 (h x hx)]⟩
theorem dj_iff {x b : Blk} : djB x b ↔ ∀ n, inB x n → ¬ inB b n := by
  have := szO_pos x.o
  have := szO_pos b.o
  constructor
  · intro h n h1 h2
    unfold djB ltB at h; unfold inB at h1 h2; omega
  · intro h
    have h1 := h x.a (inB_start x)
    have h2 : ¬ inB x b.a := fun hx => h b.a hx (inB_start b)
    have h1 : ¬ inB b x.a := h1
    unfold djB ltB; unfold inB at h1 h2
    omega
theorem meets_cov {l : List Blk} {b : Blk} : meets l b = false ↔ ∀ n, inB b n → ¬ cov l n := by
  rw [meets_false]
  constructor
  · rintro h n hn ⟨x, hx, hi⟩
    exact dj_iff.1 (h x hx) n hi hn
  · intro h x hx
    exact dj_iff.2 fun n hi hn => h n hn ⟨x, hx, hi⟩
def bestF (l : List Blk) : Nat → Int → Option Blk
  | 0, _ => none
  | f + 1, o => match l.find? (fun b => b.o == o) with
    | some b => some b
    | none => bestF l f (o + 1)
def bestB (l : List Blk) (ord : Int) : Option Blk := bestF l (7 - ord).toNat ord
def isBest (l : List Blk) (ord : Int) (i : Nat) (b : Blk) : Prop := l[i]? = some b ∧ ord ≤ b.o ∧ ∀ j c, l[j]? = some c → ord ≤ c.o → b.o ≤ c.o ∧ (j < i → b.o < c.o)
theorem find_first {p : Blk → Bool} : ∀ {l : List Blk} {i : Nat} {b : Blk}, l[i]? = some b → p b = true → (∀ j c, j < i → l[j]? = some c → p c = false) → l.find? p = some b
  | [], i, b, h, _, _ => by simp at h
  | x :: l, 0, b, h, hp, _ => by
    simp at h; subst h
    rw [List.find?_cons_of_pos hp]
  | x :: l, i + 1, b, h, hp, hn => by
    rw [List.find?_cons_of_neg (by simp [hn 0 x (by omega) rfl])]
    exact find_first (by simpa using h) hp fun j c hj hc => hn (j + 1) c (by omega) (by simpa using hc)
theorem best_is {l : List Blk} {ord : Int} {i : Nat} {b : Blk} (h6 : b.o ≤ 6) (h : isBest l ord i b) : bestB l ord = some b := by
  obtain ⟨h1, h2, h3⟩ := h
  have : ∀ (f : Nat) (o : Int), ord ≤ o → o ≤ b.o → 7 ≤ o + f → bestF l f o = some b := by
    intro f
    induction f with
    | zero => intro o _ _ _; omega
    | succ f ih =>
      intro o ho1 ho2 ho3
      unfold bestF
      by_cases e : o = b.o
      · rw [find_first h1 (by simp [e]) fun j c hj hc => ?_]
        by_cases hoc : ord ≤ c.o
        · have := (h3 j c hc hoc).2 hj
          simp; omega
        · simp; omega
      · rw [List.find?_eq_none.2 fun c hc => ?_]
        · exact ih (o + 1) (by omega) (by omega) (by omega)
        · obtain ⟨j, hj⟩ := List.getElem?_of_mem hc
          intro hco
          have hco : c.o = o := by simpa using hco
          have := (h3 j c hj (by omega)).1
          omega
  exact this _ _ (Int.le_refl _) h2 (by omega)
theorem best_none {l : List Blk} {ord : Int} (h : ∀ c ∈ l, c.o < ord) : bestB l ord = none := by
  have : ∀ (f : Nat) (o : Int), ord ≤ o → bestF l f o = none := by
    intro f
    induction f with
    | zero => intro o _; rfl
    | succ f ih =>
      intro o ho
      unfold bestF
      rw [List.find?_eq_none.2 fun c hc => ?_]
      · exact ih (o + 1) (by omega)
      · have := h c hc
        simp; omega
  exact this _ _ (Int.le_refl _)
theorem bestF_some {l : List Blk} : ∀ {f : Nat} {o : Int} {b : Blk}, bestF l f o = some b → b ∈ l ∧ o ≤ b.o
  | 0, _, _, h => by simp [bestF] at h
  | f + 1, o, b, h => by
    unfold bestF at h
    cases hf : l.find? (fun b => b.o == o) with
    | some c =>
      rw [hf] at h
      cases h
      have := List.find?_some hf
      exact ⟨List.mem_of_find?_eq_some hf, by simp at this; omega⟩
    | none =>
      rw [hf] at h
      obtain ⟨h1, h2⟩ := bestF_some h
      exact ⟨h1, by omega⟩
def takeC (l : List Blk) (a ord : Int) : List Blk := canon fun n => covB l n && !inBB ⟨a, ord⟩ n
def takeS (l : List Blk) (ord : Int) : List Blk × Int × Int :=
  if rightB l then (if 0 ≤ ord ∧ ord ≤ 6 then (match bestB l ord with
    | none => ([], 0, 4)
    | some b => (takeC l b.a ord, b.a, 0)) else ([], 0, 2)) else ([], 0, 1)
def giveC (l : List Blk) (b : Blk) : List Blk := canon fun n => covB l n || inBB b n
def giveS (l : List Blk) (b : Blk) : List Blk × Int :=
  if rightB l then (if okB b then (if meets l b then ([], 7) else (giveC l b, 0)) else ([], 2)) else ([], 1)
theorem perm_erase : ∀ {l : List Blk} {i : Nat} {b : Blk}, l[i]? = some b → l.Perm (b :: l.eraseIdx i)
  | [], i, b, h => by simp at h
  | x :: l, 0, b, h => by
    simp at h; subst h
    exact List.Perm.refl _
  | x :: l, i + 1, b, h => ((perm_erase (l := l) (i := i) (by simpa using h)).cons x).trans (List.Perm.swap _ _ _)
/-- The halves that are put aside. -/
def TkI (l : List Blk) (a : Int) (out : List Blk) (o : Int) : Prop := okB ⟨a, o⟩ = true ∧ Good out ∧ (∀ x ∈ out, djB x ⟨a, o⟩) ∧ ∀ n, cov out n ∨ inB ⟨a, o⟩ n ↔ cov l n
theorem TkI.start {l : List Blk} (h : Rp l) {i : Nat} {b : Blk} (hb : l[i]? = some b) : TkI l b.a (l.eraseIdx i) b.o := by
  have hp : l.Perm (b :: l.eraseIdx i) := perm_erase hb
  have hg := h.good.perm hp
  refine ⟨hg.1 b (by simp), ⟨fun x hx => hg.1 x (by simp [hx]), (List.pairwise_cons.1 hg.2.1).2, fun x hx y hy => hg.2.2 x (by simp [hx]) y (by simp [hy])⟩, fun x hx => djB_symm ((List.pairwise_cons.1 hg.2.1).1 x hx), fun n => ?_⟩
  rw [cov_perm hp, cov_cons]
  exact Or.comm
theorem okB_of {a o : Int} (h1 : 0 ≤ o) (h2 : o ≤ 6) (h3 : 0 ≤ a) (h4 : a ≤ 64 - szO o) (h5 : a % szO o = 0) : okB ⟨a, o⟩ = true := by
  simp only [okB, Bool.and_eq_true, decide_eq_true_eq]
  exact ⟨⟨⟨⟨h1, h2⟩, h3⟩, h4⟩, h5⟩
theorem half_ok {a o : Int} (h : okB ⟨a, o⟩ = true) (h0 : 0 < o) : szO o = 2 * szO (o - 1) ∧ okB ⟨a, o - 1⟩ = true ∧ okB ⟨a + szO (o - 1), o - 1⟩ = true ∧ budA (a + szO (o - 1)) (o - 1) = a := by
  obtain ⟨h1, h2, h3, h4⟩ := okB_cases h
  simp only at h1 h2 h3 h4
  rcases h4 with ⟨e1, e2⟩ | ⟨e1, e2⟩ | ⟨e1, e2⟩ | ⟨e1, e2⟩ | ⟨e1, e2⟩ | ⟨e1, e2⟩ | ⟨e1, e2⟩
  · omega
  all_goals
    rw [e2] at h2 h3
    subst e1
    refine ⟨by simp [szO], okB_of (by omega) (by omega) (by omega) (by simp [szO] <;> omega) (by simp [szO] <;> omega), okB_of (by omega) (by omega) (by simp [szO] <;> omega) (by simp [szO] <;> omega) (by simp [szO] <;> omega), ?_⟩
    unfold budA
    rw [if_neg (by simp [szO] <;> omega)]; omega
theorem good_snoc {out : List Blk} {h : Blk} (hg : Good out) (hok : okB h = true) (hd : ∀ x ∈ out, djB x h) (hb : h.o < 6 → ∀ x ∈ out, x ≠ ⟨budA h.a h.o, h.o⟩) : Good (out ++ [h]) := by
  refine ⟨fun x hx => ?_, List.pairwise_append.2 ⟨hg.2.1, by simp, fun x hx y hy => ?_⟩, fun x hx y hy h6 e => ?_⟩
  · rcases List.mem_append.1 hx with hx | hx
    · exact hg.1 x hx
    · rw [List.mem_singleton.1 hx]; exact hok
  · rw [List.mem_singleton.1 hy]; exact hd x hx
  · rcases List.mem_append.1 hx with hx | hx <;> rcases List.mem_append.1 hy with hy | hy
    · exact hg.2.2 x hx y hy h6 e
    · rw [List.mem_singleton.1 hy] at e
      refine hb (by rw [e]; exact h6) x hx ?_
      have e1 : h.a = budA x.a x.o := by rw [e]
      have e2 : h.o = x.o := by rw [e]
      rw [e1, e2, budA_budA (hg.1 x hx) h6]
    · rw [List.mem_singleton.1 hx] at e h6
      exact hb h6 y hy e
    · rw [List.mem_singleton.1 hx, List.mem_singleton.1 hy] at e
      have e1 : h.a = budA h.a h.o := congrArg Blk.a e
      have := szO_pos h.o
      unfold budA at e1; split at e1 <;> omega
theorem TkI.step {l : List Blk} {a o : Int} {out : List Blk} (h : TkI l a out o) (h0 : 0 < o) : TkI l a (out ++ [⟨a + szO (o - 1), o - 1⟩]) (o - 1) := by
  obtain ⟨h1, h2, h3, h4⟩ := h
  obtain ⟨e1, e2, e3, e4⟩ := half_ok h1 h0
  have hp := szO_pos (o - 1)
  refine ⟨e2, good_snoc h2 e3 (fun x hx => ?_) (fun _ x hx e => ?_), fun x hx => ?_, fun n => ?_⟩
  · have := h3 x hx
    have := szO_pos x.o
    unfold djB ltB at *; simp only at *; omega
  · simp only [e4] at e
    have := h3 x hx
    rw [e] at this
    unfold djB ltB at this; simp only at this; omega
  · rcases List.mem_append.1 hx with hx | hx
    · have := h3 x hx
      have := szO_pos x.o
      unfold djB ltB at *; simp only at *; omega
    · rw [List.mem_singleton.1 hx]
      unfold djB ltB; simp only; omega
  · rw [← h4 n, cov_append, or_assoc]
    refine or_congr Iff.rfl ?_
    simp only [cov, List.mem_singleton, exists_eq_left, inB]
    omega
theorem TkI.end {l : List Blk} {a o : Int} {out : List Blk} (h : TkI l a out o) {m : List Blk} (hp : out.Perm m) (hs : m.Pairwise fun x y => x.a ≤ y.a) : m = takeC l a o := by
  obtain ⟨h1, h2, h3, h4⟩ := h
  refine (canon_eq ((h2.perm hp).sorted hs) fun n hn => ?_).symm
  rw [Bool.and_eq_true, covB_iff, Bool.not_eq_true', ← Bool.not_eq_true, inBB_iff, ← h4 n, ← cov_perm hp]
  constructor
  · rintro hc
    obtain ⟨x, hx, hi⟩ := id hc
    exact ⟨.inl hc, dj_iff.1 (h3 x hx) n hi⟩
  · rintro ⟨h | h, h5⟩
    · exact h
    · exact absurd h h5
/-- The merging. -/
def GvI (l : List Blk) (b0 : Blk) (out : List Blk) (b : Blk) : Prop := okB b = true ∧ Good out ∧ (∀ x ∈ out, djB x b) ∧ ∀ n, cov out n ∨ inB b n ↔ cov l n ∨ inB b0 n
theorem GvI.start {l : List Blk} (h : Rp l) {b : Blk} (hb : okB b = true) (hm : meets l b = false) : GvI l b l b := ⟨hb, h.good, meets_false.1 hm, fun n => Iff.rfl⟩
theorem merge_ok {a o : Int} (h : okB ⟨a, o⟩ = true) (h6 : o < 6) : szO (o + 1) = 2 * szO o ∧ okB ⟨min a (budA a o), o + 1⟩ = true ∧ (budA a o = a + szO o ∨ budA a o = a - szO o) := by
  obtain ⟨h1, h2, h3, h4⟩ := okB_cases h
  simp only at h1 h2 h3 h4
  rcases h4 with ⟨e1, e2⟩ | ⟨e1, e2⟩ | ⟨e1, e2⟩ | ⟨e1, e2⟩ | ⟨e1, e2⟩ | ⟨e1, e2⟩ | ⟨e1, e2⟩
  case inr.inr.inr.inr.inr.inr => omega
  all_goals
    rw [e2] at h2 h3
    subst e1
    refine ⟨by simp [szO], ?_, ?_⟩
    · unfold budA
      rw [e2]
      split <;> exact okB_of (by omega) (by omega) (by omega) (by simp [szO] <;> omega) (by simp [szO] <;> omega)
    · unfold budA
      split <;> simp
theorem GvI.step {l : List Blk} {b0 b : Blk} {out : List Blk} {k : Nat} (h : GvI l b0 out b) (h6 : b.o < 6) (hk : out[k]? = some ⟨budA b.a b.o, b.o⟩) : GvI l b0 (out.eraseIdx k) ⟨min b.a (budA b.a b.o), b.o + 1⟩ := by
  obtain ⟨h1, h2, h3, h4⟩ := h
  obtain ⟨e1, e2, e3⟩ := merge_ok (a := b.a) (o := b.o) h1 h6
  have hpos := szO_pos b.o
  have hp : out.Perm (⟨budA b.a b.o, b.o⟩ :: out.eraseIdx k) := perm_erase hk
  have hg := h2.perm hp
  have hd := (List.pairwise_cons.1 hg.2.1).1
  refine ⟨e2, ⟨fun x hx => hg.1 x (by simp [hx]), (List.pairwise_cons.1 hg.2.1).2, fun x hx y hy => hg.2.2 x (by simp [hx]) y (by simp [hy])⟩, fun x hx => ?_, fun n => ?_⟩
  · have q1 := hd x hx
    have q2 := h3 x (hp.mem_iff.2 (by simp [hx]))
    have := szO_pos x.o
    unfold djB ltB at *; simp only at *; omega
  · rw [← h4 n, cov_perm hp, cov_cons]
    have : inB ⟨min b.a (budA b.a b.o), b.o + 1⟩ n ↔ inB ⟨budA b.a b.o, b.o⟩ n ∨ inB b n := by
      unfold inB; simp only; omega
    rw [this]
    constructor
    · rintro (h | h | h)
      · exact .inl (.inr h)
      · exact .inl (.inl h)
      · exact .inr h
    · rintro ((h | h) | h)
      · exact .inr (.inl h)
      · exact .inl h
      · exact .inr (.inr h)
theorem GvI.end {l : List Blk} {b0 b : Blk} {out : List Blk} (h : GvI l b0 out b) (hn : b.o < 6 → ∀ x ∈ out, x ≠ ⟨budA b.a b.o, b.o⟩) {m : List Blk} (hp : (out ++ [b]).Perm m) (hs : m.Pairwise fun x y => x.a ≤ y.a) : m = giveC l b0 := by
  obtain ⟨h1, h2, h3, h4⟩ := h
  refine (canon_eq (((good_snoc h2 h1 h3 hn).perm hp).sorted hs) fun n hn => ?_).symm
  rw [Bool.or_eq_true, covB_iff, inBB_iff, ← h4 n, ← cov_perm hp, cov_append]
  simp [cov]
end Go.Proofs.Ytnbhchfpfbbngaa
