/- Several texts in one: Flr, Flrb, Flrc, Flrd, Fmh, SlQ. -/
import Derived.Test.YtglnnplijienbaaM22
import Derived.Test.YtglnnplijienbaaM11
import Derived.Shelf.Abstract
/- flat, plain: what is sealed stays. -/
namespace Go.Proofs.Ytglnnplijienbaa
set_option linter.unusedVariables false
theorem child_dead {W : Fw} (h : childF W < 4) : (W (childF W)).live = false := by
  unfold childF at h ⊢
  split
  · assumption
  · split
    · assumption
    · split
      · assumption
      · split
        · assumption
        · rename_i h0 h1 h2 h3
          simp [h0, h1, h2, h3] at h
theorem child_le (W : Fw) : childF W ≤ 4 := by unfold childF; split <;> (try split) <;> (try split) <;> (try split) <;> omega
/-- A page that is sealed stays, as long as nobody leaves. -/
theorem sealed_do {W : Fw} (h : OkW W) (o : Fop) (hk9 : o.kind ≠ 9) {k : Nat} {q : Int} {t : Att} (hq : Has (W k).rg q t) (ht : t.s = true) : Has ((doF W o).1 k).rg q t := by
  have hlive : (W k).live = true := by
    cases hl : (W k).live with
    | true => rfl
    | false => rw [(h.p k).dead hl] at hq; exact absurd hq has_nil
  unfold doF
  by_cases h1 : o.kind < 1 ∨ 14 < o.kind
  · rw [if_pos h1]; exact hq
  rw [if_neg h1]
  by_cases h2 : o.kind = 14
  · rw [if_pos h2]; exact hq
  rw [if_neg h2]
  by_cases h3 : o.proc < 0 ∨ 4 ≤ o.proc ∨ (W o.proc.toNat).live = false
  · rw [if_pos h3]; exact hq
  rw [if_neg h3]
  generalize hp : o.proc.toNat = j at *
  have up : ∀ p : Fp, (k = j → Has p.rg q t) → Has ((updW W j p) k).rg q t := fun p hh => by
    by_cases e : k = j
    · subst e; rw [updW_at]; exact hh rfl
    · rw [updW_ne _ _ e]; exact hq
  by_cases h4 : o.kind ≤ 4
  · rw [if_pos h4]
    by_cases h5 : o.kind = 1
    · simp only [if_pos h5]
      by_cases h6 : (mapF (W j).rg (W j).ks (mappedF W) o).2.err = 0
      · rw [if_pos h6]
        obtain ⟨e1, e2, _⟩ := map_ok h6
        refine up _ fun e => ?_
        subst e
        show Has (mapF (W k).rg (W k).ks (mappedF W) o).1 q t
        rw [e1, (add_has e2).2]; exact .inl hq
      · rw [if_neg h6]; exact hq
    · simp only [if_neg h5]
      by_cases h6 : (shapeF (W j).rg (W j).ks o).2.err = 0
      · rw [if_pos h6]
        refine up _ fun e => ?_
        subst e
        show Has (shapeF (W k).rg (W k).ks o).1 q t
        rcases (shape_ok (by omega) h6).2 with ⟨_, e1, e2, e3⟩ | ⟨_, _, _, e1, e2, e3⟩ | ⟨_, e1, e2⟩
        · rw [e2, (cut_has e1).2]
          exact ⟨hq, fun hh => by rw [e3 q t hq hh.1 hh.2] at ht; cases ht⟩
        · rw [e2, (turn_has e1).2]
          exact .inl ⟨hq, fun hh => by rw [e3 q t hq hh.1 hh.2] at ht; cases ht⟩
        · rw [e2, (turn_has e1).2]
          by_cases hh : o.page ≤ q ∧ q < o.page + o.count
          · exact .inr ⟨hh.1, hh.2, t, hq, by cases t; simp only at ht; subst ht; rfl⟩
          · exact .inl ⟨hq, hh⟩
      · rw [if_neg h6]; exact hq
  rw [if_neg h4]
  by_cases h5 : o.kind ≤ 7
  · rw [if_pos h5]
    simp only
    by_cases h6 : (holdF (W j).rg (W j).ks o).2.err = 0
    · rw [if_pos h6]; exact up _ fun e => by subst e; exact hq
    · rw [if_neg h6]; exact hq
  rw [if_neg h5]
  by_cases h6 : o.kind = 8
  · rw [if_pos h6]
    unfold forkF
    split
    · exact hq
    · rename_i h7
      have hc : childF W < 4 := by have := child_le W; omega
      have : k ≠ childF W := fun e => by rw [e, child_dead hc] at hlive; cases hlive
      show Has ((updW W (childF W) (W j)) k).rg q t
      rw [updW_ne _ _ this]; exact hq
  rw [if_neg h6, if_neg hk9]
  exact up _ fun e => by subst e; rw [(look_same _ _).1]; exact hq
theorem sealed_fold : ∀ (l : List Fop) (W : Fw) (a : List Fan), OkW W → (∀ o ∈ l, o.kind ≠ 9) → ∀ {k : Nat} {q : Int} {t : Att}, Has (W k).rg q t → t.s = true → Has ((l.foldl (fun s o => ((doF s.1 o).1, s.2 ++ [(doF s.1 o).2])) (W, a)).1 k).rg q t
  | [], _, _, _, _, _, _, _, hq, _ => hq
  | o :: l, W, a, h, hn, k, q, t, hq, ht => by
    rw [List.foldl_cons]
    exact sealed_fold l _ _ (ok_do h o) (fun x hx => hn x (List.mem_cons_of_mem _ hx)) (sealed_do h o (hn o List.mem_cons_self) hq ht) ht
/-- FlatSealed, plainly. -/
theorem sealed_law (l m : List Fop) (hm : ∀ o ∈ m, o.kind ≠ 9) {k : Nat} {q : Int} {a : Att} (h : at? ((runF l).1 k).rg q = some a) (hs : a.s = true) : at? ((runF (l ++ m)).1 k).rg q = some a := by
  have ok1 := ok_run l
  have ok2 := ok_run (l ++ m)
  rw [at_some (right_good (ok1.p k).r)] at h
  rw [at_some (right_good (ok2.p k).r)]
  unfold runF
  rw [List.foldl_append]
  exact sealed_fold m _ _ (ok_run l) hm h hs
end Go.Proofs.Ytglnnplijienbaa

/- flat, plain: what has an error changes nothing; one thing more changes nobody but who does it. -/
namespace Go.Proofs.Ytglnnplijienbaa
set_option linter.unusedVariables false
theorem look_err {p : Fp} {o : Fop} (h : (lookF p o).2.err ≠ 0) : (lookF p o).1 = p := by
  unfold lookF at h ⊢
  split
  · rfl
  · split
    · rfl
    · rename_i h1 h2
      rw [if_neg h1, if_neg h2] at h
      split
      · rename_i h3; rw [if_pos h3] at h; exact absurd rfl h
      · rename_i h3
        rw [if_neg h3] at h
        split
        · rename_i h4; rw [if_pos h4] at h; exact absurd rfl h
        · rfl
theorem updW_self (W : Fw) (k : Nat) : updW W k (W k) = W := by
  funext i
  by_cases e : i = k
  · subst e; rw [updW_at]
  · rw [updW_ne _ _ e]
theorem do_err {W : Fw} {o : Fop} (h : (doF W o).2.err ≠ 0) : (doF W o).1 = W := by
  unfold doF at h ⊢
  by_cases h1 : o.kind < 1 ∨ 14 < o.kind
  · rw [if_pos h1]
  rw [if_neg h1] at h ⊢
  by_cases h2 : o.kind = 14
  · rw [if_pos h2]
  rw [if_neg h2] at h ⊢
  by_cases h3 : o.proc < 0 ∨ 4 ≤ o.proc ∨ (W o.proc.toNat).live = false
  · rw [if_pos h3]
  rw [if_neg h3] at h ⊢
  by_cases h4 : o.kind ≤ 4
  · rw [if_pos h4] at h ⊢
    simp only at h ⊢
    generalize (if o.kind = 1 then mapF (W o.proc.toNat).rg (W o.proc.toNat).ks (mappedF W) o else shapeF (W o.proc.toNat).rg (W o.proc.toNat).ks o) = r at h ⊢
    by_cases h5 : r.2.err = 0
    · rw [if_pos h5] at h; exact absurd h5 h
    · rw [if_neg h5]
  rw [if_neg h4] at h ⊢
  by_cases h5 : o.kind ≤ 7
  · rw [if_pos h5] at h ⊢
    simp only at h ⊢
    split
    · rename_i h6; rw [if_pos h6] at h; exact absurd h6 h
    · rfl
  rw [if_neg h5] at h ⊢
  by_cases h6 : o.kind = 8
  · rw [if_pos h6] at h ⊢
    unfold forkF at h ⊢
    split
    · rfl
    · rename_i h7; rw [if_neg h7] at h; exact absurd rfl h
  rw [if_neg h6] at h ⊢
  by_cases h7 : o.kind = 9
  · rw [if_pos h7] at h; exact absurd rfl h
  rw [if_neg h7] at h ⊢
  show updW W _ _ = W
  rw [look_err h, updW_self]
/-- Whoever does not do it is as before, if it is no fork. -/
theorem do_apart {W : Fw} {o : Fop} (h8 : o.kind ≠ 8) {j : Nat} (hj : (j : Int) ≠ o.proc) : (doF W o).1 j = W j := by
  unfold doF
  split
  · rfl
  split
  · rfl
  split
  · rfl
  rename_i h1 h2 h3
  have hne : j ≠ o.proc.toNat := by omega
  split
  · simp only
    generalize (if o.kind = 1 then mapF (W o.proc.toNat).rg (W o.proc.toNat).ks (mappedF W) o else shapeF (W o.proc.toNat).rg (W o.proc.toNat).ks o) = r
    by_cases h5 : r.2.err = 0
    · rw [if_pos h5]; exact updW_ne _ _ hne
    · rw [if_neg h5]
  split
  · simp only
    split
    · exact updW_ne _ _ hne
    · rfl
  first | rw [if_neg h8] | skip
  split
  · exact updW_ne _ _ hne
  · exact updW_ne _ _ hne
/-- A fork that has no error. -/
theorem do_forked {W : Fw} {o : Fop} (h8 : o.kind = 8) (h : (doF W o).2.err = 0) : 0 ≤ o.proc ∧ o.proc < 4 ∧ childF W < 4 ∧ (doF W o).2 = ⟨0, (childF W : Int), 0, 0⟩ ∧ (W (childF W)).live = false ∧ (doF W o).1 = updW W (childF W) (W o.proc.toNat) := by
  unfold doF at h ⊢
  rw [if_neg (by omega), if_neg (by omega)] at h ⊢
  by_cases h3 : o.proc < 0 ∨ 4 ≤ o.proc ∨ (W o.proc.toNat).live = false
  · rw [if_pos h3] at h; cases h
  rw [if_neg h3, if_neg (by omega), if_neg (by omega), if_pos h8] at h ⊢
  unfold forkF at h ⊢
  split
  · rename_i h7; rw [if_pos h7] at h; cases h
  · have hc : childF W < 4 := by have := child_le W; omega
    exact ⟨by omega, by omega, hc, rfl, child_dead hc, rfl⟩
end Go.Proofs.Ytglnnplijienbaa

/- flat, plain: what was stored is loaded. -/
namespace Go.Proofs.Ytglnnplijienbaa
set_option linter.unusedVariables false
theorem emod_step (va q : Int) (hq : 0 < q) : va % (q * 256) = va % q + va / q % 256 * q := by
  have h1 := Int.emod_add_mul_ediv va q
  have h2 := Int.emod_add_mul_ediv (va / q) 256
  have h3 := Int.emod_nonneg va (b := q) (by omega)
  have h4 := Int.emod_lt_of_pos va hq
  have h5 := Int.emod_nonneg (va / q) (b := 256) (by decide)
  have h6 := Int.emod_lt_of_pos (va / q) (b := 256) (by decide)
  have e : va = (va % q + va / q % 256 * q) + q * 256 * (va / q / 256) := by
    have : va / q * q = (va / q % 256 + 256 * (va / q / 256)) * q := by rw [h2]
    rw [Int.add_mul] at this
    have e2 : 256 * (va / q / 256) * q = q * 256 * (va / q / 256) := by rw [Int.mul_comm, ← Int.mul_assoc]
    rw [e2] at this
    have e3 : q * (va / q) = va / q * q := Int.mul_comm _ _
    omega
  have h7 : 0 ≤ va / q % 256 * q := Int.mul_nonneg h5 (by omega)
  have h8 : va / q % 256 * q ≤ 255 * q := Int.mul_le_mul_of_nonneg_right (by omega) (by omega)
  conv => lhs; rw [e]
  rw [Int.add_mul_emod_self_left, Int.emod_eq_of_lt (by omega) (by omega)]
theorem load_store (b : Nat → Nat → Int) (ad va sz : Int) (h0 : 0 ≤ ad) : ∀ k : Nat, (k : Int) ≤ sz → loadF (storeF b ad sz va) ad k = va % 256 ^ k
  | 0, _ => by simp [loadF, Int.emod_one]
  | k + 1, h => by
    show loadF (storeF b ad sz va) ad k + byteAt (storeF b ad sz va) (ad + k) * 256 ^ k = _
    rw [load_store b ad va sz h0 k (by omega)]
    have hb : byteAt (storeF b ad sz va) (ad + k) = va / 256 ^ k % 256 := by
      unfold byteAt storeF
      have e : ((((ad + k) / 64).toNat * 64 + ((ad + k) % 64).toNat : Nat) : Int) = ad + k := by omega
      rw [if_pos (by omega), e, show (ad + (k : Int) - ad).toNat = k by omega]
    rw [hb, Int.pow_succ, emod_step va (256 ^ k) (Int.pow_pos (by decide))]
end Go.Proofs.Ytglnnplijienbaa

/- flat, plain: pages that are there; rights hold; what was stored is loaded. -/
namespace Go.Proofs.Ytglnnplijienbaa
set_option linter.unusedVariables false
/-- The pages that are there. -/
def pagesN (l : List Rgn) : List Nat := (List.range 64).filter fun n => (at? l (n : Int)).isSome
theorem at_cov (l : List Rgn) (n : Nat) : (at? l (n : Int)).isSome = cov l n := by
  unfold at? cov inB
  rw [Option.isSome_map]
  induction l with
  | nil => rfl
  | cons x l ih =>
    rw [List.find?_cons, List.any_cons]
    split
    · rename_i h; rw [h]; rfl
    · rename_i h; rw [h, ih, Bool.false_or]
theorem pages_len {l : List Rgn} (h : rightL l = true) : ((pagesN l).length : Int) = tot l := by
  have e : (fun n : Nat => (at? l (n : Int)).isSome) = cov l := funext fun n => at_cov l n
  rw [tot_count (right_good h), List.countP_eq_length_filter]
  unfold pagesN
  rw [e]
theorem pages_le (l : List Rgn) : (pagesN l).length ≤ 64 := by
  unfold pagesN
  have := List.length_filter_le (fun n : Nat => (at? l (n : Int)).isSome) (List.range 64)
  simpa using this
/-- What holds of each region. -/
theorem region_ok {p : Fp} (h : OkP p) : ∀ x ∈ p.rg, ¬ (x.a.r / 2 % 2 ≠ 0 ∧ x.a.r / 4 % 2 ≠ 0) ∧ 0 ≤ x.a.k ∧ x.a.k < 4 ∧ p.ks.tk x.a.k = true := by
  intro x hx
  have hg := (right_good h.r).ok x hx
  obtain ⟨h1, h2⟩ := h.reg x.f x.a ⟨x, hx, Int.le_refl _, hg.2.1, rfl⟩
  obtain ⟨k0, k1⟩ := tk_key h2
  refine ⟨?_, k0, k1, h2⟩
  unfold wrongE at h1
  split at h1
  · cases h1
  · split at h1
    · cases h1
    · omega
theorem dead_no {p : Fp} (h : OkP p) : p.live = false → p.rg = [] := h.dead
theorem mapped_sum {W : Fw} (h : OkW W) : ((pagesN (W 0).rg).length : Int) + (pagesN (W 1).rg).length + (pagesN (W 2).rg).length + (pagesN (W 3).rg).length ≤ 64 := by
  rw [pages_len (h.p 0).r, pages_len (h.p 1).r, pages_len (h.p 2).r, pages_len (h.p 3).r]
  exact h.sum
/-! ## FlatBack -/
theorem page_way {r k : Int} {K : Key4} {way : Int} (hw : way = 1 ∨ way = 2 ∨ way = 4) : pageF r k K way = 0 ∨ pageF r k K way = 2 ∨ pageF r k K way = 3 := by
  unfold pageF; split
  · exact .inr (.inl rfl)
  · split
    · exact .inr (.inr rfl)
    · exact .inl rfl
theorem tags_way {g : Bool} {zs : List Int} {tag : Int} (h : tagsF g 2 zs tag = 0) : tagsF g 1 zs tag = 0 := by
  unfold tagsF at h ⊢
  simpa using h
/-- Where may be stored may be loaded, but for rights and keys. -/
theorem stop_way {p : Fp} {o : Fop} {t : Tch} (h : (stopF p { o with kind := 11 } t).1 = 0) : (stopF p { o with kind := 10 } t).1 = 0 ∨ (stopF p { o with kind := 10 } t).1 = 2 ∨ (stopF p { o with kind := 10 } t).1 = 3 := by
  have hf := stop_zero h
  obtain ⟨a, ha, hp⟩ := fault_zero hf
  have hp1 := page_way (r := a.r) (k := a.k) (K := p.ks) (way := 1) (.inl rfl)
  have e1 : faultF p.rg p.ks t.p 1 = pageF a.r a.k p.ks 1 := by unfold faultF; rw [ha]
  unfold stopF at h ⊢
  have w11 : wayF 11 = 2 := rfl
  have w10 : wayF 10 = 1 := rfl
  simp only [w10, w11] at h ⊢
  have hf2 : faultF p.rg p.ks t.p 2 = 0 := hf
  rw [if_neg (by rw [hf2]; simp), if_neg (by decide)] at h
  have ht : tagsF ((at? p.rg t.p).getD zA).g 2 (grains p t) o.tag = 0 := by
    by_cases e : tagsF ((at? p.rg t.p).getD zA).g 2 (grains p t) o.tag = 0
    · exact e
    · rw [if_pos e] at h; exact absurd h e
  rw [e1]
  by_cases hz : pageF a.r a.k p.ks 1 = 0
  · rw [if_neg (by rw [hz]; simp), if_neg (by decide), if_neg (by rw [tags_way ht]; simp)]
    exact .inl rfl
  · rw [if_pos hz]
    exact hp1
/-- FlatBack, plainly: a store that is done, and the load behind it. -/
theorem flatBack_plain {W : Fw} (o : Fop) (h : (doF W { o with kind := 11 }).2.err = 0) :
    let W1 := (doF W { o with kind := 11 }).1
    let a := (doF W1 { o with kind := 10 }).2
    0 ≤ o.proc ∧ o.proc < 4 ∧ 1 ≤ o.size ∧ o.size ≤ 4 ∧ 0 ≤ o.addr ∧
    (a.err ≠ 0 → a.err = 8 ∧ (a.fault = 2 ∨ a.fault = 3)) ∧
    (a.err = 0 → a.value = o.value % 256 ^ o.size.toNat) ∧
    ((doF W1 { o with kind := 10 }).1 o.proc.toNat).rg = (W o.proc.toNat).rg ∧
    ((doF W1 { o with kind := 10 }).1 o.proc.toNat).tg = (W o.proc.toNat).tg ∧
    ((doF W1 { o with kind := 10 }).1 o.proc.toNat).bt = storeF (W o.proc.toNat).bt o.addr o.size o.value := by
  unfold doF at h
  simp only at h
  rw [if_neg (by omega), if_neg (by omega)] at h
  by_cases h3 : o.proc < 0 ∨ 4 ≤ o.proc ∨ (W o.proc.toNat).live = false
  · rw [if_pos h3] at h; cases h
  rw [if_neg h3, if_neg (by omega), if_neg (by omega), if_neg (by omega), if_neg (by omega)] at h
  simp only at h
  generalize hp : W o.proc.toNat = p at *
  have hl : p.live = true := by
    cases hl : p.live with
    | true => rfl
    | false => exact absurd (.inr (.inr hl)) h3
  by_cases r1 : rightF_ { o with kind := 11 } = false
  · unfold lookF at h; rw [if_pos r1] at h; cases h
  have hr : rightF_ { o with kind := 11 } = true := by simpa using r1
  obtain ⟨t0, t1, a0, s0, s1, _, hs⟩ := right_facts hr
  obtain ⟨hs1, hs2⟩ := hs (by simp)
  by_cases r2 : (stopsF p { o with kind := 11 } (touchF o.addr (sizeF { o with kind := 11 }))).1 ≠ 0
  · unfold lookF at h; rw [if_neg r1, if_pos r2] at h; cases h
  have e11 : sizeF { o with kind := 11 } = o.size := rfl
  have e10 : sizeF { o with kind := 10 } = o.size := rfl
  have L1 : lookF p { o with kind := 11 } = ({ p with bt := storeF p.bt o.addr o.size o.value }, failA 0) := by
    unfold lookF
    rw [if_neg r1, if_neg r2, if_neg (by simp), if_pos rfl]
  have D1 : doF W { o with kind := 11 } = (updW W o.proc.toNat { p with bt := storeF p.bt o.addr o.size o.value }, failA 0) := by
    unfold doF
    simp only
    rw [hp, if_neg (by omega), if_neg (by omega), if_neg h3, if_neg (by omega), if_neg (by omega), if_neg (by omega), if_neg (by omega), L1]
  have hr10 : rightF_ { o with kind := 10 } = true := hr
  have hl2 : (updW W o.proc.toNat { p with bt := storeF p.bt o.addr o.size o.value } o.proc.toNat).live = true := by rw [updW_at]; exact hl
  have h3' : ¬ (o.proc < 0 ∨ 4 ≤ o.proc ∨ (updW W o.proc.toNat { p with bt := storeF p.bt o.addr o.size o.value } o.proc.toNat).live = false) := by
    rw [hl2]
    rintro (h | h | h)
    · exact h3 (.inl h)
    · exact h3 (.inr (.inl h))
    · cases h
  have D2 : doF (updW W o.proc.toNat { p with bt := storeF p.bt o.addr o.size o.value }) { o with kind := 10 } =
      (updW (updW W o.proc.toNat { p with bt := storeF p.bt o.addr o.size o.value }) o.proc.toNat (lookF { p with bt := storeF p.bt o.addr o.size o.value } { o with kind := 10 }).1, (lookF { p with bt := storeF p.bt o.addr o.size o.value } { o with kind := 10 }).2) := by
    unfold doF
    simp only
    rw [if_neg (by omega), if_neg (by omega), if_neg h3', if_neg (by omega), if_neg (by omega), if_neg (by omega), if_neg (by omega), updW_at]
  have same : (lookF { p with bt := storeF p.bt o.addr o.size o.value } { o with kind := 10 }).1 = { p with bt := storeF p.bt o.addr o.size o.value } := by
    unfold lookF
    split
    · rfl
    · split
      · rfl
      · rw [if_neg (by simp), if_neg (by simp)]
  intro W1 a
  have hW1 : W1 = updW W o.proc.toNat { p with bt := storeF p.bt o.addr o.size o.value } := congrArg Prod.fst D1
  have ha : a = (lookF { p with bt := storeF p.bt o.addr o.size o.value } { o with kind := 10 }).2 := by
    show (doF W1 _).2 = _
    rw [hW1, D2]
  have hq : (doF W1 { o with kind := 10 }).1 o.proc.toNat = { p with bt := storeF p.bt o.addr o.size o.value } := by
    rw [hW1, D2]
    show updW _ _ _ _ = _
    rw [updW_at, same]
  rw [hq]
  refine ⟨by omega, by omega, by rw [← hs1]; exact s0, by omega, a0, fun hne => ?_, fun he => ?_, rfl, rfl, rfl⟩
  · rw [ha] at hne ⊢
    unfold lookF at hne ⊢
    rw [if_neg (by rw [hr10]; simp)] at hne ⊢
    by_cases q1 : (stopsF { p with bt := storeF p.bt o.addr o.size o.value } { o with kind := 10 } (touchF o.addr (sizeF { o with kind := 10 }))).1 ≠ 0
    · rw [if_pos q1] at hne ⊢
      refine ⟨rfl, ?_⟩
      show (stopsF _ _ _).1 = 2 ∨ (stopsF _ _ _).1 = 3
      obtain ⟨t, ht, f1, f2⟩ := stops_some q1
      have g0 := stops_zero (by simpa using r2) t (by rw [e11]; rw [e10] at ht; exact ht)
      have g1 : (stopF { p with bt := storeF p.bt o.addr o.size o.value } { o with kind := 10 } t).1 = (stopF p { o with kind := 10 } t).1 := rfl
      rw [f2, g1]
      rw [g1] at f1
      rcases stop_way g0 with g | g | g
      · exact absurd g f1
      · exact .inl g
      · exact .inr g
    · rw [if_neg q1, if_neg (by simp), if_neg (by simp)] at hne; exact absurd rfl hne
  · rw [ha] at he ⊢
    unfold lookF at he ⊢
    rw [if_neg (by rw [hr10]; simp)] at he ⊢
    by_cases q1 : (stopsF { p with bt := storeF p.bt o.addr o.size o.value } { o with kind := 10 } (touchF o.addr (sizeF { o with kind := 10 }))).1 ≠ 0
    · rw [if_pos q1] at he; cases he
    · rw [if_neg q1, if_neg (by simp), if_neg (by simp)]
      show loadF (storeF p.bt o.addr o.size o.value) o.addr o.size.toNat = _
      exact load_store _ _ _ _ a0 _ (by omega)
end Go.Proofs.Ytglnnplijienbaa

/- flat: rows of regions and of operations: what cloning wants. -/
namespace Go.Proofs.Ytglnnplijienbaa
open Go.ChangeShapes Go.WideShapes Go.ChangeAt Go.RowKit Go.Joins
set_option linter.unusedVariables false
theorem fO_len (x : Fop) : (fO x).length = 12 := rfl
theorem fO_one1 (x : Fop) : ∀ u ∈ fO x, u.oneCell' = true := by simp [fO, Value.oneCell']
theorem fO_one (xs : List Fop) : ∀ u ∈ xs.flatMap fO, u.oneCell' = true := by
  intro u hu
  obtain ⟨x, _, h⟩ := List.mem_flatMap.1 hu
  exact fO_one1 x u h
theorem info_O : (Try.prog.info? 43).map (fun i => (i.zero, i.size, i.bytes)) = some (some (.agg #[.int .i64 0, .int .i64 0, .int .i64 0, .int .i64 0, .int .i64 0, .int .i64 0, .bool false, .int .i64 0, .int .i64 0, .int .i64 0, .int .i64 0, .int .i64 0]), 12, 96) := by kernel_rfl
theorem info_Q : (Try.prog.info? 40).map (fun i => (i.zero, i.size, i.bytes)) = some (some (.agg #[.int .i64 0, .int .i64 0, .int .i64 0, .int .i64 0, .bool false, .bool false]), 6, 40) := info_R
end Go.Proofs.Ytglnnplijienbaa

/- slices at api.Region: Clone, IndexFunc, ContainsFunc, DeleteFunc, Equal. -/
namespace Go.Proofs.Ytglnnplijienbaa
open Go.ChangeShapes Go.WideShapes Go.ChangeAt Go.RowKit Go.Joins
set_option linter.unusedVariables false

theorem eq_nil_Q (w : World) (a : Option Addr) (n c n' c' : Nat) : (binOp .eql 25 (.slice a n c) (.slice none n' c')).run Try.prog w = .ok (.bool a.isNone) w := Lib.run_eql_slice_nil w _ _ a n c n' c' Try.underlying25

set_option maxHeartbeats 2000000 in
theorem clone_Q (A : Option Addr) (n c : Nat) (xs : List Rgn) (w : World) (B : Nat) (hz : Rw fR 6 w B A n xs) (_ : B ≤ w.heap.size) (hbig : n ≤ 3518437208883) :
    Calls Try.prog 23 #[.slice A n c] w fun e w' => ∃ v, e = .returned v ∧ Os fR 6 40 w' w.heap.size v xs ∧ Below w.heap.size w w' := by
  have q := eq_nil_Q
  have hln := hz.1
  subst hln
  cases A with
  | none =>
    have h0 : xs = [] := by
      rcases Nat.eq_zero_or_pos xs.length with h | h
      · exact List.eq_nil_of_length_eq_zero h
      · obtain ⟨_, _, e, _⟩ := hz.2.2 h; cases e
    subst h0
    clear hz
    go_enter Try.func23, Try.ntmps23
    go_wp2
    go_ret
    exact ⟨_, rfl, Os.nil, Below.refl _ _⟩
  | some x =>
    obtain ⟨i0, hi, hz0, hz1, hz2⟩ := info_parts info_Q
    obtain ⟨hl, hcell⟩ := Rw.cells fR_len (by decide) hz
    have HC := Lib.hid hcell
    have HL := Lib.hid hl
    clear hcell hl hz
    go_enter Try.func23, Try.ntmps23
    go_wp2_with (at_builtin; refine wpList_append_own _ rfl _ _ 25 rfl w.heap.size 40 i0 (.agg #[.int .i64 0, .int .i64 0, .int .i64 0, .int .i64 0, .bool false, .bool false]) 6 40 Try.underlying25 hi hz0 hz1 hz2 rfl (by decide) _ _ _ rfl (World.ownsRow_made w #[] 0 (Nat.le_refl _) (Nat.zero_le _) rfl) x xs.length c (xs.flatMap fR) rfl ?qc1 ?qc2 ?qc3 ?qc4 ?qc5 ?qc6 ?_)
    case qc1 => exact HL.out
    case qc2 =>
      intro j u hj
      exact Lib.cell?_alloc_some _ (HC.out j u hj)
    case qc3 => exact fR_one xs
    case qc4 => unfold maxLen; omega
    case qc5 => omega
    case qc6 => simp
    intro v' w1 hown hgrow hnil
    go_wp2
    go_ret
    exact ⟨v', rfl, by simpa [Os] using hown, ((Below.refl _ w).alloc (Nat.le_refl _) _).grown hgrow (by simp) (by intro k hk; simp [Value.ownBlock] at hk; omega)⟩

end Go.Proofs.Ytglnnplijienbaa
