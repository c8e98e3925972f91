/- Several texts in one: Flb, Flp, Flq, Flg. -/
import Derived.Test.YtglnnplijienbaaM21
import Derived.Test.YtglnnplijienbaaM12
/- flat: small functions. -/
namespace Go.Proofs.Ytglnnplijienbaa
open Go.ChangeShapes Go.WideShapes Go.ChangeAt Go.RowKit Go.Joins
set_option linter.unusedVariables false
set_option linter.unusedSimpArgs false
set_option maxRecDepth 100000
def fN (a : Fan) : List Value := [.int .i64 a.err, .int .i64 a.value, .int .i64 a.fault, .int .i64 a.pos]
abbrev Fan.v (a : Fan) : Value := .agg #[.int .i64 a.err, .int .i64 a.value, .int .i64 a.fault, .int .i64 a.pos]
abbrev Fop.v (o : Fop) : Value := .agg #[.int .i64 o.kind, .int .i64 o.proc, .int .i64 o.page, .int .i64 o.count, .int .i64 o.rights, .int .i64 o.key, .bool o.tagged, .int .i64 o.draw, .int .i64 o.addr, .int .i64 o.size, .int .i64 o.value, .int .i64 o.tag]
def fO (o : Fop) : List Value := [.int .i64 o.kind, .int .i64 o.proc, .int .i64 o.page, .int .i64 o.count, .int .i64 o.rights, .int .i64 o.key, .bool o.tagged, .int .i64 o.draw, .int .i64 o.addr, .int .i64 o.size, .int .i64 o.value, .int .i64 o.tag]
def Fop.fits (o : Fop) : Prop := I64 o.kind ∧ I64 o.proc ∧ I64 o.page ∧ I64 o.count ∧ I64 o.rights ∧ I64 o.key ∧ I64 o.draw ∧ I64 o.addr ∧ I64 o.size ∧ I64 o.value ∧ I64 o.tag
theorem fails_any (e : Int) (w : World) : Calls Try.prog 31 #[.int .i64 e] w fun x w' => x = .returned (.agg #[.int .i64 e, .int .i64 0, .int .i64 0, .int .i64 0]) ∧ Below w.heap.size w w' := by
  go_enter Try.func31, Try.ntmps31
  go_wp2
  try simp only [Exit.inBlock, Exit.then]
  exact bodyPost_ret (v := .agg #[.int .i64 e, .int .i64 0, .int .i64 0, .int .i64 0]) (by simp [results, Try.results31, go_sem]) rfl ⟨rfl, (Below.refl _ _).alloc (Nat.le_refl _) _⟩
theorem faults_any (f p : Int) (w : World) : Calls Try.prog 56 #[.int .i64 f, .int .i64 p] w fun x w' => x = .returned (.agg #[.int .i64 8, .int .i64 0, .int .i64 f, .int .i64 p]) ∧ Below w.heap.size w w' := by
  go_enter Try.func56, Try.ntmps56
  go_wp2
  try simp only [Exit.inBlock, Exit.then]
  exact bodyPost_ret (v := .agg #[.int .i64 8, .int .i64 0, .int .i64 f, .int .i64 p]) (by simp [results, Try.results56, go_sem]) rfl ⟨rfl, (Below.refl _ _).alloc (Nat.le_refl _) _⟩
theorem way_any (k : Int) (w : World) : Calls Try.prog 71 #[.int .i64 k] w fun x w' => x = .returned (.int .i64 (wayF k)) ∧ w' = w := by
  by_cases h1 : k = 10
  · subst h1
    go_enter Try.func71, Try.ntmps71
    go_wp2
    go_ret
    exact ⟨rfl, rfl⟩
  by_cases h2 : k = 12
  · subst h2
    go_enter Try.func71, Try.ntmps71
    go_wp2
    go_ret
    exact ⟨rfl, rfl⟩
  have e1 : (k == 10) = false := by rw [beq_eq_false_iff_ne]; exact h1
  have e2 : (k == 12) = false := by rw [beq_eq_false_iff_ne]; exact h2
  have HR : Hid (wayF k = 2) := Lib.hid (by unfold wayF; rw [if_neg h1, if_neg h2])
  generalize wayF k = r at *
  go_enter Try.func71, Try.ntmps71
  go_wp2
  go_ret
  exact ⟨ret_i HR.out.symm, rfl⟩
theorem spanF_any (p c : Int) (hp : I64 p) (hc : I64 c) (w : World) : Calls Try.prog 42 #[.int .i64 p, .int .i64 c] w fun x w' => x = .returned (.bool (spanF p c)) ∧ w' = w := by
  unfold I64 at hp hc
  have HS : Hid (spanF p c = (decide (0 ≤ p) && decide (1 ≤ c) && decide (c ≤ 64) && decide (p ≤ 64 - c))) := Lib.hid rfl
  generalize spanF p c = r at *
  by_cases h1 : 0 ≤ p
  · by_cases h2 : 1 ≤ c
    · by_cases h3 : c ≤ 64
      · have hd : ∀ b : Bool, b = decide (p ≤ 64 - c) → r = b := fun b e => by rw [HS.out, e, decide_eq_true h1, decide_eq_true h2, decide_eq_true h3]; rfl
        have HD := Lib.hid hd
        clear hd
        go_enter Try.func42, Try.ntmps42
        go_wp2
        go_ret
        exact ⟨ret_b (HD.out _ rfl).symm, rfl⟩
      · have HR : Hid (r = false) := Lib.hid (by rw [HS.out, decide_eq_false h3]; simp)
        go_enter Try.func42, Try.ntmps42
        go_wp2
        go_ret
        exact ⟨ret_b HR.out.symm, rfl⟩
    · have HR : Hid (r = false) := Lib.hid (by rw [HS.out, decide_eq_false h2]; simp)
      go_enter Try.func42, Try.ntmps42
      go_wp2
      go_ret
      exact ⟨ret_b HR.out.symm, rfl⟩
  · have HR : Hid (r = false) := Lib.hid (by rw [HS.out, decide_eq_false h1]; simp)
    go_enter Try.func42, Try.ntmps42
    go_wp2
    go_ret
    exact ⟨ret_b HR.out.symm, rfl⟩
theorem bytes_any (p c : Int) (hp : I64 p) (hc : I64 c) (w : World) : Calls Try.prog 69 #[.int .i64 p, .int .i64 c] w fun x w' => x = .returned (.bool (bytesF p c)) ∧ w' = w := by
  unfold I64 at hp hc
  have HS : Hid (bytesF p c = (decide (0 ≤ p) && decide (0 ≤ c) && decide (c ≤ 4096) && decide (p ≤ 4096 - c))) := Lib.hid rfl
  generalize bytesF p c = r at *
  by_cases h1 : 0 ≤ p
  · by_cases h2 : 0 ≤ c
    · by_cases h3 : c ≤ 4096
      · have hd : ∀ b : Bool, b = decide (p ≤ 4096 - c) → r = b := fun b e => by rw [HS.out, e, decide_eq_true h1, decide_eq_true h2, decide_eq_true h3]; rfl
        have HD := Lib.hid hd
        clear hd
        go_enter Try.func69, Try.ntmps69
        go_wp2
        go_ret
        exact ⟨ret_b (HD.out _ rfl).symm, rfl⟩
      · have HR : Hid (r = false) := Lib.hid (by rw [HS.out, decide_eq_false h3]; simp)
        go_enter Try.func69, Try.ntmps69
        go_wp2
        go_ret
        exact ⟨ret_b HR.out.symm, rfl⟩
    · have HR : Hid (r = false) := Lib.hid (by rw [HS.out, decide_eq_false h2]; simp)
      go_enter Try.func69, Try.ntmps69
      go_wp2
      go_ret
      exact ⟨ret_b HR.out.symm, rfl⟩
  · have HR : Hid (r = false) := Lib.hid (by rw [HS.out, decide_eq_false h1]; simp)
    go_enter Try.func69, Try.ntmps69
    go_wp2
    go_ret
    exact ⟨ret_b HR.out.symm, rfl⟩
end Go.Proofs.Ytglnnplijienbaa

/- flat, plain: what holds of every world. -/
namespace Go.Proofs.Ytglnnplijienbaa
set_option linter.unusedVariables false
/-- What holds of every process. -/
structure OkP (p : Fp) : Prop where
  r : rightL p.rg = true
  b : ∀ n i, 0 ≤ p.bt n i ∧ p.bt n i ≤ 255
  t : ∀ n i, 0 ≤ p.tg n i ∧ p.tg n i ≤ 15
  dead : p.live = false → p.rg = []
  reg : ∀ q t, Has p.rg q t → wrongE t.r = 0 ∧ p.ks.tk t.k = true
  clean : ∀ n : Nat, at? p.rg n = none → (∀ i, i < 64 → p.bt n i = 0) ∧ ∀ i, i < 4 → p.tg n i = 0
structure OkW (W : Fw) : Prop where
  p : ∀ k, OkP (W k)
  sum : mappedF W ≤ 64
theorem mapped_upd (W : Fw) {k : Nat} (hk : k < 4) (p : Fp) : mappedF (updW W k p) = mappedF W + tot p.rg - tot (W k).rg := by
  unfold mappedF
  have : k = 0 ∨ k = 1 ∨ k = 2 ∨ k = 3 := by omega
  rcases this with rfl | rfl | rfl | rfl <;> simp [updW] <;> omega
theorem OkW.upd {W : Fw} (h : OkW W) {k : Nat} (hk : k < 4) {p : Fp} (hp : OkP p) (hs : mappedF W + tot p.rg - tot (W k).rg ≤ 64) : OkW (updW W k p) :=
  ⟨fun i => by
    by_cases e : i = k
    · subst e; rw [updW_at]; exact hp
    · rw [updW_ne _ _ e]; exact h.p i, by rw [mapped_upd W hk]; exact hs⟩
theorem right_rangeP {xs : List Rgn} (h : rightL xs = true) {p : Int} {t : Att} (hp : Has xs p t) : 0 ≤ p ∧ p < 64 := by
  obtain ⟨y, hy, q1, q2, _⟩ := hp
  have := (right_good h).ok y hy
  omega
theorem tot_nonneg {l : List Rgn} (h : rightL l = true) : 0 ≤ tot l := by
  rw [tot_count (right_good h)]; exact Int.natCast_nonneg _
theorem ok_zero : OkP zeroFp := ⟨rfl, fun _ _ => by simp [zeroFp], fun _ _ => by simp [zeroFp], fun _ => rfl, fun q t h => absurd h has_nil, fun _ _ => ⟨fun _ _ => rfl, fun _ _ => rfl⟩⟩
theorem ok_new : OkW newF := by
  refine ⟨fun k => ?_, by decide⟩
  unfold newF
  by_cases e : k = 0
  · subst e
    rw [updW_at]
    exact ⟨rfl, fun _ _ => by simp, fun _ _ => by simp, (fun h => by cases h), fun q t h => absurd h has_nil, fun _ _ => ⟨fun _ _ => rfl, fun _ _ => rfl⟩⟩
  · rw [updW_ne _ _ e]; exact ok_zero
theorem tk_key {K : Key4} {k : Int} (h : K.tk k = true) : 0 ≤ k ∧ k < 4 := by
  unfold Key4.tk at h
  by_cases h0 : k = 0
  · omega
  · rw [if_neg h0] at h
    by_cases h1 : k = 1
    · omega
    · rw [if_neg h1] at h
      by_cases h2 : k = 2
      · omega
      · rw [if_neg h2] at h
        by_cases h3 : k = 3
        · omega
        · rw [if_neg h3] at h; cases h
theorem tk_set (K : Key4) (k : Int) (t : Bool) (d j : Int) (hk : 0 ≤ k ∧ k < 4) : (K.set k t d).tk j = if j = k then t else K.tk j := by
  have : k = 0 ∨ k = 1 ∨ k = 2 ∨ k = 3 := by omega
  unfold Key4.set Key4.tk
  rcases this with rfl | rfl | rfl | rfl <;> simp <;> by_cases h0 : j = 0 <;> by_cases h1 : j = 1 <;> by_cases h2 : j = 2 <;> by_cases h3 : j = 3 <;> simp [h0, h1, h2, h3] <;> omega
/-- Pages that are not there are made empty: it is as it must be. -/
theorem ok_clean {p : Fp} (r : rightL p.rg = true) (b : ∀ n i, 0 ≤ p.bt n i ∧ p.bt n i ≤ 255) (t : ∀ n i, 0 ≤ p.tg n i ∧ p.tg n i ≤ 15) (dead : p.live = false → p.rg = [])
    (reg : ∀ q t, Has p.rg q t → wrongE t.r = 0 ∧ p.ks.tk t.k = true) : OkP (cleanF p) := by
  refine ⟨r, fun n i => ?_, fun n i => ?_, dead, reg, fun n hn => ?_⟩
  · unfold cleanF
    simp only
    split
    · omega
    · exact b n i
  · unfold cleanF
    simp only
    split
    · omega
    · exact t n i
  · have hn' : (at? p.rg n).isNone = true := by
      have : at? p.rg n = none := hn
      rw [this]; rfl
    exact ⟨fun i _ => if_pos hn', fun i _ => if_pos hn'⟩
/-- What mapping gives. -/
theorem map_ok {l : List Rgn} {K : Key4} {all : Int} {o : Fop} (h : (mapF l K all o).2.err = 0) :
    (mapF l K all o).1 = addL l ⟨chN l o.count o.draw, chN l o.count o.draw + o.count, ⟨o.rights, o.key, o.tagged, false⟩⟩ ∧ addE l ⟨chN l o.count o.draw, chN l o.count o.draw + o.count, ⟨o.rights, o.key, o.tagged, false⟩⟩ = 0 ∧ wrongE o.rights = 0 ∧ K.tk o.key = true ∧ all + o.count ≤ 64 ∧ chE l o.count = 0 ∧
    1 ≤ o.count ∧ o.count ≤ 64 ∧ (mapF l K all o).2 = ⟨0, chN l o.count o.draw, 0, 0⟩ := by
  unfold mapF at h ⊢
  by_cases h1 : o.count < 1 ∨ 64 < o.count
  · rw [if_pos h1] at h; simp [failA] at h
  rw [if_neg h1] at h ⊢
  by_cases h2 : wrongE o.rights ≠ 0
  · rw [if_pos h2] at h; exact absurd h h2
  rw [if_neg h2] at h ⊢
  by_cases h3 : K.tk o.key = false
  · rw [if_pos h3] at h; simp [failA] at h
  rw [if_neg h3] at h ⊢
  by_cases h4 : 64 < all + o.count
  · rw [if_pos h4] at h; simp [failA] at h
  rw [if_neg h4] at h ⊢
  by_cases h5 : chE l o.count ≠ 0
  · rw [if_pos h5] at h; exact absurd h h5
  rw [if_neg h5] at h ⊢
  simp only [ne_eq, Decidable.not_not] at h2 h5
  have hE : addE l ⟨chN l o.count o.draw, chN l o.count o.draw + o.count, ⟨o.rights, o.key, o.tagged, false⟩⟩ = 0 := h
  exact ⟨rfl, hE, h2, by simpa using h3, by omega, h5, by omega, by omega, by rw [hE]⟩
/-- What changing gives. -/
theorem shape_ok {l : List Rgn} {K : Key4} {o : Fop} (hk : o.kind = 2 ∨ o.kind = 3 ∨ o.kind = 4) (h : (shapeF l K o).2.err = 0) :
    (shapeF l K o).2 = failA 0 ∧ ((o.kind = 2 ∧ cutE l o.page (o.page + o.count) = 0 ∧ (shapeF l K o).1 = cutL l o.page (o.page + o.count) ∧ ∀ q t, Has l q t → o.page ≤ q → q < o.page + o.count → t.s = false) ∨
    (o.kind = 3 ∧ wrongE o.rights = 0 ∧ K.tk o.key = true ∧ turnE l o.page (o.page + o.count) = 0 ∧ (shapeF l K o).1 = turnL l o.page (o.page + o.count) (guardA o.rights o.key) ∧ ∀ q t, Has l q t → o.page ≤ q → q < o.page + o.count → t.s = false) ∨
    (o.kind = 4 ∧ turnE l o.page (o.page + o.count) = 0 ∧ (shapeF l K o).1 = turnL l o.page (o.page + o.count) sealA)) := by
  unfold shapeF at h ⊢
  by_cases h1 : spanF o.page o.count = false
  · rw [if_pos h1] at h; simp [failA] at h
  rw [if_neg h1] at h ⊢
  by_cases h2 : protE K o ≠ 0
  · rw [if_pos h2] at h; exact absurd h h2
  rw [if_neg h2] at h ⊢
  by_cases h3 : turnE l o.page (o.page + o.count) ≠ 0 ∧ o.kind ≠ 2
  · rw [if_pos h3] at h; simp [failA] at h
  rw [if_neg h3] at h ⊢
  by_cases h4 : o.kind = 4
  · rw [if_pos h4] at h ⊢
    refine ⟨rfl, .inr (.inr ⟨h4, ?_, rfl⟩)⟩
    by_cases e : turnE l o.page (o.page + o.count) = 0
    · exact e
    · exact absurd ⟨e, by omega⟩ h3
  rw [if_neg h4] at h ⊢
  by_cases h5 : ((inL o.page (o.page + o.count) l).any fun x => x.a.s) = true
  · rw [if_pos h5] at h; simp [failA] at h
  rw [if_neg h5] at h ⊢
  have hs : ∀ q t, Has l q t → o.page ≤ q → q < o.page + o.count → t.s = false := by
    intro q t hq q1 q2
    obtain ⟨x, hx, _, _, e⟩ := has_in.2 ⟨hq, q1, q2⟩
    cases hts : t.s with
    | false => rfl
    | true =>
      refine absurd ?_ h5
      rw [List.any_eq_true]
      exact ⟨x, hx, by rw [e]; exact hts⟩
  by_cases h6 : o.kind = 2
  · rw [if_pos h6] at h ⊢
    have hE : cutE l o.page (o.page + o.count) = 0 := h
    exact ⟨by rw [hE], .inl ⟨h6, hE, rfl, hs⟩⟩
  · rw [if_neg h6] at h ⊢
    have h7 : o.kind = 3 := by omega
    have hE : turnE l o.page (o.page + o.count) = 0 := h
    simp only [ne_eq, Decidable.not_not] at h2
    unfold protE at h2
    rw [if_pos h7] at h2
    by_cases h8 : wrongE o.rights ≠ 0
    · rw [if_pos h8] at h2; exact absurd h2 h8
    rw [if_neg h8] at h2
    by_cases h9 : K.tk o.key = false
    · rw [if_pos h9] at h2; simp at h2
    · exact ⟨by rw [hE], .inr (.inl ⟨h7, by simpa using h8, by simpa using h9, hE, rfl, hs⟩)⟩
theorem chg_facts {K : Key4} {k least d : Int} (h : chg4E K k least d = 0) : least ≤ k ∧ K.tk k = true ∧ 0 ≤ d ∧ d ≤ 3 := by
  unfold chg4E at h
  split at h
  · rename_i h1
    split at h
    · simp at h
    · exact ⟨h1.1, h1.2, by omega, by omega⟩
  · simp at h
theorem new_facts {K : Key4} (h : new4E K = 0) : new4 K = K.set K.free true 0 ∧ 0 ≤ K.free ∧ K.free < 4 := by
  unfold new4E at h
  split at h
  · simp at h
  · rename_i h1
    refine ⟨if_neg h1, ?_⟩
    obtain ⟨t0, d0, t1, d1, t2, d2, t3, d3⟩ := K
    unfold Key4.free at h1 ⊢
    revert h1
    cases t0 <;> cases t1 <;> cases t2 <;> cases t3 <;> simp
/-- What changing keys gives: whoever was taken by a region still is. -/
theorem hold_ok {l : List Rgn} {K : Key4} {o : Fop} (hr : rightL l = true) (h : (holdF l K o).2.err = 0) {q : Int} {t : Att} (hq : Has l q t) (ht : K.tk t.k = true) : (holdF l K o).1.tk t.k = true := by
  unfold holdF at h ⊢
  by_cases h1 : o.kind = 5
  · rw [if_pos h1] at h ⊢
    have hE : new4E K = 0 := h
    obtain ⟨e, f0, f1⟩ := new_facts hE
    show (new4 K).tk t.k = true
    rw [e, tk_set _ _ _ _ _ ⟨f0, f1⟩]
    split
    · rfl
    · exact ht
  rw [if_neg h1] at h ⊢
  by_cases h2 : o.kind = 6
  · rw [if_pos h2] at h ⊢
    by_cases h3 : chg4E K o.key 1 0 = 0 ∧ ((inL 0 64 l).any fun x => decide (x.a.k = o.key)) = true
    · exfalso
      have h' : (failA (if chg4E K o.key 1 0 = 0 ∧ ((inL 0 64 l).any fun x => decide (x.a.k = o.key)) = true then 7 else chg4E K o.key 1 0)).err = 0 := h
      rw [if_pos h3] at h'; simp [failA] at h'
    · have hE : chg4E K o.key 1 0 = 0 := by
        have h' : (failA (if chg4E K o.key 1 0 = 0 ∧ ((inL 0 64 l).any fun x => decide (x.a.k = o.key)) = true then 7 else chg4E K o.key 1 0)).err = 0 := h
        rw [if_neg h3] at h'; exact h'
      obtain ⟨_, hk, _, _⟩ := chg_facts hE
      show (chg4 K o.key 1 false 0).tk t.k = true
      unfold chg4
      rw [if_pos hE, tk_set _ _ _ _ _ (tk_key hk)]
      split
      · rename_i e
        exfalso
        refine h3 ⟨hE, ?_⟩
        obtain ⟨q0, q1⟩ := right_rangeP hr hq
        obtain ⟨x, hx, _, _, e2⟩ := has_in.2 ⟨hq, q0, q1⟩
        rw [List.any_eq_true]
        exact ⟨x, hx, by rw [e2, e]; simp⟩
      · exact ht
  · rw [if_neg h2] at h ⊢
    have hE : chg4E K o.key 0 o.rights = 0 := h
    obtain ⟨_, hk, _, _⟩ := chg_facts hE
    show (chg4 K o.key 0 true o.rights).tk t.k = true
    unfold chg4
    rw [if_pos hE, tk_set _ _ _ _ _ (tk_key hk)]
    split
    · rfl
    · exact ht
theorem tot_cut {l : List Rgn} {a b : Int} (h : cutE l a b = 0) : tot (cutL l a b) ≤ tot l := by
  obtain ⟨hr, _, _, _⟩ := cut_facts h
  obtain ⟨hc, hh⟩ := cut_has h
  rw [tot_count (right_good hr), tot_count (right_good hc)]
  refine Int.ofNat_le.2 (List.countP_mono_left fun p _ hp => ?_)
  rw [cov_iff] at hp ⊢
  obtain ⟨t, ht⟩ := hp
  exact ⟨t, ((hh p t).1 ht).1⟩
theorem tot_turn {l : List Rgn} {a b : Int} {f : Att → Att} (h : turnE l a b = 0) : tot (turnL l a b f) = tot l := by
  obtain ⟨hr, _, _, _, _⟩ := turn_facts h
  obtain ⟨hc, hh⟩ := turn_has (f := f) h
  exact tot_same (right_good hc) (right_good hr) (turn_same h)
end Go.Proofs.Ytglnnplijienbaa

/- flat, plain: what is touched; what holds of every world holds behind one thing more. -/
namespace Go.Proofs.Ytglnnplijienbaa
set_option linter.unusedVariables false
theorem tchs_in : ∀ (f : Nat) (e a : Int), 0 ≤ a → e ≤ 4096 → (e ≤ a ∨ 65 - a / 64 ≤ f) → ∀ q, a ≤ q → q < e → ∃ t ∈ tchs e f a, t.p = q / 64 ∧ t.f ≤ q % 64 ∧ q % 64 < t.t
  | 0, e, a, h0, h1, h2, q, h3, h4 => by omega
  | f + 1, e, a, h0, h1, h2, q, h3, h4 => by
    have hl : a < e := by omega
    unfold tchs
    rw [if_pos hl]
    by_cases h : q < min e ((a / 64 + 1) * 64)
    · exact ⟨_, List.mem_cons_self, by show a / 64 = q / 64; omega, by show a - a / 64 * 64 ≤ q % 64; omega, by show q % 64 < min e ((a / 64 + 1) * 64) - a / 64 * 64; omega⟩
    · obtain ⟨t, ht, h5⟩ := tchs_in f e (min e ((a / 64 + 1) * 64)) (by omega) h1 (by omega) q (by omega) h4
      exact ⟨t, List.mem_cons_of_mem _ ht, h5⟩
theorem tchs_all : ∀ (f : Nat) (e a : Int), 0 ≤ a → e ≤ 4096 → ∀ t ∈ tchs e f a, 0 ≤ t.p ∧ t.p < 64 ∧ 0 ≤ t.f ∧ t.f < t.t ∧ t.t ≤ 64 ∧ a ≤ t.p * 64 + t.f ∧ t.p * 64 + t.t ≤ e
  | 0, e, a, h0, h1, t, ht => by cases ht
  | f + 1, e, a, h0, h1, t, ht => by
    unfold tchs at ht
    by_cases hl : a < e
    · rw [if_pos hl] at ht
      rcases List.mem_cons.1 ht with rfl | ht
      · simp only; omega
      · have := tchs_all f e (min e ((a / 64 + 1) * 64)) (by omega) h1 t ht
        omega
    · rw [if_neg hl] at ht; cases ht
theorem right_facts {o : Fop} (h : rightF_ o = true) : 0 ≤ o.tag ∧ o.tag ≤ 15 ∧ 0 ≤ o.addr ∧ 1 ≤ sizeF o ∧ o.addr + sizeF o ≤ 4096 ∧ (o.kind = 13 → o.addr % 16 = 0 ∧ sizeF o % 16 = 0) ∧ (o.kind ≠ 13 → sizeF o = o.size ∧ o.size ≤ 4) := by
  unfold rightF_ at h
  unfold sizeF
  split at h
  · cases h
  · split at h
    · rename_i h1 h2
      rw [if_pos h2]
      simp [bytesF] at h
      omega
    · rename_i h1 h2
      rw [if_neg h2]
      simp [bytesF] at h
      omega
theorem stops_zero {p : Fp} {o : Fop} : ∀ {l : List Tch}, (stopsF p o l).1 = 0 → ∀ t ∈ l, (stopF p o t).1 = 0
  | [], _, t, ht => by cases ht
  | x :: l, h, t, ht => by
    unfold stopsF at h
    by_cases h1 : (stopF p o x).1 ≠ 0
    · rw [if_pos h1] at h; exact absurd h h1
    · rw [if_neg h1] at h
      rcases List.mem_cons.1 ht with rfl | ht
      · simpa using h1
      · exact stops_zero h t ht
theorem stops_some {p : Fp} {o : Fop} : ∀ {l : List Tch}, (stopsF p o l).1 ≠ 0 → ∃ t ∈ l, (stopF p o t).1 ≠ 0 ∧ stopsF p o l = stopF p o t
  | [], h => absurd rfl h
  | x :: l, h => by
    unfold stopsF at h ⊢
    by_cases h1 : (stopF p o x).1 ≠ 0
    · rw [if_pos h1]; exact ⟨x, List.mem_cons_self, h1, rfl⟩
    · rw [if_neg h1] at h ⊢
      obtain ⟨t, ht, h2⟩ := stops_some h
      exact ⟨t, List.mem_cons_of_mem _ ht, h2⟩
theorem stop_zero {p : Fp} {o : Fop} {t : Tch} (h : (stopF p o t).1 = 0) : faultF p.rg p.ks t.p (wayF o.kind) = 0 := by
  unfold stopF at h
  split at h
  · rename_i h1; exact absurd h h1
  · rename_i h1; simpa using h1
theorem fault_zero {l : List Rgn} {K : Key4} {pg way : Int} (h : faultF l K pg way = 0) : ∃ a, at? l pg = some a ∧ pageF a.r a.k K way = 0 := by
  unfold faultF at h
  split at h
  · cases h
  · rename_i a e; exact ⟨a, e, h⟩
/-- What is looked at is there. -/
theorem look_there {p : Fp} {o : Fop} (hr : rightF_ o = true) (h : (stopsF p o (touchF o.addr (sizeF o))).1 = 0) {q : Int} (h0 : o.addr ≤ q) (h1 : q < o.addr + sizeF o) : ∃ a, at? p.rg (q / 64) = some a ∧ pageF a.r a.k p.ks (wayF o.kind) = 0 := by
  obtain ⟨_, _, ha, _, hs, _, _⟩ := right_facts hr
  obtain ⟨t, ht, e, _, _⟩ := tchs_in 65 (o.addr + sizeF o) o.addr ha hs (.inr (by omega)) q h0 h1
  have := fault_zero (stop_zero (stops_zero h t ht))
  rw [e] at this
  exact this
theorem store_range (b : Nat → Nat → Int) (hb : ∀ n i, 0 ≤ b n i ∧ b n i ≤ 255) (a s v : Int) (n i : Nat) : 0 ≤ storeF b a s v n i ∧ storeF b a s v n i ≤ 255 := by
  unfold storeF
  split
  · have h1 := Int.emod_nonneg (v / 256 ^ (((n * 64 + i : Nat) : Int) - a).toNat) (b := 256) (by decide)
    have h2 := Int.emod_lt_of_pos (v / 256 ^ (((n * 64 + i : Nat) : Int) - a).toNat) (b := 256) (by decide)
    omega
  · exact hb n i
theorem look_same (p : Fp) (o : Fop) : (lookF p o).1.rg = p.rg ∧ (lookF p o).1.ks = p.ks ∧ (lookF p o).1.live = p.live := by
  unfold lookF
  split
  · exact ⟨rfl, rfl, rfl⟩
  · split
    · exact ⟨rfl, rfl, rfl⟩
    · split
      · exact ⟨rfl, rfl, rfl⟩
      · split <;> exact ⟨rfl, rfl, rfl⟩
theorem ok_look {p : Fp} (h : OkP p) (o : Fop) : OkP (lookF p o).1 := by
  unfold lookF
  by_cases h1 : rightF_ o = false
  · rw [if_pos h1]; exact h
  rw [if_neg h1]
  have hr : rightF_ o = true := by simpa using h1
  by_cases h2 : (stopsF p o (touchF o.addr (sizeF o))).1 ≠ 0
  · rw [if_pos h2]; exact h
  rw [if_neg h2]
  have h2' : (stopsF p o (touchF o.addr (sizeF o))).1 = 0 := by simpa using h2
  obtain ⟨t0, t1, a0, s0, s1, ht, hs⟩ := right_facts hr
  by_cases h3 : o.kind = 13
  · rw [if_pos h3]
    refine ⟨h.r, h.b, fun n i => ?_, h.dead, h.reg, fun n hn => ⟨(h.clean n hn).1, fun i hi => ?_⟩⟩
    · show 0 ≤ tagF p.tg o.addr (sizeF o) o.tag n i ∧ tagF p.tg o.addr (sizeF o) o.tag n i ≤ 15
      unfold tagF
      split
      · omega
      · exact h.t n i
    · show tagF p.tg o.addr (sizeF o) o.tag n i = 0
      unfold tagF
      split
      · rename_i hh
        obtain ⟨a, e, _⟩ := look_there hr h2' hh.1 hh.2
        rw [show ((n * 64 + i * 16 : Nat) : Int) / 64 = (n : Int) by omega, hn] at e
        cases e
      · exact (h.clean n hn).2 i hi
  rw [if_neg h3]
  by_cases h4 : o.kind = 11
  · rw [if_pos h4]
    refine ⟨h.r, fun n i => store_range _ h.b _ _ _ n i, h.t, h.dead, h.reg, fun n hn => ⟨fun i hi => ?_, (h.clean n hn).2⟩⟩
    show storeF p.bt o.addr o.size o.value n i = 0
    unfold storeF
    split
    · rename_i hh
      obtain ⟨a, e, _⟩ := look_there hr h2' hh.1 (by rw [(hs h3).1]; exact hh.2)
      rw [show ((n * 64 + i : Nat) : Int) / 64 = (n : Int) by omega, hn] at e
      cases e
    · exact (h.clean n hn).1 i hi
  rw [if_neg h4]
  exact h
theorem ok_fork {W : Fw} (h : OkW W) {k : Nat} (hk : k < 4) : OkW (forkF W (W k)).1 := by
  unfold forkF
  split
  · exact h
  · rename_i h1
    have hc : childF W < 4 := by
      have : childF W ≤ 4 := by unfold childF; split <;> (try split) <;> (try split) <;> (try split) <;> omega
      omega
    refine h.upd hc (h.p k) ?_
    have := tot_nonneg (h.p (childF W)).r
    omega
theorem ok_do {W : Fw} (h : OkW W) (o : Fop) : OkW (doF W o).1 := by
  unfold doF
  by_cases h1 : o.kind < 1 ∨ 14 < o.kind
  · rw [if_pos h1]; exact h
  rw [if_neg h1]
  by_cases h2 : o.kind = 14
  · rw [if_pos h2]; exact h
  rw [if_neg h2]
  by_cases h3 : o.proc < 0 ∨ 4 ≤ o.proc ∨ (W o.proc.toNat).live = false
  · rw [if_pos h3]; exact h
  rw [if_neg h3]
  have hk : o.proc.toNat < 4 := by omega
  have hl : (W o.proc.toNat).live = true := by
    cases hl : (W o.proc.toNat).live with
    | true => rfl
    | false => exact absurd (.inr (.inr hl)) h3
  have hp := h.p o.proc.toNat
  generalize o.proc.toNat = k at *
  by_cases h4 : o.kind ≤ 4
  · rw [if_pos h4]
    by_cases h5 : o.kind = 1
    · simp only [if_pos h5]
      by_cases h6 : (mapF (W k).rg (W k).ks (mappedF W) o).2.err = 0
      · rw [if_pos h6]
        obtain ⟨e1, e2, e3, e4, e5, _⟩ := map_ok h6
        obtain ⟨hr, hh⟩ := add_has e2
        obtain ⟨_, _, _, ht⟩ := back_law e2
        rw [e1]
        simp only at ht
        refine h.upd hk (ok_clean hr hp.b hp.t (fun h => by rw [hl] at h; cases h) fun q t hq => ?_) ?_
        · rcases (hh q t).1 hq with hq | ⟨_, _, rfl⟩
          · exact hp.reg q t hq
          · exact ⟨e3, e4⟩
        · show mappedF W + tot (addL _ _) - tot (W k).rg ≤ 64
          omega
      · rw [if_neg h6]; exact h
    · simp only [if_neg h5]
      by_cases h6 : (shapeF (W k).rg (W k).ks o).2.err = 0
      · rw [if_pos h6]
        have hs := h.sum
        rcases (shape_ok (by omega) h6).2 with ⟨_, e1, e2, _⟩ | ⟨_, e3, e4, e1, e2, _⟩ | ⟨_, e1, e2⟩
        · obtain ⟨hr, hh⟩ := cut_has e1
          have ht := tot_cut e1
          rw [e2]
          refine h.upd hk (ok_clean hr hp.b hp.t (fun h => by rw [hl] at h; cases h) fun q t hq => hp.reg q t ((hh q t).1 hq).1) ?_
          show mappedF W + tot (cutL _ _ _) - tot (W k).rg ≤ 64
          omega
        · obtain ⟨hr, hh⟩ := turn_has (f := guardA o.rights o.key) e1
          have ht := tot_turn (f := guardA o.rights o.key) e1
          rw [e2]
          refine h.upd hk (ok_clean hr hp.b hp.t (fun h => by rw [hl] at h; cases h) fun q t hq => ?_) ?_
          · rcases (hh q t).1 hq with hq | ⟨_, _, s, hs, rfl⟩
            · exact hp.reg q t hq.1
            · exact ⟨e3, e4⟩
          · show mappedF W + tot (turnL _ _ _ _) - tot (W k).rg ≤ 64
            omega
        · obtain ⟨hr, hh⟩ := turn_has (f := sealA) e1
          have ht := tot_turn (f := sealA) e1
          rw [e2]
          refine h.upd hk (ok_clean hr hp.b hp.t (fun h => by rw [hl] at h; cases h) fun q t hq => ?_) ?_
          · rcases (hh q t).1 hq with hq | ⟨_, _, s, hs, rfl⟩
            · exact hp.reg q t hq.1
            · exact hp.reg q s hs
          · show mappedF W + tot (turnL _ _ _ _) - tot (W k).rg ≤ 64
            omega
      · rw [if_neg h6]; exact h
  rw [if_neg h4]
  by_cases h5 : o.kind ≤ 7
  · rw [if_pos h5]
    simp only
    by_cases h6 : (holdF (W k).rg (W k).ks o).2.err = 0
    · rw [if_pos h6]
      refine h.upd hk ⟨hp.r, hp.b, hp.t, hp.dead, fun q t hq => ⟨(hp.reg q t hq).1, hold_ok hp.r h6 hq (hp.reg q t hq).2⟩, hp.clean⟩ ?_
      have := h.sum
      show mappedF W + tot (W k).rg - tot (W k).rg ≤ 64
      omega
    · rw [if_neg h6]; exact h
  rw [if_neg h5]
  by_cases h6 : o.kind = 8
  · rw [if_pos h6]; exact ok_fork h hk
  rw [if_neg h6]
  by_cases h7 : o.kind = 9
  · rw [if_pos h7]
    refine h.upd hk ok_zero ?_
    have := h.sum
    have := tot_nonneg hp.r
    show mappedF W + 0 - tot (W k).rg ≤ 64
    omega
  rw [if_neg h7]
  refine h.upd hk (ok_look hp o) ?_
  rw [(look_same (W k) o).1]
  have := h.sum
  omega
theorem ok_fold : ∀ (l : List Fop) (W : Fw) (a : List Fan), OkW W → OkW (l.foldl (fun s o => ((doF s.1 o).1, s.2 ++ [(doF s.1 o).2])) (W, a)).1
  | [], _, _, h => h
  | o :: l, W, a, h => by rw [List.foldl_cons]; exact ok_fold l _ _ (ok_do h o)
theorem ok_run (l : List Fop) : OkW (runF l).1 := ok_fold l _ _ ok_new
end Go.Proofs.Ytglnnplijienbaa

/- flat.Touches. -/
namespace Go.Proofs.Ytglnnplijienbaa
open Go.ChangeShapes Go.WideShapes Go.ChangeAt Go.RowKit Go.Joins
set_option linter.unusedVariables false
set_option linter.unusedSimpArgs false
set_option maxRecDepth 100000
def fT (t : Tch) : List Value := [.int .i64 t.p, .int .i64 t.f, .int .i64 t.t]
theorem fT_len (x : Tch) : (fT x).length = 3 := rfl
theorem fT_one1 : ∀ (x : Tch), ∀ u ∈ fT x, u.oneCell' = true := by intro x; simp [fT, Value.oneCell']
theorem info_T : (Try.prog.info? 114).map (fun i => (i.zero, i.size, i.bytes)) = some (some (.agg #[.int .i64 0, .int .i64 0, .int .i64 0]), 3, 24) := by kernel_rfl
theorem append_T {ops : Array Oper} {rest : List Oper} {o : Oper} {a : Act} {Q : Exit → Act → World → Prop} (hgd : o.guard = none) (s x : Operand) (ho : o.op = .call { callee := .builtin .append, args := #[s, x], argTypes := #[111, 111] })
    (base : Nat) (v : Value) (t : List Tch) (W : World) (c : Tch) (gx : Nat) (hs : a.eval s = v) (hx : a.eval x = .slice (some ⟨gx, 0, none⟩) 1 1) (hgx : gx = W.heap.size) (hos : Os fT 3 114 W base v t) (hb : base ≤ W.heap.size) (hlen : t.length + 1 ≤ 1000)
    (hK : ∀ g' c' w', Os fT 3 114 w' base (.slice (some ⟨g', 0, none⟩) (t.length + 1) c') (t ++ [c]) → Below base W w' → base ≤ g' → t.length + 1 ≤ c' → c' ≤ maxLen → wpList Try.prog ops Q rest (a.put o.dst (.slice (some ⟨g', 0, none⟩) (t.length + 1) c')) w') :
    wpList Try.prog ops Q (o :: rest) a (W.alloc (.cells #[.int .i64 c.p, .int .i64 c.f, .int .i64 c.t] 114)) :=
  append_one Try.underlying111 info_T rfl (by decide) fT_len fT_one1 hgd s x ho base v t W c gx hs hx hgx hos hb (by unfold maxLen; omega) (by omega) hK
/-- Enough steps are given. -/
def FuelT (e a : Int) (f : Nat) : Prop := e ≤ a ∨ 65 - a / 64 ≤ f
theorem FuelT.pos {e a : Int} {f : Nat} (h : FuelT e a f) (hl : a < e) (he : e ≤ 4096) : ∃ g, f = g + 1 := by
  unfold FuelT at h
  exact ⟨f - 1, by omega⟩
theorem FuelT.next {e a : Int} {f : Nat} (h : FuelT e a (f + 1)) (hl : a < e) : FuelT e (min e ((a / 64 + 1) * 64)) f := by
  unfold FuelT at *
  by_cases hm : e ≤ (a / 64 + 1) * 64
  · left; omega
  · right
    have : min e ((a / 64 + 1) * 64) = (a / 64 + 1) * 64 := by omega
    rw [this]; omega
theorem tchs_end {e a : Int} (h : ¬ a < e) : ∀ f, tchs e f a = []
  | 0 => rfl
  | f + 1 => if_neg h
theorem tchs_step {e a : Int} {f : Nat} (h : a < e) : tchs e (f + 1) a = ⟨a / 64, a - a / 64 * 64, min e ((a / 64 + 1) * 64) - a / 64 * 64⟩ :: tchs e f (min e ((a / 64 + 1) * 64)) := if_pos h
set_option maxHeartbeats 4000000 in
theorem touches_any (ad sz : Int) (h0 : 0 ≤ ad) (h1 : 0 ≤ sz) (h2 : ad + sz ≤ 4096) (w : World) :
    Calls Try.prog 54 #[.int .i64 ad, .int .i64 sz] w (Gives fT 3 114 w.heap.size w (touchF ad sz)) := by
  have HT : Hid (touchF ad sz = tchs (ad + sz) 65 ad) := Lib.hid rfl
  have HF0 : Hid (FuelT (ad + sz) ad 65) := Lib.hid (.inr (by omega))
  generalize touchF ad sz = ts at *
  go_enter Try.func54, Try.ntmps54
  go_wp2
  go_loopw [5, 6] (fun v i wr => ∃ (a : Int) (f : Nat) (ys : List Tch), 0 ≤ a ∧ a ≤ 4096 ∧ i = .int .i64 a ∧ ys.length + f = 65 ∧ Hid (FuelT (ad + sz) a f) ∧ Hid (ts = ys ++ tchs (ad + sz) f a) ∧ Hid (Os fT 3 114 wr w.heap.size v ys) ∧ Hid (Below w.heap.size w wr)) (fun _ i _ => 4097 - (intOf i).toNat)
  case atStart => exact ⟨ad, 65, [], h0, by omega, rfl, rfl, HF0, HT, Lib.hid Os.nil, Lib.hid (Below.refl _ _)⟩
  case round =>
    obtain ⟨a, f, ys, ha0, ha1, rfl, hlen, HF, HTS, HO, HB⟩ := hrel
    have hsz := HB.out.size
    have hdv : Int.tdiv a 64 = a / 64 := Int.tdiv_eq_ediv_of_nonneg ha0
    by_cases hlt : a < ad + sz
    · obtain ⟨g, rfl⟩ := HF.out.pos hlt (by omega)
      have HF2 := Lib.hid (HF.out.next hlt)
      have HTS2 : Hid (ts = (ys ++ [⟨a / 64, a - a / 64 * 64, min (ad + sz) ((a / 64 + 1) * 64) - a / 64 * 64⟩]) ++ tchs (ad + sz) g (min (ad + sz) ((a / 64 + 1) * 64))) := Lib.hid (by rw [HTS.out, tchs_step hlt, List.append_assoc]; rfl)
      clear HF HTS
      have HM : Hid (min (ad + sz) ((a / 64 + 1) * 64) ≤ 4096 ∧ a < min (ad + sz) ((a / 64 + 1) * 64)) := Lib.hid (by omega)
      have hd : 0 ≤ a / 64 ∧ a / 64 ≤ 64 := by omega
      go_wp2_with (at_builtin; refine append_T rfl _ _ rfl w.heap.size u5 ys wr ⟨a / 64, a - a / 64 * 64, min (ad + sz) ((a / 64 + 1) * 64) - a / 64 * 64⟩ wr.heap.size rfl rfl rfl HO.out hsz (by omega) ?_; intro g' c' w' ho hb3 hbg hcc hm)
      go_roundw
      case rel => exact ⟨min (ad + sz) ((a / 64 + 1) * 64), g, ys ++ [⟨a / 64, a - a / 64 * 64, min (ad + sz) ((a / 64 + 1) * 64) - a / 64 * 64⟩], by omega, HM.out.1, rfl, by simp; omega, HF2, HTS2, Lib.hid ho, Lib.hid (HB.out.trans hb3)⟩
      case measure => have := HM.out; simp [intOf]; omega
    · have HE : Hid (ts = ys) := Lib.hid (by rw [HTS.out, tchs_end hlt, List.append_nil])
      have hle : ad + sz ≤ a := by omega
      go_wp2
      go_ret
      exact ⟨_, rfl, by rw [HE.out]; exact HO.out, HB.out⟩
end Go.Proofs.Ytglnnplijienbaa
