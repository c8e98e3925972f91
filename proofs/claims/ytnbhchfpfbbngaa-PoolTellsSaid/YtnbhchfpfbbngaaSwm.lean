/- append of many to a row of the call's own; one cell of an element written. -/
import Derived.Test.YtnbhchfpfbbngaaSw
namespace Go.Proofs.Ytnbhchfpfbbngaa
open Go.ChangeShapes Go.WideShapes Go.ChangeAt Go.RowKit Go.Joins
set_option linter.unusedVariables false
theorem Os.empty {α : Type} {f : α → List Value} {sz : Nat} {T : TypeId} (w : World) : Os f sz T (w.alloc (.cells #[] T)) w.heap.size (.slice (some ⟨w.heap.size, 0, none⟩) 0 0) ([] : List α) :=
  ⟨by simp, .inr ⟨w.heap.size, 0, #[], rfl, Nat.le_refl _, heap_alloc_new _ _, Nat.le_refl _, Nat.zero_le _, by simp, by simp⟩⟩
theorem Os.form {α : Type} {f : α → List Value} {sz : Nat} {T : TypeId} {w : World} {base : Nat} {v : Value} {xs : List α} (h : Os f sz T w base v xs) : ∃ A c, v = .slice A xs.length c ∧ xs.length ≤ c ∧ c ≤ maxLen := by
  obtain ⟨_, ⟨rfl, h0⟩ | ⟨g, cap, cur, rfl, _, _, hn, hm, _⟩⟩ := h
  · exact ⟨none, 0, by rw [h0], by omega, Nat.zero_le _⟩
  · exact ⟨_, cap, rfl, hn, hm⟩
/-- 's = append(s, ys...)' onto a row of the call's own. -/
theorem append_many {P : Program} {α : Type} {f : α → List Value} {sz bytes : Nat} {T Ts : TypeId} {z : Value} (ht : P.underlying Ts = some (.slice T)) (hinf : (P.info? T).map (fun i => (i.zero, i.size, i.bytes)) = some (some z, sz, bytes)) (hzs : z.cells.size = sz) (hsz : 0 < sz) (hf : ∀ x, (f x).length = sz) (h1 : ∀ x, ∀ u ∈ f x, u.oneCell' = true)
    {ops : Array Oper} {rest : List Oper} {o : Oper} {a : Act} {Q : Exit → Act → World → Prop} (hgd : o.guard = none) (s x : Operand) (ho : o.op = .call { callee := .builtin .append, args := #[s, x], argTypes := #[Ts, Ts] })
    (base : Nat) (v : Value) (t : List α) (W : World) (B : Nat) (ad : Addr) (m c : Nat) (ys : List α) (hs : a.eval s = v) (hx : a.eval x = .slice (some ad) m c) (hos : Os f sz T W base v t) (hr : Rw f sz W B (some ad) m ys) (hb : base ≤ W.heap.size) (hlen : t.length + m ≤ maxLen) (hbytes : (t.length + m) * bytes ≤ 140737488355328)
    (hK : ∀ A' c' w', Os f sz T w' base (.slice A' (t.length + m) c') (t ++ ys) → Below base W w' → t.length + m ≤ c' → c' ≤ maxLen → wpList P ops Q rest (a.put o.dst (.slice A' (t.length + m) c')) w') :
    wpList P ops Q (o :: rest) a W := by
  obtain ⟨i0, hi, hz0, hz1, hz2⟩ := info_parts hinf
  have hm := hr.1
  obtain ⟨hl, hc⟩ := Rw.cells hf hsz hr
  refine wpList_append_own _ hgd s x Ts ho base T i0 z sz bytes ht hi hz0 hz1 hz2 hzs hsz v t.length (t.flatMap f) hs hos ad m c (ys.flatMap f) hx hl hc (fun u hu => by obtain ⟨y, _, hy⟩ := List.mem_flatMap.1 hu; exact h1 y u hy) hlen hbytes hb ?_
  intro v' w' hown hgrow _
  have ho2 := os_append hown (by rw [hm])
  obtain ⟨A', c', e, hc1, hc2⟩ := ho2.form
  subst e
  rw [List.length_append, hm] at *
  exact hK A' c' w' ho2 (grown_below hgrow hos (Nat.le_refl _) hb) hc1 hc2
theorem setMany_same : ∀ (vs : List Value) (s : Nat) (F : Array Value), (∀ j v, vs[j]? = some v → F[s + j]? = some v) → Go.Sort.setMany F s vs = F
  | [], _, _, _ => rfl
  | v :: r, s, F, h => by
    unfold Go.Sort.setMany
    have e : F.setIfInBounds s v = F := by
      have h0 := h 0 v rfl
      rw [Nat.add_zero] at h0
      apply Array.ext_getElem?
      intro t
      by_cases e : t = s
      · subst e
        rw [Array.getElem?_setIfInBounds_self_of_lt (Array.getElem?_eq_some_iff.1 h0).1, h0]
      · rw [Array.getElem?_setIfInBounds_ne (fun h => e h.symm)]
    rw [e]
    exact setMany_same r (s + 1) F fun j u hj => by have := h (j + 1) u (by simpa using hj); rwa [show s + 1 + j = s + (j + 1) by omega]
/-- The first cell of an element is written. -/
theorem Os.set_first {α : Type} {f : α → List Value} {sz : Nat} {T : TypeId} {w : World} {base n c g i : Nat} {xs : List α} (hf : ∀ x, (f x).length = sz) (hs : 0 < sz) (h : Os f sz T w base (.slice (some ⟨g, 0, none⟩) n c) xs) {x y : α} {u : Value} {tl : List Value} (hi : xs[i]? = some x) (hy : f y = u :: tl) (hx : ∀ j v, tl[j]? = some v → (f x)[j + 1]? = some v) : Os f sz T (w.setCell ⟨g, i * sz, none⟩ u) base (.slice (some ⟨g, 0, none⟩) n c) (xs.set i y) := by
  have hil : i < xs.length := (List.getElem?_eq_some_iff.1 hi).1
  have h1 := h.set hf hs hil y
  obtain ⟨g', cur, e, rfl, hg, hh, hn, hm, hz, hxs⟩ := h.inv
  injection e with e
  subst e
  have hb1 := setCells_blk (f y) (i * sz) w cur hh
  have hb2 := setCells_blk [u] (i * sz) w cur hh
  have e2 : Go.Sort.setMany cur (i * sz) (f y) = Go.Sort.setMany cur (i * sz) [u] := by
    rw [hy]
    show Go.Sort.setMany (cur.setIfInBounds (i * sz) u) (i * sz + 1) tl = cur.setIfInBounds (i * sz) u
    refine setMany_same _ _ _ fun j v hj => ?_
    rw [Array.getElem?_setIfInBounds_ne (by omega)]
    have h2 := (h.cells hf hi (j + 1) v (hx j v hj)).1
    rw [blk_cell hh] at h2
    rwa [Nat.add_assoc, Nat.add_comm 1 j]
  rw [e2] at hb1
  have hb3 : (w.setCell ⟨g, i * sz, none⟩ u).heap[g]? = (w.setCells g (i * sz) (f y)).heap[g]? := by rw [hb1]; exact hb2
  obtain ⟨q1, ⟨q, _⟩ | ⟨g2, cap2, cur2, q, r1, r2, r3, r4, r5, r6⟩⟩ := h1
  · cases q
  · refine ⟨q1, .inr ⟨g2, cap2, cur2, q, r1, ?_, r3, r4, r5, r6⟩⟩
    injection q with q _ _
    injection q with q
    injection q with q
    subst q
    rw [hb3]; exact r2
end Go.Proofs.Ytnbhchfpfbbngaa
