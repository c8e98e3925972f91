/- Several texts in one: Sv, Sw, Swm. -/
import Derived.Test.YtglnnplijienbaaM11
import Derived.Deep.RegionLaw
/- append to a row of the call's own as one step of a region that draws its order. -/
namespace Go.Proofs.Ytglnnplijienbaa
open Go.ChangeShapes Go.WideShapes Go.ChangeAt Go.RowKit Go.Joins
set_option linter.unusedVariables false
theorem step_append_own {P : Program} {ops : Array Oper} {o : Oper} {a : Act} {w : World} {K : Act → World → Prop} {Q : Exit → Act → World → Prop} {E : Prop}
    (hg : o.guard = none) (s x : Operand) (t : TypeId) (hop : o.op = Op.call { callee := Callee.builtin Builtin.append, args := #[s, x], argTypes := #[t, t] })
    (base : Nat) (e : TypeId) (i : TypeInfo) (z : Value) (size bytes : Nat) (ht : P.underlying t = some (.slice e)) (hi : P.info? e = some i) (hz : i.zero = some z) (hsize : i.size = size) (hby : i.bytes = bytes) (hzs : z.cells.size = size) (hsz : 0 < size)
    (v : Value) (n : Nat) (xs : List Value) (hs : a.eval s = v) (hown : w.ownsRow base e size v n xs)
    (ad : Addr) (m c : Nat) (news : List Value) (hx : a.eval x = .slice (some ad) m c) (hl : news.length = m * size) (hnews : ∀ j u, news[j]? = some u → w.cell? (ad.add j) = some u) (h1 : ∀ u ∈ news, u.oneCell' = true)
    (h63 : n + m ≤ maxLen) (hbytes : (n + m) * bytes ≤ 140737488355328) (hbase : base ≤ w.heap.size)
    (hK : ∀ v' w', w'.ownsRow base e size v' (n + m) (xs ++ news) → w.grownBy w' v.ownBlock → K (a.put o.dst v') w') :
    if Region.wanted o (yielded ops a.tmps) = true then Oper.wp P o a w K Q else E := by
  have hw : Region.wanted o (yielded ops a.tmps) = true := by simp [Region.wanted, hg]
  rw [if_pos hw]
  exact wp_append_own w s x t hop base e i z size bytes ht hi hz hsize hby hzs hsz v n xs hs hown ad m c news hx hl hnews h1 h63 hbytes hbase (fun v' w' r1 r2 _ => hK v' w' r1 r2)
theorem alloc_cells {W : World} {T : TypeId} {vs : List Value} (j : Nat) (u : Value) (h : vs[j]? = some u) : (W.alloc (.cells vs.toArray T)).cell? (Addr.add ⟨W.heap.size, 0, none⟩ j) = some u := by
  rw [addr_add, Nat.zero_add]
  simp only [World.cell?, World.alloc, Array.getElem?_push_size]
  rw [List.getElem?_toArray]; exact h
theorem below_drew (B : Nat) (w : World) : Below B w w.drew := ⟨rfl, rfl, rfl, Nat.le_refl _, fun _ _ => rfl⟩
/-- An own row after an append, with one element more. -/
theorem os_append {α : Type} {f : α → List Value} {sz : Nat} {T : TypeId} {w : World} {base n : Nat} {v : Value} {xs ys : List α} (h : w.ownsRow base T sz v n (xs.flatMap f ++ ys.flatMap f)) (hn : n = xs.length + ys.length) : Os f sz T w base v (xs ++ ys) := by
  unfold Os
  rw [List.flatMap_append, List.length_append, ← hn]
  exact h
/-- What lay below B stays through an append to a row that lies above. -/
theorem grown_below {B base n : Nat} {sz : Nat} {T : TypeId} {w w' : World} {v : Value} {xs : List Value} (h : w.grownBy w' v.ownBlock) (ho : w.ownsRow base T sz v n xs) (hB : B ≤ base) (hb : base ≤ w.heap.size) : Below B w w' :=
  ⟨h.os, h.tape, h.output, h.size, fun k hk => h.block k (by omega) (by
    obtain ⟨_, ⟨rfl, _⟩ | ⟨g, cap, cur, rfl, hg, _⟩⟩ := ho
    · simp [Value.ownBlock]
    · simp [Value.ownBlock]; omega)⟩
theorem own_form {w : World} {base sz n : Nat} {T : TypeId} {v : Value} {xs : List Value} (h : w.ownsRow base T sz v n xs) (hn : 0 < n) : ∃ g c, v = .slice (some ⟨g, 0, none⟩) n c ∧ base ≤ g ∧ n ≤ c ∧ c ≤ maxLen := by
  obtain ⟨_, ⟨_, h0⟩ | ⟨g, cap, cur, rfl, hg, _, hc, hm, _⟩⟩ := h
  · omega
  · exact ⟨g, cap, rfl, hg, hc, hm⟩
/-- 's = append(s, x)' onto a row of the call's own. -/
theorem append_one {P : Program} {α : Type} {f : α → List Value} {sz bytes : Nat} {T Ts : TypeId} {z : Value} (ht : P.underlying Ts = some (.slice T)) (hinf : (P.info? T).map (fun i => (i.zero, i.size, i.bytes)) = some (some z, sz, bytes)) (hzs : z.cells.size = sz) (hsz : 0 < sz) (hf : ∀ x, (f x).length = sz) (h1 : ∀ x, ∀ u ∈ f x, u.oneCell' = true)
    {ops : Array Oper} {rest : List Oper} {o : Oper} {a : Act} {Q : Exit → Act → World → Prop} (hgd : o.guard = none) (s x : Operand) (ho : o.op = .call { callee := .builtin .append, args := #[s, x], argTypes := #[Ts, Ts] })
    (base : Nat) (v : Value) (t : List α) (W : World) (c : α) (gx : Nat) (hs : a.eval s = v) (hx : a.eval x = .slice (some ⟨gx, 0, none⟩) 1 1) (hgx : gx = W.heap.size) (hos : Os f sz T W base v t) (hb : base ≤ W.heap.size) (hlen : t.length + 1 ≤ maxLen) (hbytes : (t.length + 1) * bytes ≤ 140737488355328)
    (hK : ∀ g' c' w', Os f sz T w' base (.slice (some ⟨g', 0, none⟩) (t.length + 1) c') (t ++ [c]) → Below base W w' → base ≤ g' → t.length + 1 ≤ c' → c' ≤ maxLen → wpList P ops Q rest (a.put o.dst (.slice (some ⟨g', 0, none⟩) (t.length + 1) c')) w') :
    wpList P ops Q (o :: rest) a (W.alloc (.cells (f c).toArray T)) := by
  subst hgx
  obtain ⟨i0, hi, hz0, hz1, hz2⟩ := info_parts hinf
  have hW : Below W.heap.size W (W.alloc (.cells (f c).toArray T)) := (Below.refl _ _).alloc (Nat.le_refl _) _
  have ho2 := hos.below hW (Nat.le_refl _)
  refine wpList_append_own _ hgd s x Ts ho base T i0 z sz bytes ht hi hz0 hz1 hz2 hzs hsz v t.length (t.flatMap f) hs ho2 ⟨W.heap.size, 0, none⟩ 1 1 (f c) hx (by rw [hf, Nat.one_mul]) (fun j u h => alloc_cells j u h) (h1 c) hlen hbytes (by simp; omega) ?_
  intro v' w' hown hgrow _
  obtain ⟨g3, c3, rfl, hg3, hc3, hm3⟩ := own_form hown (by omega)
  exact hK g3 c3 w' (os_append (ys := [c]) (by simpa using hown) (by simp)) ((hW.mono hb).trans (grown_below hgrow ho2 (Nat.le_refl _) (by simp; omega))) hg3 hc3 hm3
end Go.Proofs.Ytglnnplijienbaa

/- A call as one step of a region that draws its order. -/
namespace Go.Proofs.Ytglnnplijienbaa
/-- A call of a Go function as one step of a region that draws its order. -/
theorem step_call {P : Program} {ops : Array Oper} {o : Oper} {a : Act} {w : World} {K : Act → World → Prop} {Q : Exit → Act → World → Prop} {E : Prop} {Φ : Ending → World → Prop} (f : FuncId) (args : Array Value)
    (hg : o.guard = none) (he : (execOp a.eval o).run P w = .ok (.enter f args) w) (hc : Calls P f args w Φ) (hΦ : ∀ e w', Φ e w' → ∃ v, e = .returned v) (hK : ∀ v w', Φ (.returned v) w' → K (a.put o.dst v) w') :
    if Region.wanted o (yielded ops a.tmps) = true then Oper.wp P o a w K Q else E := by
  have hw : Region.wanted o (yielded ops a.tmps) = true := by simp [Region.wanted, hg]
  rw [if_pos hw]
  unfold Oper.wp
  rw [he, Oper.upon_enter]
  refine hc.mono fun e w' h => ?_
  obtain ⟨v, rfl⟩ := hΦ e w' h
  exact hK v w' h
open Go.RowKit in
theorem alloc_cells_on {W w2 : World} {T : TypeId} {vs : List Value} (hb : Below (W.alloc (.cells vs.toArray T)).heap.size (W.alloc (.cells vs.toArray T)) w2) (j : Nat) (u : Value) (h : vs[j]? = some u) : w2.cell? (Addr.add ⟨W.heap.size, 0, none⟩ j) = some u := by
  have h1 := alloc_cells (W := W) (T := T) j u h
  rw [addr_add] at h1 ⊢
  exact (hb.cell (p := ⟨W.heap.size, 0 + j, none⟩) (by simp)).trans h1
end Go.Proofs.Ytglnnplijienbaa

/- append of many to a row of the call's own; one cell of an element written. -/
namespace Go.Proofs.Ytglnnplijienbaa
open Go.ChangeShapes Go.WideShapes Go.ChangeAt Go.RowKit Go.Joins
set_option linter.unusedVariables false
theorem Os.empty {α : Type} {f : α → List Value} {sz : Nat} {T : TypeId} (w : World) : Os f sz T (w.alloc (.cells #[] T)) w.heap.size (.slice (some ⟨w.heap.size, 0, none⟩) 0 0) ([] : List α) :=
  ⟨by simp, .inr ⟨w.heap.size, 0, #[], rfl, Nat.le_refl _, heap_alloc_new _ _, Nat.le_refl _, Nat.zero_le _, by simp, by simp⟩⟩
theorem Os.form {α : Type} {f : α → List Value} {sz : Nat} {T : TypeId} {w : World} {base : Nat} {v : Value} {xs : List α} (h : Os f sz T w base v xs) : ∃ A c, v = .slice A xs.length c ∧ xs.length ≤ c ∧ c ≤ maxLen := by
  obtain ⟨_, ⟨rfl, h0⟩ | ⟨g, cap, cur, rfl, _, _, hn, hm, _⟩⟩ := h
  · exact ⟨none, 0, by rw [h0], by omega, Nat.zero_le _⟩
  · exact ⟨_, cap, rfl, hn, hm⟩
/-- 's = append(s, ys...)' onto a row of the call's own. -/
theorem append_many {P : Program} {α : Type} {f : α → List Value} {sz bytes : Nat} {T Ts : TypeId} {z : Value} (ht : P.underlying Ts = some (.slice T)) (hinf : (P.info? T).map (fun i => (i.zero, i.size, i.bytes)) = some (some z, sz, bytes)) (hzs : z.cells.size = sz) (hsz : 0 < sz) (hf : ∀ x, (f x).length = sz) (h1 : ∀ x, ∀ u ∈ f x, u.oneCell' = true)
    {ops : Array Oper} {rest : List Oper} {o : Oper} {a : Act} {Q : Exit → Act → World → Prop} (hgd : o.guard = none) (s x : Operand) (ho : o.op = .call { callee := .builtin .append, args := #[s, x], argTypes := #[Ts, Ts] })
    (base : Nat) (v : Value) (t : List α) (W : World) (B : Nat) (ad : Addr) (m c : Nat) (ys : List α) (hs : a.eval s = v) (hx : a.eval x = .slice (some ad) m c) (hos : Os f sz T W base v t) (hr : Rw f sz W B (some ad) m ys) (hb : base ≤ W.heap.size) (hlen : t.length + m ≤ maxLen) (hbytes : (t.length + m) * bytes ≤ 140737488355328)
    (hK : ∀ A' c' w', Os f sz T w' base (.slice A' (t.length + m) c') (t ++ ys) → Below base W w' → t.length + m ≤ c' → c' ≤ maxLen → wpList P ops Q rest (a.put o.dst (.slice A' (t.length + m) c')) w') :
    wpList P ops Q (o :: rest) a W := by
  obtain ⟨i0, hi, hz0, hz1, hz2⟩ := info_parts hinf
  have hm := hr.1
  obtain ⟨hl, hc⟩ := Rw.cells hf hsz hr
  refine wpList_append_own _ hgd s x Ts ho base T i0 z sz bytes ht hi hz0 hz1 hz2 hzs hsz v t.length (t.flatMap f) hs hos ad m c (ys.flatMap f) hx hl hc (fun u hu => by obtain ⟨y, _, hy⟩ := List.mem_flatMap.1 hu; exact h1 y u hy) hlen hbytes hb ?_
  intro v' w' hown hgrow _
  have ho2 := os_append hown (by rw [hm])
  obtain ⟨A', c', e, hc1, hc2⟩ := ho2.form
  subst e
  rw [List.length_append, hm] at *
  exact hK A' c' w' ho2 (grown_below hgrow hos (Nat.le_refl _) hb) hc1 hc2
theorem setMany_same : ∀ (vs : List Value) (s : Nat) (F : Array Value), (∀ j v, vs[j]? = some v → F[s + j]? = some v) → Go.Sort.setMany F s vs = F
  | [], _, _, _ => rfl
  | v :: r, s, F, h => by
    unfold Go.Sort.setMany
    have e : F.setIfInBounds s v = F := by
      have h0 := h 0 v rfl
      rw [Nat.add_zero] at h0
      apply Array.ext_getElem?
      intro t
      by_cases e : t = s
      · subst e
        rw [Array.getElem?_setIfInBounds_self_of_lt (Array.getElem?_eq_some_iff.1 h0).1, h0]
      · rw [Array.getElem?_setIfInBounds_ne (fun h => e h.symm)]
    rw [e]
    exact setMany_same r (s + 1) F fun j u hj => by have := h (j + 1) u (by simpa using hj); rwa [show s + 1 + j = s + (j + 1) by omega]
/-- The first cell of an element is written. -/
theorem Os.set_first {α : Type} {f : α → List Value} {sz : Nat} {T : TypeId} {w : World} {base n c g i : Nat} {xs : List α} (hf : ∀ x, (f x).length = sz) (hs : 0 < sz) (h : Os f sz T w base (.slice (some ⟨g, 0, none⟩) n c) xs) {x y : α} {u : Value} {tl : List Value} (hi : xs[i]? = some x) (hy : f y = u :: tl) (hx : ∀ j v, tl[j]? = some v → (f x)[j + 1]? = some v) : Os f sz T (w.setCell ⟨g, i * sz, none⟩ u) base (.slice (some ⟨g, 0, none⟩) n c) (xs.set i y) := by
  have hil : i < xs.length := (List.getElem?_eq_some_iff.1 hi).1
  have h1 := h.set hf hs hil y
  obtain ⟨g', cur, e, rfl, hg, hh, hn, hm, hz, hxs⟩ := h.inv
  injection e with e
  subst e
  have hb1 := setCells_blk (f y) (i * sz) w cur hh
  have hb2 := setCells_blk [u] (i * sz) w cur hh
  have e2 : Go.Sort.setMany cur (i * sz) (f y) = Go.Sort.setMany cur (i * sz) [u] := by
    rw [hy]
    show Go.Sort.setMany (cur.setIfInBounds (i * sz) u) (i * sz + 1) tl = cur.setIfInBounds (i * sz) u
    refine setMany_same _ _ _ fun j v hj => ?_
    rw [Array.getElem?_setIfInBounds_ne (by omega)]
    have h2 := (h.cells hf hi (j + 1) v (hx j v hj)).1
    rw [blk_cell hh] at h2
    rwa [Nat.add_assoc, Nat.add_comm 1 j]
  rw [e2] at hb1
  have hb3 : (w.setCell ⟨g, i * sz, none⟩ u).heap[g]? = (w.setCells g (i * sz) (f y)).heap[g]? := by rw [hb1]; exact hb2
  obtain ⟨q1, ⟨q, _⟩ | ⟨g2, cap2, cur2, q, r1, r2, r3, r4, r5, r6⟩⟩ := h1
  · cases q
  · refine ⟨q1, .inr ⟨g2, cap2, cur2, q, r1, ?_, r3, r4, r5, r6⟩⟩
    injection q with q _ _
    injection q with q
    injection q with q
    subst q
    rw [hb3]; exact r2
end Go.Proofs.Ytglnnplijienbaa
