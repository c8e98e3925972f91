/- append to a row of the call's own as one step of a region that draws its order. -/
import Derived.Test.YtnbhchfpfbbngaaSu
import Derived.Deep.RegionLaw
namespace Go.Proofs.Ytnbhchfpfbbngaa
open Go.ChangeShapes Go.WideShapes Go.ChangeAt Go.RowKit Go.Joins
set_option linter.unusedVariables false
theorem step_append_own {P : Program} {ops : Array Oper} {o : Oper} {a : Act} {w : World} {K : Act → World → Prop} {Q : Exit → Act → World → Prop} {E : Prop}
    (hg : o.guard = none) (s x : Operand) (t : TypeId) (hop : o.op = Op.call { callee := Callee.builtin Builtin.append, args := #[s, x], argTypes := #[t, t] })
    (base : Nat) (e : TypeId) (i : TypeInfo) (z : Value) (size bytes : Nat) (ht : P.underlying t = some (.slice e)) (hi : P.info? e = some i) (hz : i.zero = some z) (hsize : i.size = size) (hby : i.bytes = bytes) (hzs : z.cells.size = size) (hsz : 0 < size)
    (v : Value) (n : Nat) (xs : List Value) (hs : a.eval s = v) (hown : w.ownsRow base e size v n xs)
    (ad : Addr) (m c : Nat) (news : List Value) (hx : a.eval x = .slice (some ad) m c) (hl : news.length = m * size) (hnews : ∀ j u, news[j]? = some u → w.cell? (ad.add j) = some u) (h1 : ∀ u ∈ news, u.oneCell' = true)
    (h63 : n + m ≤ maxLen) (hbytes : (n + m) * bytes ≤ 140737488355328) (hbase : base ≤ w.heap.size)
    (hK : ∀ v' w', w'.ownsRow base e size v' (n + m) (xs ++ news) → w.grownBy w' v.ownBlock → K (a.put o.dst v') w') :
    if Region.wanted o (yielded ops a.tmps) = true then Oper.wp P o a w K Q else E := by
  have hw : Region.wanted o (yielded ops a.tmps) = true := by simp [Region.wanted, hg]
  rw [if_pos hw]
  exact wp_append_own w s x t hop base e i z size bytes ht hi hz hsize hby hzs hsz v n xs hs hown ad m c news hx hl hnews h1 h63 hbytes hbase (fun v' w' r1 r2 _ => hK v' w' r1 r2)
theorem alloc_cells {W : World} {T : TypeId} {vs : List Value} (j : Nat) (u : Value) (h : vs[j]? = some u) : (W.alloc (.cells vs.toArray T)).cell? (Addr.add ⟨W.heap.size, 0, none⟩ j) = some u := by
  rw [addr_add, Nat.zero_add]
  simp only [World.cell?, World.alloc, Array.getElem?_push_size]
  rw [List.getElem?_toArray]; exact h
theorem below_drew (B : Nat) (w : World) : Below B w w.drew := ⟨rfl, rfl, rfl, Nat.le_refl _, fun _ _ => rfl⟩
/-- An own row after an append, with one element more. -/
theorem os_append {α : Type} {f : α → List Value} {sz : Nat} {T : TypeId} {w : World} {base n : Nat} {v : Value} {xs ys : List α} (h : w.ownsRow base T sz v n (xs.flatMap f ++ ys.flatMap f)) (hn : n = xs.length + ys.length) : Os f sz T w base v (xs ++ ys) := by
  unfold Os
  rw [List.flatMap_append, List.length_append, ← hn]
  exact h
/-- What lay below B stays through an append to a row that lies above. -/
theorem grown_below {B base n : Nat} {sz : Nat} {T : TypeId} {w w' : World} {v : Value} {xs : List Value} (h : w.grownBy w' v.ownBlock) (ho : w.ownsRow base T sz v n xs) (hB : B ≤ base) (hb : base ≤ w.heap.size) : Below B w w' :=
  ⟨h.os, h.tape, h.output, h.size, fun k hk => h.block k (by omega) (by
    obtain ⟨_, ⟨rfl, _⟩ | ⟨g, cap, cur, rfl, hg, _⟩⟩ := ho
    · simp [Value.ownBlock]
    · simp [Value.ownBlock]; omega)⟩
theorem own_form {w : World} {base sz n : Nat} {T : TypeId} {v : Value} {xs : List Value} (h : w.ownsRow base T sz v n xs) (hn : 0 < n) : ∃ g c, v = .slice (some ⟨g, 0, none⟩) n c ∧ base ≤ g ∧ n ≤ c ∧ c ≤ maxLen := by
  obtain ⟨_, ⟨_, h0⟩ | ⟨g, cap, cur, rfl, hg, _, hc, hm, _⟩⟩ := h
  · omega
  · exact ⟨g, cap, rfl, hg, hc, hm⟩
/-- 's = append(s, x)' onto a row of the call's own. -/
theorem append_one {P : Program} {α : Type} {f : α → List Value} {sz bytes : Nat} {T Ts : TypeId} {z : Value} (ht : P.underlying Ts = some (.slice T)) (hinf : (P.info? T).map (fun i => (i.zero, i.size, i.bytes)) = some (some z, sz, bytes)) (hzs : z.cells.size = sz) (hsz : 0 < sz) (hf : ∀ x, (f x).length = sz) (h1 : ∀ x, ∀ u ∈ f x, u.oneCell' = true)
    {ops : Array Oper} {rest : List Oper} {o : Oper} {a : Act} {Q : Exit → Act → World → Prop} (hgd : o.guard = none) (s x : Operand) (ho : o.op = .call { callee := .builtin .append, args := #[s, x], argTypes := #[Ts, Ts] })
    (base : Nat) (v : Value) (t : List α) (W : World) (c : α) (gx : Nat) (hs : a.eval s = v) (hx : a.eval x = .slice (some ⟨gx, 0, none⟩) 1 1) (hgx : gx = W.heap.size) (hos : Os f sz T W base v t) (hb : base ≤ W.heap.size) (hlen : t.length + 1 ≤ maxLen) (hbytes : (t.length + 1) * bytes ≤ 140737488355328)
    (hK : ∀ g' c' w', Os f sz T w' base (.slice (some ⟨g', 0, none⟩) (t.length + 1) c') (t ++ [c]) → Below base W w' → base ≤ g' → t.length + 1 ≤ c' → c' ≤ maxLen → wpList P ops Q rest (a.put o.dst (.slice (some ⟨g', 0, none⟩) (t.length + 1) c')) w') :
    wpList P ops Q (o :: rest) a (W.alloc (.cells (f c).toArray T)) := by
  subst hgx
  obtain ⟨i0, hi, hz0, hz1, hz2⟩ := info_parts hinf
  have hW : Below W.heap.size W (W.alloc (.cells (f c).toArray T)) := (Below.refl _ _).alloc (Nat.le_refl _) _
  have ho2 := hos.below hW (Nat.le_refl _)
  refine wpList_append_own _ hgd s x Ts ho base T i0 z sz bytes ht hi hz0 hz1 hz2 hzs hsz v t.length (t.flatMap f) hs ho2 ⟨W.heap.size, 0, none⟩ 1 1 (f c) hx (by rw [hf, Nat.one_mul]) (fun j u h => alloc_cells j u h) (h1 c) hlen hbytes (by simp; omega) ?_
  intro v' w' hown hgrow _
  obtain ⟨g3, c3, rfl, hg3, hc3, hm3⟩ := own_form hown (by omega)
  exact hK g3 c3 w' (os_append (ys := [c]) (by simpa using hown) (by simp)) ((hW.mono hb).trans (grown_below hgrow ho2 (Nat.le_refl _) (by simp; omega))) hg3 hc3 hm3
end Go.Proofs.Ytnbhchfpfbbngaa
