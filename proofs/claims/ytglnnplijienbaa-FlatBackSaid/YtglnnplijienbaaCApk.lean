/- append onto a row of the call's own: the old slice still has what it had; as a step of a region that draws its order. -/
import Derived.Test.YtglnnplijienbaaM23
import Derived.Test.YtglnnplijienbaaCSx
import Derived.Maps.AppendAt
namespace Go.Proofs.Ytglnnplijienbaa
open Go Go.RowKit Go.Sort
set_option linter.unusedVariables false
section
variable {P : Program} (w : World)
theorem run_append_own_keep (base : Nat) (t ty e : TypeId) (i : TypeInfo) (z : Value) (size bytes : Nat) (ht : P.underlying t = some (.slice e)) (hi : P.info? e = some i) (hz : i.zero = some z)
    (hsize : i.size = size) (hby : i.bytes = bytes) (hzs : z.cells.size = size) (hsz : 0 < size)
    (v : Value) (n : Nat) (xs : List Value) (hown : w.ownsRow base e size v n xs)
    (a : Addr) (m c : Nat) (news : List Value) (hl : news.length = m * size) (hnews : ∀ j u, news[j]? = some u → w.cell? (a.add j) = some u) (h1 : ∀ u ∈ news, u.oneCell' = true)
    (h63 : n + m ≤ maxLen) (hbytes : (n + m) * bytes ≤ 140737488355328) (hbase : base ≤ w.heap.size) :
    ∃ v' w', (Builtin.append_ #[t, t] ty #[v, .slice (some a) m c]).run P w = .ok v' w' ∧ w'.ownsRow base e size v' (n + m) (xs ++ news) ∧ w.grownBy w' v.ownBlock ∧
      w'.ownsRow base e size v n xs ∧ (v'.ownBlock = v.ownBlock ∨ v'.ownBlock = some w.heap.size) := by
  obtain ⟨v', w', hr, h2, h3, h4, h5⟩ := run_append_own_at (P := P) w base t ty e i z size bytes ht hi hz hsize hby hzs hsz v n xs hown a m c news hl hnews h1 h63 hbytes hbase
  refine ⟨v', w', hr, h2, h3, ?_, h5⟩
  subst hsize
  rcases hown.2 with ⟨rfl, rfl⟩ | ⟨g, cap, cur, rfl, hbg, hg, hnc, hcm, hcs, htake⟩
  · exact ⟨hown.1, .inl ⟨rfl, rfl⟩⟩
  · by_cases hroom : n + m ≤ cap
    · have hfit : n * i.size + news.length ≤ cur.size := by rw [hl, hcs, ← Nat.add_mul]; exact Nat.mul_le_mul_right _ hroom
      have hr2 := run_append_room (P := P) w t ty e i ht hi g n cap cur hg a m c news hl hnews h1 hroom hfit
      rw [hr] at hr2
      injection hr2 with _ hw
      subst hw
      refine ⟨hown.1, .inr ⟨g, cap, _, rfl, hbg, setRow_heap w g cur _ e _ hg, hnc, hcm, ?_, ?_⟩⟩
      · simp only [List.size_toArray, List.length_append, List.length_take, List.length_drop, Array.length_toList]
        omega
      · rw [htake, List.append_assoc]
        have : xs.length = n * i.size := hown.1
        rw [← this]
        exact List.take_left
    · have hne : v'.ownBlock ≠ some g := by
        intro he
        obtain ⟨_, ⟨rfl, _⟩ | ⟨g', cap', cur', rfl, hbg', hg', hnc', hcm', hcs', htake'⟩⟩ := h2
        · cases he
        · simp only [Value.ownBlock, Option.some.injEq] at he
          subst he
          have holds : ∀ j u, xs[j]? = some u → w.cell? ((⟨g', 0, none⟩ : Addr).add j) = some u := hown.cells (g := g') rfl
          have hsmall : n + m ≤ 9223372036854775807 := by simp only [maxLen] at h63; omega
          have hr2 := run_append_grow (P := P) w t ty e i z ht hi hz ⟨g', 0, none⟩ n cap xs hown.1 holds a m c news hl hnews (by omega) (by omega) (growslice_fits (by omega) (by rw [hby]; exact hbytes))
          rw [hr] at hr2
          injection hr2 with hv _
          have := congrArg Value.ownBlock hv
          simp only [Value.ownBlock, Option.some.injEq] at this
          have hlt : g' < w.heap.size := by
            rcases Nat.lt_or_ge g' w.heap.size with h | h
            · exact h
            · rw [Array.getElem?_eq_none h] at hg; cases hg
          omega
      have holds : ∀ j u, xs[j]? = some u → w.cell? ((⟨g, 0, none⟩ : Addr).add j) = some u := hown.cells (g := g) rfl
      have hsmall : n + m ≤ 9223372036854775807 := by simp only [maxLen] at h63; omega
      have hr2 := run_append_grow (P := P) w t ty e i z ht hi hz ⟨g, 0, none⟩ n cap xs hown.1 holds a m c news hl hnews (by omega) (by omega) (growslice_fits (by omega) (by rw [hby]; exact hbytes))
      rw [hr] at hr2
      injection hr2 with _ hw
      have hlt : g < w.heap.size := by
        rcases Nat.lt_or_ge g w.heap.size with h | h
        · exact h
        · rw [Array.getElem?_eq_none h] at hg; cases hg
      refine ⟨hown.1, .inr ⟨g, cap, cur, rfl, hbg, ?_, hnc, hcm, hcs, htake⟩⟩
      rw [hw]
      exact (Go.heap_alloc_old w.drew _ hlt).trans hg
end
/-- Steps that leave all blocks but that of the row v, and that row's first elements. -/
def ApM (base : Nat) (e : TypeId) (size : Nat) (v : Value) (n : Nat) (xs : List Value) (w w' : World) : Prop := w.grownBy w' v.ownBlock ∧ (w.ownsRow base e size v n xs → w'.ownsRow base e size v n xs)
theorem ApM.refl (base : Nat) (e : TypeId) (size : Nat) (v : Value) (n : Nat) (xs : List Value) (w : World) : ApM base e size v n xs w w := ⟨⟨rfl, rfl, rfl, Nat.le_refl _, fun _ _ _ => rfl⟩, id⟩
theorem ApM.of {base : Nat} {e : TypeId} {size : Nat} {v : Value} {n : Nat} {xs : List Value} {w w' : World} (h : Below w.heap.size w w') : ApM base e size v n xs w w' :=
  ⟨⟨h.os, h.tape, h.output, h.size, fun k hk _ => h.block k hk⟩, fun ⟨h1, h2⟩ => ⟨h1, by
    rcases h2 with h2 | ⟨g, cap, cur, e, hg, hh, hn, hm, hz, hx⟩
    · exact .inl h2
    · exact .inr ⟨g, cap, cur, e, hg, (h.block g (blk_lt hh)).trans hh, hn, hm, hz, hx⟩⟩⟩
/-- The class: grown out of w1, the row still there. -/
def ApC (base : Nat) (e : TypeId) (size : Nat) (v : Value) (n : Nat) (xs : List Value) (w1 w : World) : Prop := w1.grownBy w v.ownBlock ∧ w.ownsRow base e size v n xs
theorem ApC.kind {base : Nat} {e : TypeId} {size : Nat} {v : Value} {n : Nat} {xs : List Value} {w1 : World} : StepKindC (ApM base e size v n xs) (ApC base e size v n xs w1) :=
  ⟨fun w => ApM.refl .., fun w w' h hm => ⟨h.1.trans hm.1, hm.2 h.2⟩⟩
theorem ApC.start {base : Nat} {e : TypeId} {size : Nat} {v : Value} {n : Nat} {xs : List Value} {w1 : World} (h : w1.ownsRow base e size v n xs) : ApC base e size v n xs w1 { w1 with drawn := w1.drawn + 1 } :=
  ⟨⟨rfl, rfl, rfl, Nat.le_refl _, fun _ _ _ => rfl⟩, h⟩
/-- A block that is not that row's stays. -/
theorem ApC.blk {base : Nat} {e : TypeId} {size : Nat} {v : Value} {n : Nat} {xs : List Value} {w1 w : World} (h : ApC base e size v n xs w1 w) {g : Nat} (hg : g < w1.heap.size) (hv : v.ownBlock ≠ some g) : w.heap[g]? = w1.heap[g]? := h.1.block g hg (fun e => hv e.symm)
theorem own_ne {w : World} {base : Nat} {e T : TypeId} {size : Nat} {v : Value} {n : Nat} {xs : List Value} (h : w.ownsRow base e size v n xs) {g : Nat} {cs : Array Value} (hb : Bx w g T cs) (hT : T ≠ e) : v.ownBlock ≠ some g := by
  intro hv
  obtain ⟨_, ⟨rfl, _⟩ | ⟨g', cap, cur, rfl, _, hg, _⟩⟩ := h
  · cases hv
  · simp only [Value.ownBlock, Option.some.injEq] at hv
    subst hv
    exact hT (bx_type hb hg).1
theorem ApC.bx {base : Nat} {e T : TypeId} {size : Nat} {v : Value} {n : Nat} {xs : List Value} {w1 w : World} (h : ApC base e size v n xs w1 w) (h0 : w1.ownsRow base e size v n xs) {g : Nat} {cs : Array Value} (hb : Bx w1 g T cs) (hT : T ≠ e) : Bx w g T cs := (h.blk hb.lt (own_ne h0 hb hT)).trans hb
/-- What lies below the row's base stays. -/
theorem ApC.below {base : Nat} {e : TypeId} {size : Nat} {v : Value} {n : Nat} {xs : List Value} {w1 w : World} (h : ApC base e size v n xs w1 w) (hb : base ≤ w1.heap.size) : Below base w1 w :=
  ⟨h.1.os, h.1.tape, h.1.output, h.1.size, fun k hk => h.blk (by omega) (by
    obtain ⟨_, ⟨rfl, _⟩ | ⟨g', cap, cur, rfl, hg, _⟩⟩ := h.2
    · simp [Value.ownBlock]
    · simp only [Value.ownBlock, ne_eq, Option.some.injEq]; omega)⟩
/-- The append as a step. -/
theorem becomesM_append {P : Program} {base : Nat} {t e : TypeId} {i : TypeInfo} {z : Value} {size bytes : Nat} (ht : P.underlying t = some (.slice e)) (hi : P.info? e = some i) (hz : i.zero = some z)
    (hsize : i.size = size) (hby : i.bytes = bytes) (hzs : z.cells.size = size) (hsz : 0 < size) {v : Value} {n : Nat} {xs : List Value} {w : World} {o : Oper} {a : Act} {Φ : Value → World → Prop} {s x : Operand}
    (ho : o.op = .call { callee := .builtin .append, args := #[s, x], argTypes := #[t, t] }) (hs : a.eval s = v) (hown : w.ownsRow base e size v n xs)
    (ad : Addr) (m c : Nat) (news : List Value) (hx : a.eval x = .slice (some ad) m c) (hl : news.length = m * size) (hnews : ∀ j u, news[j]? = some u → w.cell? (ad.add j) = some u) (h1 : ∀ u ∈ news, u.oneCell' = true)
    (h63 : n + m ≤ maxLen) (hbytes : (n + m) * bytes ≤ 140737488355328) (hbase : base ≤ w.heap.size)
    (h : ∀ v' w', w'.ownsRow base e size v' (n + m) (xs ++ news) → w.grownBy w' v.ownBlock → (v'.ownBlock = v.ownBlock ∨ v'.ownBlock = some w.heap.size) → Φ v' w') : becomesM (ApM base e size v n xs) P o a w Φ := by
  obtain ⟨v', w', hr, h2, h3, h4, h5⟩ := run_append_own_keep (P := P) w base t o.type e i z size bytes ht hi hz hsize hby hzs hsz v n xs hown ad m c news hl hnews h1 h63 hbytes hbase
  unfold becomesM execOp
  simp only [ho, resolve, invoke, builtin, Sem.run_bind, Sem.run_pure, Result.andThen_ok, List.map_toArray, List.map_cons, List.map_nil, hs, hx, hr]
  exact ⟨⟨h3, fun _ => h4⟩, h v' w' h2 h3 h5⟩
end Go.Proofs.Ytglnnplijienbaa
