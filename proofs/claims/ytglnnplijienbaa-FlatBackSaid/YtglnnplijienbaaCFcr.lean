/- Clone, append, Run: as steps of a region that draws its order. -/
import Derived.Test.YtglnnplijienbaaCRed
import Derived.Test.YtglnnplijienbaaM44
import Derived.Test.YtglnnplijienbaaM38
import Derived.Test.YtglnnplijienbaaCSlO
namespace Go.Proofs.Ytglnnplijienbaa
open Go.ChangeShapes Go.WideShapes Go.ChangeAt Go.RowKit Go.Joins Go.Sort
set_option linter.unusedVariables false
set_option linter.unusedSimpArgs false
set_option maxRecDepth 100000
theorem Seem.rebase {w : World} {base B : Nat} {cs : Array Value} {W : Fw} (h : Seem w base cs W) (hb : B ≤ base) : Seem w B cs W :=
  ⟨h.size, h.one, fun k hk => by
    have hv := h.each k hk
    refine ⟨hv.live, ?_, hv.ks, ?_⟩
    · obtain ⟨v, h1, h2⟩ := hv.rg; exact ⟨v, h1, h2.rebase hb⟩
    · obtain ⟨v, h1, h2⟩ := hv.pg; exact ⟨v, h1, h2.rebase hb⟩⟩
/-- Steps that make memory; the append (ap) may write into rows of operations from B on. -/
def MA (ap B i : Nat) (w w' : World) : Prop := (i ≠ ap ∧ Below w.heap.size w w') ∨ (i = ap ∧ Below B w w' ∧ KeepT (fun T => T ≠ 43) w w')
abbrev CA (w0 : World) : World → Prop := fun w => Below w0.heap.size w0 w
theorem MA.kind (ap : Nat) (w0 : World) : StepKindD (MA ap w0.heap.size) (CA w0) [] :=
  ⟨fun i w => by
    by_cases e : i = ap
    · exact .inr ⟨e, Below.refl _ _, KeepT.refl⟩
    · exact .inl ⟨e, Below.refl _ _⟩, fun i w w' h hm => by
    rcases hm with ⟨_, hm⟩ | ⟨_, hm, _⟩
    · exact h.trans (hm.mono h.size)
    · exact h.trans hm, fun p hp => by cases hp⟩
theorem MA.keepT {ap B i : Nat} {w w' : World} (h : MA ap B i w w') : KeepT (fun T => T ≠ 43) w w' := by
  rcases h with ⟨_, h⟩ | ⟨_, _, h⟩
  · exact KeepT.of h
  · exact h
theorem MA.low {ap B i : Nat} {w w' : World} (h : MA ap B i w w') (hi : i ≠ ap) : Below w.heap.size w w' := by
  rcases h with ⟨_, h⟩ | ⟨h, _⟩
  · exact h
  · exact absurd h hi
theorem seen_op {w w' : World} (h : KeepT (fun T => T ≠ 43) w w') : KeepT Seen w w' := h.weak fun T hT => by
  unfold Seen at hT; rcases hT with rfl | rfl | rfl | rfl | rfl <;> decide
/-- The clone. -/
def dClone (k ap B : Nat) (xs : List Fop) : SpD (MA ap B) := ⟨k, none, [ap], fun v => ∃ A n c, v = .slice A n c, fun _ v w => Os fO 12 43 w B v xs, ⟨_, none, 0, 0, rfl⟩, fun i hi _ u v w w' h hm => h.below (hm.low (by simpa using hi)) (Nat.le_refl _)⟩
/-- The slice of what is appended. -/
def dNew (k ap B m : Nat) (cs : Array Value) : SpD (MA ap B) := ⟨k, none, [ap], fun v => ∃ b, v = .slice (some ⟨b, 0, none⟩) m m, fun _ v w => ∃ b, v = .slice (some ⟨b, 0, none⟩) m m ∧ Bx w b 43 cs, ⟨_, 0, rfl⟩, fun i hi _ u v w w' h hm => by
  obtain ⟨b, e, hx⟩ := h
  exact ⟨b, e, hx.below (hm.low (by simpa using hi))⟩⟩
/-- The append. -/
def dApp (ap B : Nat) (xs : List Fop) : SpD (MA ap B) := ⟨ap, none, [], fun v => ∃ A n c, v = .slice A n c, fun _ v w => Os fO 12 43 w B v xs, ⟨_, none, 0, 0, rfl⟩, fun i _ hi u v w w' h hm => h.below (hm.low hi) (Nat.le_refl _)⟩
/-- Run. -/
def dRun (k ap B : Nat) (xs : List Fop) : SpD (MA ap B) := ⟨k, none, [], fun v => ∃ A n c cs, v = .tuple #[.slice A n c, .agg cs], fun _ v w => ∃ va cs, v = .tuple #[va, .agg cs] ∧ Os fN 4 47 w B va (runF xs).2 ∧ Seem w B cs (runF xs).1, ⟨_, none, 0, 0, #[], rfl⟩, fun i _ _ u v w w' h hm => by
  obtain ⟨va, cs, e, h1, h2⟩ := h
  exact ⟨va, cs, e, h1.keepT hm.keepT (by decide), h2.keepT (seen_op hm.keepT)⟩⟩
/-- A variable that is made. -/
def dBox (k ap B : Nat) (T : TypeId) (cs : Array Value) (hT : T ≠ 43) : SpD (MA ap B) := ⟨k, none, [], fun v => ∃ b, v = .pointer (some ⟨b, 0, none⟩), fun _ v w => ∃ b, v = .pointer (some ⟨b, 0, none⟩) ∧ B ≤ b ∧ Bx w b T cs, ⟨_, 0, rfl⟩, fun i _ _ u v w w' h hm => by
  obtain ⟨b, e, hB, hx⟩ := h
  exact ⟨b, e, hB, hm.keepT _ _ _ hT hx⟩⟩
theorem run_bsO (o : Fop) (w : World) : (Instr.buildSlice 22 1 #[(0, .agg (opA o))]).run Try.prog w = .ok (.slice (some ⟨w.heap.size, 0, none⟩) 1 1) (w.alloc (.cells (opA o) 43)) := by
  kernel_rfl
section
variable {P : Program} {M : World → World → Prop} {dst : Option Tmp} {x : Operand} {T type : TypeId} {pos : String} {after : Array Edge} {guard : Option (Nat × Bool)} {a : Act} {w w' : World} {v u : Value}
theorem ex_bs1 (hx : a.eval x = u) (h : (Instr.buildSlice T 1 #[(0, u)]).run P w = .ok v w') : (execOp a.eval ⟨dst, .buildSlice T 1 #[(0, x)], type, pos, after, guard⟩).run P w = .ok (.value v) w' := by
  unfold execOp
  simp only [List.map_toArray, List.map_cons, List.map_nil, hx, Sem.run_bind, h, Result.andThen_ok, Sem.run_pure]
end
/-- An append as a step, whatever its kind. -/
theorem becomesM_append2 {P : Program} {M : World → World → Prop} {base : Nat} {t e : TypeId} {i : TypeInfo} {z : Value} {size bytes : Nat} (ht : P.underlying t = some (.slice e)) (hi : P.info? e = some i) (hz : i.zero = some z)
    (hsize : i.size = size) (hby : i.bytes = bytes) (hzs : z.cells.size = size) (hsz : 0 < size) {v : Value} {n : Nat} {xs : List Value} {w : World} {o : Oper} {a : Act} {Φ : Value → World → Prop} {s x : Operand}
    (ho : o.op = .call { callee := .builtin .append, args := #[s, x], argTypes := #[t, t] }) (hs : a.eval s = v) (hown : w.ownsRow base e size v n xs)
    (ad : Addr) (m c : Nat) (news : List Value) (hx : a.eval x = .slice (some ad) m c) (hl : news.length = m * size) (hnews : ∀ j u, news[j]? = some u → w.cell? (ad.add j) = some u) (h1 : ∀ u ∈ news, u.oneCell' = true)
    (h63 : n + m ≤ maxLen) (hbytes : (n + m) * bytes ≤ 140737488355328) (hbase : base ≤ w.heap.size)
    (h : ∀ v' w', w'.ownsRow base e size v' (n + m) (xs ++ news) → w.grownBy w' v.ownBlock → M w w' ∧ Φ v' w') : becomesM M P o a w Φ := by
  obtain ⟨v', w', hr, h2, h3, h4, h5⟩ := run_append_own_keep (P := P) w base t o.type e i z size bytes ht hi hz hsize hby hzs hsz v n xs hown ad m c news hl hnews h1 h63 hbytes hbase
  unfold becomesM execOp
  simp only [ho, resolve, invoke, builtin, Sem.run_bind, Sem.run_pure, Result.andThen_ok, List.map_toArray, List.map_cons, List.map_nil, hs, hx, hr]
  exact h v' w' h2 h3
/-- The append of operations that lie in a block. -/
theorem app_step {ap B k : Nat} (hk : k = ap) {w : World} {o : Oper} {a : Act} {s x : Operand} (ho : o.op = .call { callee := .builtin .append, args := #[s, x], argTypes := #[22, 22] }) {v : Value} {xs ys : List Fop} (hs : a.eval s = v) (hown : Os fO 12 43 w B v xs) (hB : B ≤ w.heap.size)
    {b m : Nat} {cs : Array Value} (hx : a.eval x = .slice (some ⟨b, 0, none⟩) m m) (hb : Bx w b 43 cs) (hcs : cs = (ys.flatMap fO).toArray) (hm : ys.length = m) (hlen : xs.length + ys.length ≤ 1466015503701) {u : Value} :
    becomesM (MA ap B k) Try.prog o a w fun v' w' => (dApp ap B (xs ++ ys)).shape v' ∧ (dApp ap B (xs ++ ys)).fact u v' w' := by
  subst hk
  subst hcs
  obtain ⟨i0, hi, hz0, hz1, hz2⟩ := info_parts info_O
  have hfl : ∀ zs : List Fop, (zs.flatMap fO).length = zs.length * 12 := fun zs => flat_len fO_len zs
  refine becomesM_append2 Try.underlying22 hi hz0 hz1 hz2 rfl (by decide) ho hs hown ⟨b, 0, none⟩ m m (ys.flatMap fO) hx (by rw [hfl, hm]) (fun j u hj => ?_) (fO_one ys) (by unfold maxLen; omega) (by omega) hB ?_
  · rw [addr_add, Nat.zero_add, hb.cell, List.getElem?_toArray]; exact hj
  · intro v' w' h1 h2
    have h3 := os_append (f := fO) (xs := xs) (ys := ys) h1 (by omega)
    exact ⟨.inr ⟨rfl, grown_below h2 hown (Nat.le_refl _) hB, fun g T cs hT hbx => (h2.block g hbx.lt (own_ne hown hbx hT).symm).trans hbx⟩, h3.slice, h3⟩
end Go.Proofs.Ytglnnplijienbaa
