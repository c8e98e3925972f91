/- The rule for regions with stores into new blocks, in use. -/
import Derived.Test.YtglnnplijienbaaM1
import Derived.Test.YtglnnplijienbaaM17
namespace Go.Proofs.Ytglnnplijienbaa
open Go Go.RowKit Go.Sort
set_option linter.unusedVariables false
section
variable {P : Program} {ops : Array Oper} {M : World → World → Prop}
variable {T : List (List Nat)} {S : List (SpM M)} {w0 : World} {V : Nat → Value} {Q : Act → World → Prop} {rest : List Oper} {k : Nat} {G : List (Nat × (World → Prop))} {a : Act} {o : Oper}
theorem rel_quietM (hk : spOfM S k = none) (hh : hushed o.op = true) (h : wpQuiet P ops (fun w' => ∃ p : Regrown, w' = grow (redrawn w0 p.d) p.os) (fun a' => wpRelM P ops T S w0 V Q rest (k + 1) G a') [o] a) : wpRelM P ops T S w0 V Q (o :: rest) k G a := by
  unfold wpQuiet at h
  unfold wpRelM
  by_cases hw : Region.wanted o (yielded ops a.tmps) = true
  · rw [if_pos hw] at h ⊢
    rw [hk]
    obtain ⟨v, h1, h2⟩ := h
    exact ⟨v, fun w hb _ => sure_of_quiet hh (h1 w (regrown_of_below hb)), h2⟩
  · rw [if_neg hw] at h ⊢
    exact h
theorem rel_skipM (hw : Region.wanted o (yielded ops a.tmps) = false) (h : wpQuiet P ops (fun w' => ∃ p : Regrown, w' = grow (redrawn w0 p.d) p.os) (fun a' => wpRelM P ops T S w0 V Q rest (k + 1) G a') [o] a) : wpRelM P ops T S w0 V Q (o :: rest) k G a := by
  unfold wpQuiet at h
  unfold wpRelM
  rw [if_neg (by rw [hw]; exact Bool.false_ne_true)] at h ⊢
  exact h
theorem rel_factM (v : Value) {dst : Option Tmp} {op : Op} {type : TypeId} {pos : String} {after : Array Edge} {guard : Option (Nat × Bool)} (hw : Region.wanted ⟨dst, op, type, pos, after, guard⟩ (yielded ops a.tmps) = true) (hk : spOfM S k = none)
    (h1 : ∀ w, Below w0.heap.size w0 w → (∀ p ∈ G, ancT T k p.1 = true → p.2 w) → (execOp a.eval ⟨dst, op, type, pos, after, guard⟩).run P w = .ok (.value v) w)
    (h : wpQuiet P ops (fun w' => ∃ p : Regrown, w' = grow (redrawn w0 p.d) p.os) (fun a' => wpRelM P ops T S w0 V Q rest (k + 1) G a') [⟨dst, .move (.const v), type, pos, after, none⟩] a) : wpRelM P ops T S w0 V Q (⟨dst, op, type, pos, after, guard⟩ :: rest) k G a := by
  unfold wpRelM
  rw [if_pos hw, hk]
  exact ⟨v, fun w hb hf => .inl (h1 w hb hf), of_move h⟩
/-- A nil check of an address. -/
theorem rel_nilM {x : Operand} (A : Addr) {dst : Option Tmp} {type : TypeId} {pos : String} {after : Array Edge} {guard : Option (Nat × Bool)} (hw : Region.wanted ⟨dst, .nilCheck x, type, pos, after, guard⟩ (yielded ops a.tmps) = true) (hk : spOfM S k = none) (hx : a.eval x = .pointer (some A))
    (h : wpQuiet P ops (fun w' => ∃ p : Regrown, w' = grow (redrawn w0 p.d) p.os) (fun a' => wpRelM P ops T S w0 V Q rest (k + 1) G a') [⟨dst, .move (.const (.pointer (some A))), type, pos, after, none⟩] a) : wpRelM P ops T S w0 V Q (⟨dst, .nilCheck x, type, pos, after, guard⟩ :: rest) k G a :=
  rel_factM (.pointer (some A)) hw hk (fun w hb hf => by simp [execOp, hx]) h
theorem rel_specialM (s : SpM M) {dst : Option Tmp} {op : Op} {type : TypeId} {pos : String} {after : Array Edge} {guard : Option (Nat × Bool)} (hw : Region.wanted ⟨dst, op, type, pos, after, guard⟩ (yielded ops a.tmps) = true) (hk : spOfM S k = some s)
    (h1 : ∀ w, Below w0.heap.size w0 w → (∀ p ∈ G, ancT T k p.1 = true → p.2 w) → becomesM M P ⟨dst, op, type, pos, after, guard⟩ a w fun v w' => s.shape v ∧ s.fact (depOf V s) v w')
    (h : wpQuiet P ops (fun w' => ∃ p : Regrown, w' = grow (redrawn w0 p.d) p.os) (fun a' => wpRelM P ops T S w0 V Q rest (k + 1) ((k, s.fact (depOf V s) (V k)) :: G) a') [⟨dst, .move (.const (V k)), type, pos, after, none⟩] a) : wpRelM P ops T S w0 V Q (⟨dst, op, type, pos, after, guard⟩ :: rest) k G a := by
  unfold wpRelM
  rw [if_pos hw, hk]
  exact ⟨h1, of_move h⟩
theorem becomesM_value {w w' : World} {v : Value} {Φ : Value → World → Prop} (h : (execOp a.eval o).run P w = .ok (.value v) w') (hb : M w w') (hf : Φ v w') : becomesM M P o a w Φ := by
  unfold becomesM; rw [h]; exact ⟨hb, hf⟩
theorem becomesM_call {w : World} {f : FuncId} {args : Array Value} {Φ : Value → World → Prop} (h : (execOp a.eval o).run P w = .ok (.enter f args) w)
    (hc : Calls P f args w fun e w'' => ∃ v, e = .returned v ∧ M w w'' ∧ Φ v w'') : becomesM M P o a w Φ := by
  unfold becomesM; rw [h]; exact hc
theorem becomesM_store {t : TypeId} {n : Nat} {x y : Operand} {dst : Option Tmp} {type : TypeId} {pos : String} {after : Array Edge} {guard : Option (Nat × Bool)} {w : World} {Φ : Value → World → Prop} (hi : (P.info? t).map (·.size) = some n) (g : Nat) {z : Array Value} (cs : Array Value) (hx : a.eval x = .pointer (some ⟨g, 0, none⟩)) (hy : a.eval y = .agg cs) (hz : Bx w g t z) (hs : z.size = n) (hn : cs.size = n) (h1 : cs.all (·.oneCell') = true)
    (hM : M w (w.setRow g cs)) (hf : Φ undef (w.setRow g cs)) : becomesM M P ⟨dst, .store t x y, type, pos, after, guard⟩ a w Φ := by
  unfold becomesM execOp
  simp only [hx, hy, Instr.storeAt, Instr.sureAddr, Sem.run_bind, Sem.run_pure, Result.andThen_ok, run_storeVar_row w g t t z cs hz (by rw [hi, hn]) (by rw [hs, hn]) h1]
  exact ⟨hM, hf⟩
theorem wp_region_rel1M {id : Nat} {Q : Exit → Act → World → Prop} {a : Act} {w : World} {l : List Oper} (M : World → World → Prop) (S : List (SpM M)) (hm : P.follows .mixedOrders = true) (hM : StepKind M w) (hB : relT l.toArray (ahead l.toArray l.length) = true) (hd : depsOk l.toArray S (ahead l.toArray l.length) = true)
    (h : ∀ V : Nat → Value, (∀ k, shapeOfM S k (V k)) → wpRelM P l.toArray (ahead l.toArray l.length) S w V (Q .normal) l 0 [] a) : (Code.region id l.toArray true).wp P Q a w := wp_region_relM S _ hm hM hd hB h
end
/-- Steps that make memory, or lay what L says into a new block of that type. -/
def Fresh (B : Nat) (L : List (TypeId × Array Value)) (w w' : World) : Prop :=
  Below w.heap.size w w' ∨ ∃ b T cs z, (T, cs) ∈ L ∧ B ≤ b ∧ Bx w b T z ∧ z.size = cs.size ∧ w' = w.setRow b cs
theorem fresh_kind {w0 : World} {B : Nat} {L : List (TypeId × Array Value)} (hB : w0.heap.size ≤ B) : StepKind (Fresh B L) w0 :=
  ⟨fun w => .inl (Below.refl _ _), fun w w' h hs => by
    rcases hs with hs | ⟨b, T, cs, z, _, hb, _, _, rfl⟩
    · exact h.trans (hs.mono h.size)
    · exact below_setRow h (by omega) _⟩
theorem bx_type {w : World} {b : Nat} {T T' : TypeId} {z z' : Array Value} (h : Bx w b T z) (h' : Bx w b T' z') : T = T' ∧ z = z' := by
  unfold Bx at h h'
  rw [h] at h'
  injection h' with h'
  injection h' with e1 e2
  exact ⟨e2, e1⟩
/-- A call whose value is known. -/
def SpM.call {B : Nat} {L : List (TypeId × Array Value)} (k : Nat) (v : Value) : SpM (Fresh B L) := ⟨k, none, fun u => u = v, fun _ _ _ => True, ⟨v, rfl⟩, fun _ _ _ _ h _ => h⟩
theorem becomes_knownM {P : Program} {B : Nat} {L : List (TypeId × Array Value)} {o : Oper} {a : Act} {w : World} {f : FuncId} {args : Array Value} {v : Value} {u : Value} {k : Nat} (h : (execOp a.eval o).run P w = .ok (.enter f args) w) (hc : Calls P f args w fun e w' => e = .returned v ∧ Below w.heap.size w w') : becomesM (Fresh B L) P o a w fun x w' => (SpM.call (B := B) (L := L) k v).shape x ∧ (SpM.call (B := B) (L := L) k v).fact u x w' :=
  becomesM_call h (hc.mono fun e w' h => ⟨v, h.1, .inl h.2, rfl, trivial⟩)
/-- A variable that is made. -/
def SpM.box {B : Nat} {L : List (TypeId × Array Value)} (k : Nat) (T : TypeId) (n : Nat) (hL : ∀ cs, (T, cs) ∈ L → cs.size = n) : SpM (Fresh B L) :=
  ⟨k, none, fun u => ∃ b, u = .pointer (some ⟨b, 0, none⟩), fun _ v w => ∃ b z, v = .pointer (some ⟨b, 0, none⟩) ∧ B ≤ b ∧ Bx w b T z ∧ z.size = n, ⟨.pointer (some ⟨0, 0, none⟩), 0, rfl⟩, fun u v w w' h hs => by
    obtain ⟨b, z, e, hB, hx, hz⟩ := h
    rcases hs with hs | ⟨b', T', cs, z', hl, _, hx', hz', rfl⟩
    · exact ⟨b, z, e, hB, hx.below hs, hz⟩
    · by_cases eb : b = b'
      · subst eb
        obtain ⟨rfl, rfl⟩ := bx_type hx hx'
        exact ⟨b, cs, e, hB, hx.row cs, hL cs hl⟩
      · exact ⟨b, z, e, hB, hx.orow eb cs, hz⟩⟩
/-- What is stored into it (d: where it was made). -/
def SpM.st {B : Nat} {L : List (TypeId × Array Value)} (k d : Nat) (T : TypeId) (cs : Array Value) (hL : ∀ cs', (T, cs') ∈ L → cs' = cs) : SpM (Fresh B L) :=
  ⟨k, some d, fun u => u = undef, fun u _ w => ∃ b, u = .pointer (some ⟨b, 0, none⟩) ∧ Bx w b T cs, ⟨undef, rfl⟩, fun u v w w' h hs => by
    obtain ⟨b, e, hx⟩ := h
    rcases hs with hs | ⟨b', T', cs', z', hl, _, hx', hz', rfl⟩
    · exact ⟨b, e, hx.below hs⟩
    · by_cases eb : b = b'
      · subst eb
        obtain ⟨rfl, rfl⟩ := bx_type hx hx'
        rw [hL cs' hl]
        exact ⟨b, e, hx.row cs⟩
      · exact ⟨b, e, hx.orow eb cs'⟩⟩
/-- What is known of a value, and of memory, that no such store turns. -/
def SpM.mem {B : Nat} {L : List (TypeId × Array Value)} (k : Nat) (sh : Value → Prop) (F : Value → World → Prop) (hi : ∃ v, sh v) (h1 : ∀ v w w', F v w → Below w.heap.size w w' → F v w') (h2 : ∀ v w b T z cs, F v w → T ∈ L.map (·.1) → B ≤ b → Bx w b T z → z.size = cs.size → F v (w.setRow b cs)) : SpM (Fresh B L) :=
  ⟨k, none, sh, fun _ v w => F v w, hi, fun u v w w' h hs => by
    rcases hs with hs | ⟨b, T, cs, z, hl, hb, hx, hz, rfl⟩
    · exact h1 v w w' h hs
    · exact h2 v w b T z cs h (List.mem_map.2 ⟨_, hl, rfl⟩) hb hx hz⟩
end Go.Proofs.Ytglnnplijienbaa
