/- The rule for regions in use: one lemma for each kind of operation. -/
import Derived.Test.YtnbhchfpfbbngaaReg
namespace Go.Proofs.Ytnbhchfpfbbngaa
open Go Go.RowKit Go.Sort
section
variable {P : Program} {ops : Array Oper}
/-- Operations that are no call of a function (but for 'len' and 'cap'). -/
def hushed : Op → Bool
  | .move _ | .assign _ | .pick .. | .build .. | .makeFunc .. | .load .. | .binOp .. | .unOp .. | .convert .. | .slice .. | .fieldAddr .. | .field .. | .indexAddr .. | .index .. | .extract .. | .lookup .. => true
  | .call c => match c.callee with | .builtin .len => true | .builtin .cap => true | .builtin .max => true | .builtin .min => true | _ => false
  | _ => false
def noEnter : Result Next → Prop
  | .ok (.enter _ _) _ => False
  | _ => True
theorem noEnter_v (s : Sem Value) (w : World) : noEnter (Sem.run P (do pure (.value (← s)) : Sem Next) w) := by
  rw [Sem.run_bind]
  generalize Sem.run P s w = r
  cases r <;> simp [Result.andThen, noEnter]
theorem hushed_noEnter (o : Oper) (ρ : Operand → Value) (w : World) (h : hushed o.op = true) : noEnter ((execOp ρ o).run P w) := by
  obtain ⟨dst, op, type, pos, after, guard⟩ := o
  cases op <;> simp only [hushed] at h <;> first | (exact noEnter_v _ _) | (cases h; done) | skip
  case move x => simp [execOp, noEnter]
  case assign x => simp [execOp, noEnter]
  case pick c a b =>
    simp only [execOp]
    rw [Sem.run_bind]
    generalize Sem.run P (asBool (ρ c)) w = r
    cases r <;> simp [Result.andThen, noEnter]
  case call c =>
    obtain ⟨callee, args, argTypes⟩ := c
    cases callee with
    | builtin b =>
      cases b <;> simp only at h <;> first | (cases h; done) | skip
      all_goals
        simp only [execOp, resolve]
        rw [Sem.run_bind]
        simp only [Sem.run_pure, Result.andThen_ok, invoke, builtin]
        exact noEnter_v _ _
    | value f => cases h
    | invoke r n => cases h

theorem sure_of_quiet {o : Oper} {a : Act} {w : World} {C : World → Prop} {v : Value} (h : hushed o.op = true) (hq : o.quietAt P a C w v) : sureAt P o a w v := by
  have hn := hushed_noEnter (P := P) o a.eval w h
  unfold Oper.quietAt at hq
  unfold sureAt
  generalize (execOp a.eval o).run P w = r at *
  cases r with
  | halt x w' => exact hq.elim
  | ok n w' =>
    cases n <;> simp only [Oper.quietUpon] at hq <;> simp only [noEnter] at hn
    · obtain ⟨rfl, rfl⟩ := hq; exact .inl rfl
    · obtain ⟨rfl, rfl⟩ := hq; exact .inr ⟨rfl, rfl⟩

variable {T : List (List Nat)} {S : List Sp} {w0 : World} {V : Nat → Value} {Q : Act → World → Prop} {rest : List Oper} {k : Nat} {G : List (Nat × (World → Prop))} {a : Act} {o : Oper}
/-- An operation that reads, or reckons, by what is known at the region's beginning. -/
theorem rel_quiet (hk : spOf S k = none) (hh : hushed o.op = true) (h : wpQuiet P ops (fun w' => ∃ p : Regrown, w' = grow (redrawn w0 p.d) p.os) (fun a' => wpRel P ops T S w0 V Q rest (k + 1) G a') [o] a) : wpRel P ops T S w0 V Q (o :: rest) k G a := by
  unfold wpQuiet at h
  unfold wpRel
  by_cases hw : Region.wanted o (yielded ops a.tmps) = true
  · rw [if_pos hw] at h ⊢
    rw [hk]
    obtain ⟨v, h1, h2⟩ := h
    exact ⟨v, fun w hb _ => sure_of_quiet hh (h1 w (regrown_of_below hb)), h2⟩
  · rw [if_neg hw] at h ⊢
    exact h
/-- An operation that is passed over. -/
theorem rel_skip (hw : Region.wanted o (yielded ops a.tmps) = false) (h : wpQuiet P ops (fun w' => ∃ p : Regrown, w' = grow (redrawn w0 p.d) p.os) (fun a' => wpRel P ops T S w0 V Q rest (k + 1) G a') [o] a) : wpRel P ops T S w0 V Q (o :: rest) k G a := by
  unfold wpQuiet at h
  unfold wpRel
  rw [if_neg (by rw [hw]; exact Bool.false_ne_true)] at h ⊢
  exact h
theorem of_move {K : Act → Prop} {dst : Option Tmp} {v : Value} {type : TypeId} {pos : String} {after : Array Edge} (h : wpQuiet P ops (fun w' => ∃ p : Regrown, w' = grow (redrawn w0 p.d) p.os) K [⟨dst, .move (.const v), type, pos, after, none⟩] a) : K (a.put dst v) := by
  unfold wpQuiet at h
  rw [if_pos (by rfl)] at h
  obtain ⟨u, h1, h2⟩ := h
  have h3 := h1 w0 ⟨⟨w0.drawn, #[]⟩, by rw [grow_empty]; rfl⟩
  have h4 := sure_of_quiet rfl h3
  rcases h4 with h4 | ⟨h4, _⟩
  · simp [execOp] at h4
    rw [← h4] at h2
    exact h2
  · simp [execOp] at h4
/-- An operation whose value, by what is known of the special ones, is v. -/
theorem rel_fact (v : Value) {dst : Option Tmp} {op : Op} {type : TypeId} {pos : String} {after : Array Edge} {guard : Option (Nat × Bool)} (hw : Region.wanted ⟨dst, op, type, pos, after, guard⟩ (yielded ops a.tmps) = true) (hk : spOf S k = none)
    (h1 : ∀ w, Below w0.heap.size w0 w → (∀ p ∈ G, ancT T k p.1 = true → p.2 w) → (execOp a.eval ⟨dst, op, type, pos, after, guard⟩).run P w = .ok (.value v) w)
    (h : wpQuiet P ops (fun w' => ∃ p : Regrown, w' = grow (redrawn w0 p.d) p.os) (fun a' => wpRel P ops T S w0 V Q rest (k + 1) G a') [⟨dst, .move (.const v), type, pos, after, none⟩] a) : wpRel P ops T S w0 V Q (⟨dst, op, type, pos, after, guard⟩ :: rest) k G a := by
  unfold wpRel
  rw [if_pos hw, hk]
  exact ⟨v, fun w hb hf => .inl (h1 w hb hf), of_move h⟩
/-- An operation that makes memory, or a call. -/
theorem rel_special (s : Sp) {dst : Option Tmp} {op : Op} {type : TypeId} {pos : String} {after : Array Edge} {guard : Option (Nat × Bool)} (hw : Region.wanted ⟨dst, op, type, pos, after, guard⟩ (yielded ops a.tmps) = true) (hk : spOf S k = some s)
    (h1 : ∀ w, Below w0.heap.size w0 w → (∀ p ∈ G, ancT T k p.1 = true → p.2 w) → becomes P ⟨dst, op, type, pos, after, guard⟩ a w fun v w' => s.shape v ∧ s.fact v w')
    (h : wpQuiet P ops (fun w' => ∃ p : Regrown, w' = grow (redrawn w0 p.d) p.os) (fun a' => wpRel P ops T S w0 V Q rest (k + 1) ((k, s.fact (V k)) :: G) a') [⟨dst, .move (.const (V k)), type, pos, after, none⟩] a) : wpRel P ops T S w0 V Q (⟨dst, op, type, pos, after, guard⟩ :: rest) k G a := by
  unfold wpRel
  rw [if_pos hw, hk]
  exact ⟨h1, of_move h⟩
theorem becomes_value {w w' : World} {v : Value} {Φ : Value → World → Prop} (h : (execOp a.eval o).run P w = .ok (.value v) w') (hb : Below w.heap.size w w') (hf : Φ v w') : becomes P o a w Φ := by
  unfold becomes; rw [h]; exact ⟨hb, hf⟩
theorem becomes_call {w : World} {f : FuncId} {args : Array Value} {Φ : Value → World → Prop} (h : (execOp a.eval o).run P w = .ok (.enter f args) w)
    (hc : Calls P f args w fun e w'' => ∃ v, e = .returned v ∧ Below w.heap.size w w'' ∧ Φ v w'') : becomes P o a w Φ := by
  unfold becomes; rw [h]; exact hc
end
theorem wp_region_rel1 {P : Program} {id : Nat} {Q : Exit → Act → World → Prop} {a : Act} {w : World} {l : List Oper} (S : List Sp) (hm : P.follows .mixedOrders = true) (hB : relT l.toArray (ahead l.toArray l.length) = true)
    (h : ∀ V : Nat → Value, (∀ k, shapeOf S k (V k)) → wpRel P l.toArray (ahead l.toArray l.length) S w V (Q .normal) l 0 [] a) : (Code.region id l.toArray true).wp P Q a w := wp_region_rel S _ hm hB h
/-- A call whose value is known and that keeps what was there. -/
def Sp.call (k : Nat) (v : Value) : Sp := ⟨k, fun u => u = v, fun _ _ => True, ⟨v, rfl⟩, fun _ _ _ h _ => h⟩
end Go.Proofs.Ytnbhchfpfbbngaa
