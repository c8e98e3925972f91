/- Several texts in one: Rew, Rec. -/
import Derived.Test.YtglnnplijienbaaCRen
import Derived.Test.YtglnnplijienbaaCRegT
/- The rules for regions, behind a wrapper: a tactic that looks at the goal does not open it. -/
namespace Go.Proofs.Ytglnnplijienbaa
open Go Go.RowKit Go.Sort
set_option linter.unusedVariables false
/-- A wrapper that nothing opens. -/
structure Wr (p : Prop) : Prop where
  out : p
section
variable {P : Program} {ops : Array Oper}
variable {T : List (List Nat)} {S : List Sp} {w0 : World} {V : Nat → Value} {Q : Act → World → Prop} {rest : List Oper} {k : Nat} {G : List (Nat × (World → Prop))} {a : Act} {o : Oper}
theorem quiet_out {C : World → Prop} {K : Act → Prop} : ∀ {l : List Oper} {a : Act}, wpQuiet P ops C (fun a => Wr (K a)) l a → wpQuiet P ops C K l a
  | [], _, h => h.out
  | o :: l, a, h => by
    unfold wpQuiet at h ⊢
    split at h
    · rename_i hw
      rw [if_pos hw]
      obtain ⟨v, h1, h2⟩ := h
      exact ⟨v, h1, quiet_out h2⟩
    · rename_i hw
      rw [if_neg hw]
      exact quiet_out h
abbrev Cl (w0 : World) : World → Prop := fun w' => ∃ p : Regrown, w' = grow (redrawn w0 p.d) p.os
theorem rq (hk : spOf S k = none) (hh : hushed o.op = true) (h : wpQuiet P ops (fun w' => ∃ p : Regrown, w' = grow (redrawn w0 p.d) p.os) (fun a' => Wr (wpRel P ops T S w0 V Q rest (k + 1) G a')) [o] a) : Wr (wpRel P ops T S w0 V Q (o :: rest) k G a) := Wr.mk (rel_quiet hk hh (quiet_out h))
theorem rk (hw : Region.wanted o (yielded ops a.tmps) = false) (h : wpQuiet P ops (fun w' => ∃ p : Regrown, w' = grow (redrawn w0 p.d) p.os) (fun a' => Wr (wpRel P ops T S w0 V Q rest (k + 1) G a')) [o] a) : Wr (wpRel P ops T S w0 V Q (o :: rest) k G a) := Wr.mk (rel_skip hw (quiet_out h))
theorem rf (v : Value) {dst : Option Tmp} {op : Op} {type : TypeId} {pos : String} {after : Array Edge} {guard : Option (Nat × Bool)} (hw : Region.wanted ⟨dst, op, type, pos, after, guard⟩ (yielded ops a.tmps) = true) (hk : spOf S k = none)
    (h1 : ∀ w, Below w0.heap.size w0 w → (∀ p ∈ G, ancT T k p.1 = true → p.2 w) → (execOp a.eval ⟨dst, op, type, pos, after, guard⟩).run P w = .ok (.value v) w)
    (h : wpQuiet P ops (fun w' => ∃ p : Regrown, w' = grow (redrawn w0 p.d) p.os) (fun a' => Wr (wpRel P ops T S w0 V Q rest (k + 1) G a')) [⟨dst, .move (.const v), type, pos, after, none⟩] a) : Wr (wpRel P ops T S w0 V Q (⟨dst, op, type, pos, after, guard⟩ :: rest) k G a) := Wr.mk (rel_fact v hw hk h1 (quiet_out h))
theorem rn {x : Operand} (A : Addr) {dst : Option Tmp} {type : TypeId} {pos : String} {after : Array Edge} {guard : Option (Nat × Bool)} (hw : Region.wanted ⟨dst, .nilCheck x, type, pos, after, guard⟩ (yielded ops a.tmps) = true) (hk : spOf S k = none) (hx : a.eval x = .pointer (some A))
    (h : wpQuiet P ops (fun w' => ∃ p : Regrown, w' = grow (redrawn w0 p.d) p.os) (fun a' => Wr (wpRel P ops T S w0 V Q rest (k + 1) G a')) [⟨dst, .move (.const (.pointer (some A))), type, pos, after, none⟩] a) : Wr (wpRel P ops T S w0 V Q (⟨dst, .nilCheck x, type, pos, after, guard⟩ :: rest) k G a) :=
  rf (.pointer (some A)) hw hk (fun w hb hf => by simp [execOp, hx]) h
theorem rsp (s : Sp) {dst : Option Tmp} {op : Op} {type : TypeId} {pos : String} {after : Array Edge} {guard : Option (Nat × Bool)} (hw : Region.wanted ⟨dst, op, type, pos, after, guard⟩ (yielded ops a.tmps) = true) (hk : spOf S k = some s)
    (h1 : ∀ w, Below w0.heap.size w0 w → (∀ p ∈ G, ancT T k p.1 = true → p.2 w) → becomes P ⟨dst, op, type, pos, after, guard⟩ a w fun v w' => s.shape v ∧ s.fact v w')
    (h : wpQuiet P ops (fun w' => ∃ p : Regrown, w' = grow (redrawn w0 p.d) p.os) (fun a' => Wr (wpRel P ops T S w0 V Q rest (k + 1) ((k, s.fact (V k)) :: G) a')) [⟨dst, .move (.const (V k)), type, pos, after, none⟩] a) : Wr (wpRel P ops T S w0 V Q (⟨dst, op, type, pos, after, guard⟩ :: rest) k G a) := Wr.mk (rel_special s hw hk h1 (quiet_out h))
theorem rend (h : ∀ w, Below w0.heap.size w0 w → (∀ p ∈ G, p.2 w) → Q a w) : Wr (wpRel P ops T S w0 V Q [] k G a) := Wr.mk h
theorem wp_rel {id : Nat} {Q : Exit → Act → World → Prop} {a : Act} {w : World} {l : List Oper} (S : List Sp) (hm : P.follows .mixedOrders = true) (hB : relT l.toArray (ahead l.toArray l.length) = true)
    (h : ∀ V : Nat → Value, (∀ k, shapeOf S k (V k)) → Wr (wpRel P l.toArray (ahead l.toArray l.length) S w V (Q .normal) l 0 [] a)) : (Code.region id l.toArray true).wp P Q a w := wp_region_rel1 S hm hB fun V hV => (h V hV).out
theorem wp_relt {id : Nat} {Q : Exit → Act → World → Prop} {a : Act} {w : World} {l : List Oper} (n : Nat) (S : List Sp) (hm : P.follows .mixedOrders = true) (hB : relT (l.take n).toArray (ahead (l.take n).toArray (l.take n).length) = true) (hT : tailOk l n = true)
    (h : ∀ V : Nat → Value, (∀ k, shapeOf S k (V k)) → Wr (wpRel P (l.take n).toArray (ahead (l.take n).toArray (l.take n).length) S w V (fun a w => wpList P l.toArray Q (l.drop n) a w) (l.take n) 0 [] a)) : (Code.region id l.toArray true).wp P Q a w := wp_region_rel_tail n S hm hB hT fun V hV => (h V hV).out
end
section
variable {P : Program} {ops : Array Oper} {M : World → World → Prop}
variable {T : List (List Nat)} {S : List (SpM M)} {w0 : World} {V : Nat → Value} {Q : Act → World → Prop} {rest : List Oper} {k : Nat} {G : List (Nat × (World → Prop))} {a : Act} {o : Oper}
theorem mq (hk : spOfM S k = none) (hh : hushed o.op = true) (h : wpQuiet P ops (fun w' => ∃ p : Regrown, w' = grow (redrawn w0 p.d) p.os) (fun a' => Wr (wpRelM P ops T S w0 V Q rest (k + 1) G a')) [o] a) : Wr (wpRelM P ops T S w0 V Q (o :: rest) k G a) := Wr.mk (rel_quietM hk hh (quiet_out h))
theorem mk (hw : Region.wanted o (yielded ops a.tmps) = false) (h : wpQuiet P ops (fun w' => ∃ p : Regrown, w' = grow (redrawn w0 p.d) p.os) (fun a' => Wr (wpRelM P ops T S w0 V Q rest (k + 1) G a')) [o] a) : Wr (wpRelM P ops T S w0 V Q (o :: rest) k G a) := Wr.mk (rel_skipM hw (quiet_out h))
theorem mf (v : Value) {dst : Option Tmp} {op : Op} {type : TypeId} {pos : String} {after : Array Edge} {guard : Option (Nat × Bool)} (hw : Region.wanted ⟨dst, op, type, pos, after, guard⟩ (yielded ops a.tmps) = true) (hk : spOfM S k = none)
    (h1 : ∀ w, Below w0.heap.size w0 w → (∀ p ∈ G, ancT T k p.1 = true → p.2 w) → (execOp a.eval ⟨dst, op, type, pos, after, guard⟩).run P w = .ok (.value v) w)
    (h : wpQuiet P ops (fun w' => ∃ p : Regrown, w' = grow (redrawn w0 p.d) p.os) (fun a' => Wr (wpRelM P ops T S w0 V Q rest (k + 1) G a')) [⟨dst, .move (.const v), type, pos, after, none⟩] a) : Wr (wpRelM P ops T S w0 V Q (⟨dst, op, type, pos, after, guard⟩ :: rest) k G a) := Wr.mk (rel_factM v hw hk h1 (quiet_out h))
theorem mn {x : Operand} (A : Addr) {dst : Option Tmp} {type : TypeId} {pos : String} {after : Array Edge} {guard : Option (Nat × Bool)} (hw : Region.wanted ⟨dst, .nilCheck x, type, pos, after, guard⟩ (yielded ops a.tmps) = true) (hk : spOfM S k = none) (hx : a.eval x = .pointer (some A))
    (h : wpQuiet P ops (fun w' => ∃ p : Regrown, w' = grow (redrawn w0 p.d) p.os) (fun a' => Wr (wpRelM P ops T S w0 V Q rest (k + 1) G a')) [⟨dst, .move (.const (.pointer (some A))), type, pos, after, none⟩] a) : Wr (wpRelM P ops T S w0 V Q (⟨dst, .nilCheck x, type, pos, after, guard⟩ :: rest) k G a) :=
  mf (.pointer (some A)) hw hk (fun w hb hf => by simp [execOp, hx]) h
theorem msp (s : SpM M) {dst : Option Tmp} {op : Op} {type : TypeId} {pos : String} {after : Array Edge} {guard : Option (Nat × Bool)} (hw : Region.wanted ⟨dst, op, type, pos, after, guard⟩ (yielded ops a.tmps) = true) (hk : spOfM S k = some s)
    (h1 : ∀ w, Below w0.heap.size w0 w → (∀ p ∈ G, ancT T k p.1 = true → p.2 w) → becomesM M P ⟨dst, op, type, pos, after, guard⟩ a w fun v w' => s.shape v ∧ s.fact (depOf V s) v w')
    (h : wpQuiet P ops (fun w' => ∃ p : Regrown, w' = grow (redrawn w0 p.d) p.os) (fun a' => Wr (wpRelM P ops T S w0 V Q rest (k + 1) ((k, s.fact (depOf V s) (V k)) :: G) a')) [⟨dst, .move (.const (V k)), type, pos, after, none⟩] a) : Wr (wpRelM P ops T S w0 V Q (⟨dst, op, type, pos, after, guard⟩ :: rest) k G a) := Wr.mk (rel_specialM s hw hk h1 (quiet_out h))
theorem mend (h : ∀ w, Below w0.heap.size w0 w → (∀ p ∈ G, p.2 w) → Q a w) : Wr (wpRelM P ops T S w0 V Q [] k G a) := Wr.mk h
theorem wp_relM {id : Nat} {Q : Exit → Act → World → Prop} {a : Act} {w : World} {l : List Oper} (M : World → World → Prop) (S : List (SpM M)) (hm : P.follows .mixedOrders = true) (hM : StepKind M w) (hB : relT l.toArray (ahead l.toArray l.length) = true) (hd : depsOk l.toArray S (ahead l.toArray l.length) = true)
    (h : ∀ V : Nat → Value, (∀ k, shapeOfM S k (V k)) → Wr (wpRelM P l.toArray (ahead l.toArray l.length) S w V (Q .normal) l 0 [] a)) : (Code.region id l.toArray true).wp P Q a w := wp_region_rel1M M S hm hM hB hd fun V hV => (h V hV).out
end
end Go.Proofs.Ytglnnplijienbaa

/- The rule for regions that draw, for whatever class C of worlds that the steps of kind M keep. -/
namespace Go.Proofs.Ytglnnplijienbaa
open Go Go.RowKit Go.Sort
section
variable {P : Program} {ops : Array Oper} {M : World → World → Prop}
/-- What is asked of a kind of steps. -/
structure StepKindC (M : World → World → Prop) (C : World → Prop) : Prop where
  refl : ∀ w, M w w
  grown : ∀ w w', C w → M w w' → C w'

def wpRelC (P : Program) (ops : Array Oper) (T : List (List Nat)) (S : List (SpM M)) (C : World → Prop) (V : Nat → Value) (Q : Act → World → Prop) : List Oper → Nat → List (Nat × (World → Prop)) → Act → Prop
  | [], _, G, a => ∀ w, C w → (∀ p ∈ G, p.2 w) → Q a w
  | o :: rest, k, G, a =>
    if Region.wanted o (yielded ops a.tmps) then
      match spOfM S k with
      | some s => (∀ w, C w → (∀ p ∈ G, ancT T k p.1 = true → p.2 w) → becomesM M P o a w fun v w' => s.shape v ∧ s.fact (depOf V s) v w') ∧
          wpRelC P ops T S C V Q rest (k + 1) ((k, s.fact (depOf V s) (V k)) :: G) (a.put o.dst (V k))
      | none => ∃ v, (∀ w, C w → (∀ p ∈ G, ancT T k p.1 = true → p.2 w) → sureAt P o a w v) ∧ wpRelC P ops T S C V Q rest (k + 1) G (a.put o.dst v)
    else wpRelC P ops T S C V Q rest (k + 1) G (a.put o.dst undef)

def stepOkC (P : Program) (ops : Array Oper) (T : List (List Nat)) (S : List (SpM M)) (C : World → Prop) (V : Nat → Value) (a0 : Act) (vals : Nat → Value) (k : Nat) (o : Oper) : Prop :=
    (wantAt ops a0 vals k o = false → vals k = undef) ∧
    (wantAt ops a0 vals k o = true → match spOfM S k with
      | some s => vals k = V k ∧ ∀ w, C w → (∀ j, ancT T k j = true → j < k → factAtM ops S a0 vals j w) → becomesM M P o (lexF ops a0 vals k) w fun v w' => s.shape v ∧ s.fact (depOf vals s) v w'
      | none => ∀ w, C w → (∀ j, ancT T k j = true → j < k → factAtM ops S a0 vals j w) → sureAt P o (lexF ops a0 vals k) w (vals k))
structure LexC (P : Program) (ops : Array Oper) (T : List (List Nat)) (S : List (SpM M)) (C : World → Prop) (V : Nat → Value) (Q : Act → World → Prop) (a0 : Act) (vals : Nat → Value) : Prop where
  step : ∀ k o, ops[k]? = some o → stepOkC P ops T S C V a0 vals k o
  last : ∀ w, C w → (∀ j, j < ops.size → factAtM ops S a0 vals j w) → Q (lexF ops a0 vals ops.size) w

theorem stepOk_congrC {T : List (List Nat)} {S : List (SpM M)} (hD : DepOk ops S T) {C : World → Prop} {V : Nat → Value} {a0 : Act} {vals vals' : Nat → Value} {k : Nat} {o : Oper} (h : ∀ i, i ≤ k → vals i = vals' i)
    (hs : stepOkC P ops T S C V a0 vals k o) : stepOkC P ops T S C V a0 vals' k o := by
  have hl : lexF ops a0 vals k = lexF ops a0 vals' k := lexF_congr k (fun i hi => h i (by omega))
  have hw : wantAt ops a0 vals k o = wantAt ops a0 vals' k o := by unfold wantAt; rw [hl]
  unfold stepOkC at *
  rw [← hl, ← hw, ← h k (Nat.le_refl _)]
  refine ⟨hs.1, fun hw => ?_⟩
  have h2 := hs.2 hw
  cases hsp : spOfM S k with
  | some s =>
    rw [hsp] at h2
    simp only at h2 ⊢
    rw [depOf_congr hD hsp (fun i hi => h i (by omega))] at h2
    exact ⟨h2.1, fun w hb hf => h2.2 w hb (fun j hj hjk => factAt_congrM hD (fun i hi => (h i (by omega)).symm) (hf j hj hjk))⟩
  | none =>
    rw [hsp] at h2
    exact fun w hb hf => h2 w hb (fun j hj hjk => factAt_congrM hD (fun i hi => (h i (by omega)).symm) (hf j hj hjk))

theorem lex_of_relC {T : List (List Nat)} {S : List (SpM M)} (hD : DepOk ops S T) {C : World → Prop} {V : Nat → Value} {Q : Act → World → Prop} {a0 : Act} :
    ∀ (l : List Oper) (k : Nat) (G : List (Nat × (World → Prop))) (vals : Nat → Value), (∀ j, l[j]? = ops[k + j]?) → k + l.length = ops.size → KnowsM ops S a0 vals k G →
    (∀ j o, j < k → ops[j]? = some o → stepOkC P ops T S C V a0 vals j o) → wpRelC P ops T S C V Q l k G (lexF ops a0 vals k) → ∃ vals', LexC P ops T S C V Q a0 vals'
  | [], k, G, vals, hl, hk, hG, hs, h => by
    have hkn : k = ops.size := by simpa using hk
    refine ⟨vals, fun j o ho => hs j o ?_ ho, fun w hb hf => ?_⟩
    · have := (Array.getElem?_eq_some_iff.1 ho).1; omega
    · rw [← hkn]
      exact h w hb fun p hp => (hG p hp).2 w (hf _ (by have := (hG p hp).1; omega))
  | o :: rest, k, G, vals, hl, hk, hG, hs, h => by
    have h0 : ops[k]? = some o := by simpa using (hl 0).symm
    have hd : o.dst = dstOf ops k := by simp [dstOf, h0]
    have hrest : ∀ j, rest[j]? = ops[k + 1 + j]? := fun j => by have := hl (j + 1); simpa [Nat.add_assoc, Nat.add_comm 1 j] using this
    have hlen : k + 1 + rest.length = ops.size := by simp at hk; omega
    have hwant : ∀ v, wantAt ops a0 (fun j => if j = k then v else vals j) k o = Region.wanted o (yielded ops (lexF ops a0 vals k).tmps) := fun v => by
      unfold wantAt; rw [lexF_congr k (vals' := vals) (fun j hj => by simp; omega)]
    have hframe : ∀ v, lexF ops a0 (fun j => if j = k then v else vals j) k = lexF ops a0 vals k := fun v => lexF_congr k (fun j hj => by simp; omega)
    have hold : ∀ v j o', j < k → ops[j]? = some o' → stepOkC P ops T S C V a0 (fun j => if j = k then v else vals j) j o' := fun v j o' hj ho' =>
      stepOk_congrC hD (fun i hi => by simp; omega) (hs j o' hj ho')
    have hfact : ∀ v j w, j < k → factAtM ops S a0 (fun j => if j = k then v else vals j) j w → factAtM ops S a0 vals j w := fun v j w hj hf =>
      factAt_congrM hD (fun i hi => by simp; omega) hf
    have hnext : ∀ v, lexF ops a0 (fun j => if j = k then v else vals j) (k + 1) = (lexF ops a0 vals k).put o.dst v := fun v => by
      simp only [lexF]; rw [hframe, hd]; simp
    have hGk : ∀ v, KnowsM ops S a0 (fun j => if j = k then v else vals j) (k + 1) G := fun v p hp => by
      obtain ⟨h1, h2⟩ := hG p hp
      exact ⟨by omega, fun w hf => h2 w (hfact v _ _ h1 hf)⟩
    have go : ∀ v G', KnowsM ops S a0 (fun j => if j = k then v else vals j) (k + 1) G' → stepOkC P ops T S C V a0 (fun j => if j = k then v else vals j) k o →
        wpRelC P ops T S C V Q rest (k + 1) G' ((lexF ops a0 vals k).put o.dst v) → ∃ vals', LexC P ops T S C V Q a0 vals' := fun v G' hG' hk' hr => by
      refine lex_of_relC hD rest (k + 1) G' _ hrest hlen hG' (fun j o' hj ho' => ?_) (by rw [hnext]; exact hr)
      rcases Nat.lt_succ_iff_lt_or_eq.1 hj with hj | rfl
      · exact hold v j o' hj ho'
      · rw [h0] at ho'; cases ho'; exact hk'
    unfold wpRelC at h
    by_cases hw : Region.wanted o (yielded ops (lexF ops a0 vals k).tmps) = true
    · rw [if_pos hw] at h
      cases hsp : spOfM S k with
      | some s =>
        rw [hsp] at h
        obtain ⟨h1, h2⟩ := h
        have hdep : depOf (fun j => if j = k then V k else vals j) s = depOf V s := by
          unfold depOf
          cases hdd : s.dep with
          | none => rfl
          | some d =>
            obtain ⟨⟨hlt, _⟩, od, s', hod, hg, hs'⟩ := hD k s d hsp hdd
            have h5 := (hs d od hlt hod).2 (by unfold wantAt Region.wanted; rw [hg])
            rw [hs'] at h5
            show (if d = k then V k else vals d) = V d
            rw [if_neg (by omega)]; exact h5.1
        refine go (V k) _ (fun p hp => ?_) ?_ h2
        · rcases List.mem_cons.1 hp with rfl | hp
          · refine ⟨Nat.lt_succ_self _, fun w hf => ?_⟩
            have := hf s o hsp h0 (by rw [hwant]; exact hw)
            rw [hdep] at this
            simpa using this
          · exact hGk _ p hp
        · refine ⟨fun hw' => (by rw [hwant, hw] at hw'; cases hw'), fun _ => ?_⟩
          rw [hsp]
          refine ⟨by simp, fun w hb hf => ?_⟩
          rw [hframe]
          simp only [hdep]
          exact h1 w hb fun p hp hanc => (hG p hp).2 w (hfact _ _ _ (hG p hp).1 (hf _ hanc (hG p hp).1))
      | none =>
        rw [hsp] at h
        obtain ⟨v, h1, h2⟩ := h
        refine go v G (hGk v) ?_ h2
        refine ⟨fun hw' => (by rw [hwant, hw] at hw'; cases hw'), fun _ => ?_⟩
        rw [hsp]
        intro w hb hf
        rw [hframe]
        simp only [if_true]
        exact h1 w hb fun p hp hanc => (hG p hp).2 w (hfact _ _ _ (hG p hp).1 (hf _ hanc (hG p hp).1))
    · rw [if_neg hw] at h
      refine go undef G (hGk _) ⟨fun _ => by simp, fun hw' => ?_⟩ h
      rw [hwant] at hw'; exact absurd hw' hw

structure InvC (P : Program) (ops : Array Oper) (T : List (List Nat)) (S : List (SpM M)) (C : World → Prop) (Q : Act → World → Prop) (a0 : Act) (L : Nat → Prop) (act : Nat → Value) (a : Act) (w : World) : Prop where
  grown : C w
  closed : ∀ j, L j → ∀ i, ancT T j i = true → L i
  defers : a.defers = a0.defers
  tsize : a.tmps.size = a0.tmps.size
  off : ∀ t, (∀ j, L j → dstOf ops j ≠ some t) → a.tmps[t]? = a0.tmps[t]?
  on : ∀ j, L j → ∀ d, dstOf ops j = some d → d < a0.tmps.size → a.tmps[d]? = some (act j)
  cert : ∀ j, L j → ∀ V vals, LexC P ops T S C V Q a0 vals → (∀ i, ancT T j i = true → vals i = act i) → (shapeOfM S j (act j) → V j = act j) → vals j = act j
  fcert : ∀ j, L j → ∀ V vals, LexC P ops T S C V Q a0 vals → (∀ i, ancT T j i = true → vals i = act i) → vals j = act j → factAtM ops S a0 vals j w

section
variable {T : List (List Nat)} {S : List (SpM M)} {C : World → Prop} {Q : Act → World → Prop} {a0 : Act}
theorem InvC.look {L : Nat → Prop} {act : Nat → Value} {a : Act} {w : World} (ok : RelOk ops T) (I : InvC P ops T S C Q a0 L act a w) {k : Nat} {o : Oper} (ho : ops[k]? = some o)
    (hL : ∀ j, ancT T k j = true → L j) {vals : Nat → Value} (hv : ∀ j, ancT T k j = true → vals j = act j) : ∀ t ∈ o.looksAt ops, a.tmps[t]? = (lexF ops a0 vals k).tmps[t]? := by
  intro t ht
  by_cases hj : ∃ j, dstOf ops j = some t
  · obtain ⟨j, hj⟩ := hj
    have hanc := ok.look k o ho j t hj ht
    have hjk := (ok.anc k o ho j hanc).1
    by_cases hs : t < a0.tmps.size
    · rw [I.on j (hL j hanc) t hj hs, lexF_on a0 vals t hs j hj k hjk ?_, hv j hanc]
      intro i h1 h2 hi
      have hio : i < ops.size := by have := (Array.getElem?_eq_some_iff.1 ho).1; omega
      exact ok.dst i ops[i] (Array.getElem?_eq_getElem hio) j t h1 hj (by simpa [dstOf, Array.getElem?_eq_getElem hio] using hi)
    · have hs' : a0.tmps.size ≤ t := Nat.le_of_not_lt hs
      rw [Array.getElem?_eq_none (by rw [I.tsize]; exact hs'), Array.getElem?_eq_none (by rw [lexF_size]; exact hs')]
  · rw [I.off t (fun j _ h => hj ⟨j, h⟩), lexF_off a0 vals t k (fun j _ h => hj ⟨j, h⟩)]
theorem InvC.vals {L : Nat → Prop} {act : Nat → Value} {a : Act} {w : World} (ok : RelOk ops T) (I : InvC P ops T S C Q a0 L act a w) (hLn : ∀ j, L j → j < ops.size) {V vals : Nat → Value} (hx : LexC P ops T S C V Q a0 vals)
    (hV : ∀ j, L j → shapeOfM S j (act j) → V j = act j) : ∀ n j, j < n → L j → vals j = act j
  | 0, _, h, _ => by omega
  | n + 1, j, h, hj => by
    have hjo := Array.getElem?_eq_getElem (hLn j hj)
    exact I.cert j hj V vals hx (fun i hi => InvC.vals ok I hLn hx hV n i (by have := (ok.anc j _ hjo i hi).1; omega) (I.closed j hj i hi)) (hV j hj)

theorem InvC.facts {L : Nat → Prop} {act : Nat → Value} {a : Act} {w : World} (ok : RelOk ops T) (I : InvC P ops T S C Q a0 L act a w) {k : Nat} {o : Oper} (ho : ops[k]? = some o) (hL : ∀ j, ancT T k j = true → L j) {V vals : Nat → Value}
    (hx : LexC P ops T S C V Q a0 vals) (hv : ∀ j, ancT T k j = true → vals j = act j) : ∀ j, ancT T k j = true → j < k → factAtM ops S a0 vals j w :=
  fun j hj _ => I.fcert j (hL j hj) V vals hx (fun i hi => hv i ((ok.anc k o ho j hj).2.2 i hi)) (hv j hj)

theorem InvC.more {L : Nat → Prop} {act : Nat → Value} {a : Act} {w w' : World} (ok : RelOk ops T) (I : InvC P ops T S C Q a0 L act a w) {k : Nat} {o : Oper} (ho : ops[k]? = some o) (hL : ∀ j, ancT T k j = true → L j) (hk : ¬ L k) (hLn : ∀ j, L j → j < ops.size)
    (hM : StepKindC M C) (hb : M w w') (v : Value)
    (hc : ∀ V vals, LexC P ops T S C V Q a0 vals → (∀ i, ancT T k i = true → vals i = act i) → (shapeOfM S k v → V k = v) → vals k = v)
    (hf : ∀ V vals, LexC P ops T S C V Q a0 vals → (∀ i, ancT T k i = true → vals i = act i) → vals k = v → factAtM ops S a0 vals k w') :
    InvC P ops T S C Q a0 (fun j => L j ∨ j = k) (fun j => if j = k then v else act j) (a.put o.dst v) w' := by
  have hd : dstOf ops k = o.dst := by simp [dstOf, ho]
  have hne : ∀ j, L j → j ≠ k := fun j hj e => hk (e ▸ hj)
  have hdis : ∀ j, L j → ∀ d, dstOf ops j = some d → dstOf ops k ≠ some d := fun j hj d hjd hkd => by
    obtain ⟨oj, hjo⟩ : ∃ oj, ops[j]? = some oj := ⟨_, Array.getElem?_eq_getElem (hLn j hj)⟩
    have hjd' : oj.dst = some d := by simpa [dstOf, hjo] using hjd
    rcases Nat.lt_or_gt_of_ne (hne j hj) with h | h
    · exact ok.dst k o ho j d h hjd (by rw [← hd]; exact hkd)
    · exact ok.dst j _ hjo k d h hkd hjd'
  have hback : ∀ j, L j → ∀ vals : Nat → Value, (∀ i, ancT T j i = true → vals i = if i = k then v else act i) → ∀ i, ancT T j i = true → vals i = act i := fun j hj vals h i hi => by
    rw [h i hi, if_neg (hne i (I.closed j hj i hi))]
  have hkk : ∀ vals : Nat → Value, (∀ i, ancT T k i = true → vals i = if i = k then v else act i) → ∀ i, ancT T k i = true → vals i = act i := fun vals h i hi => by
    rw [h i hi, if_neg (hne i (hL i hi))]
  refine ⟨hM.grown _ _ I.grown hb, ?_, by rw [put_defers]; exact I.defers, by rw [put_size]; exact I.tsize, ?_, ?_, ?_, ?_⟩
  · rintro j (hj | rfl) i hi
    · exact .inl (I.closed j hj i hi)
    · exact .inl (hL i hi)
  · intro t ht
    rw [put_ne _ _ _ _ (by rw [← hd]; exact ht k (.inr rfl))]
    exact I.off t fun j hj => ht j (.inl hj)
  · rintro j (hj | rfl) d hjd hs
    · rw [put_ne _ _ _ _ (by rw [← hd]; exact hdis j hj d hjd), I.on j hj d hjd hs, if_neg (hne j hj)]
    · rw [if_pos rfl]
      rw [hd] at hjd
      rw [hjd]
      exact put_eq _ _ _ (by rw [I.tsize]; exact hs)
  · rintro j (hj | rfl) V vals hx hv hV
    · rw [if_neg (hne j hj)] at hV ⊢
      exact I.cert j hj V vals hx (hback j hj vals hv) hV
    · rw [if_pos rfl] at hV ⊢
      exact hc V vals hx (hkk vals hv) hV
  · rintro j (hj | rfl) V vals hx hv hvj
    · rw [if_neg (hne j hj)] at hvj
      intro s o' hs ho' hw
      exact s.keeps _ _ _ _ (I.fcert j hj V vals hx (hback j hj vals hv) hvj s o' hs ho' hw) hb
    · rw [if_pos rfl] at hvj
      exact hf V vals hx (hkk vals hv) hvj

theorem any_of_lexC {Qe : Exit → Act → World → Prop} (ok : RelOk ops T) (hD : DepOk ops S T) (hM : StepKindC M C) (hin : ∀ V : Nat → Value, (∀ k, shapeOfM S k (V k)) → ∃ vals, LexC P ops T S C V (Qe .normal) a0 vals) :
    ∀ (fuel : Nat) (listed : Array Bool) (act : Nat → Value) (a : Act) (w : World), listed.size = ops.size → (List.range ops.size).countP (fun i => !listed.getD i false) ≤ fuel →
    InvC P ops T S C (Qe .normal) a0 (fun j => listed.getD j false = true) act a w → wpAny P .any ops Qe fuel listed a w := by
  have pick : ∀ k, ∃ v, shapeOfM S k v := fun k => by
    unfold shapeOfM
    cases spOfM S k with
    | some s => exact s.inh
    | none => exact ⟨undef, trivial⟩
  -- a walk in the order of the text that fits what has come
  have fit : ∀ (listed : Array Bool) (act : Nat → Value), ∃ V vals, LexC P ops T S C V (Qe .normal) a0 vals ∧ ∀ j, listed.getD j false = true → shapeOfM S j (act j) → V j = act j := fun listed act => by
    have hV : ∀ k, ∃ v, shapeOfM S k v ∧ (listed.getD k false = true → shapeOfM S k (act k) → v = act k) := fun k => by
      by_cases h : listed.getD k false = true ∧ shapeOfM S k (act k)
      · exact ⟨_, h.2, fun _ _ => rfl⟩
      · obtain ⟨v, hv⟩ := pick k
        exact ⟨v, hv, fun h1 h2 => absurd ⟨h1, h2⟩ h⟩
    refine ⟨fun k => Classical.choose (hV k), ?_⟩
    obtain ⟨vals, hx⟩ := hin (fun k => Classical.choose (hV k)) (fun k => (Classical.choose_spec (hV k)).1)
    exact ⟨vals, hx, fun j => (Classical.choose_spec (hV j)).2⟩
  have hlt : ∀ (listed : Array Bool), listed.size = ops.size → ∀ j, listed.getD j false = true → j < ops.size := fun listed hs j hj => by
    rcases Nat.lt_or_ge j listed.size with h | h
    · omega
    · simp [Array.getD_eq_getD_getElem?, Array.getElem?_eq_none h] at hj
  have done : ∀ (listed : Array Bool) (act : Nat → Value) (a : Act) (w : World), listed.size = ops.size → InvC P ops T S C (Qe .normal) a0 (fun j => listed.getD j false = true) act a w → (∀ j, j < ops.size → listed.getD j false = true) → Qe .normal a w := by
    intro listed act a w hs I hall
    obtain ⟨V, vals, hx, hV⟩ := fit listed act
    have hv : ∀ j, j < ops.size → vals j = act j := fun j hj => InvC.vals ok I (hlt listed hs) hx hV ops.size j hj (hall j hj)
    have hf : ∀ j, j < ops.size → factAtM ops S a0 vals j w := fun j hj =>
      I.fcert j (hall j hj) V vals hx (fun i hi => hv i (hlt listed hs i (I.closed j (hall j hj) i hi))) (hv j hj)
    have := hx.last w I.grown hf
    have ha : lexF ops a0 vals ops.size = a := by
      have h1 : (lexF ops a0 vals ops.size).defers = a.defers := by rw [lexF_defers, I.defers]
      have h2 : (lexF ops a0 vals ops.size).tmps = a.tmps := by
        apply Array.ext_getElem?
        intro t
        by_cases hj : ∃ j, dstOf ops j = some t
        · obtain ⟨j, hj⟩ := hj
          have hjn : j < ops.size := by
            rcases Nat.lt_or_ge j ops.size with h | h
            · exact h
            · unfold dstOf at hj; rw [Array.getElem?_eq_none h] at hj; simp at hj
          by_cases hts : t < a0.tmps.size
          · rw [I.on j (hall j hjn) t hj hts, lexF_on a0 vals t hts j hj ops.size hjn ?_, hv j hjn]
            intro i h1 h2 hi
            exact ok.dst i ops[i] (Array.getElem?_eq_getElem h2) j t h1 hj (by simpa [dstOf, Array.getElem?_eq_getElem h2] using hi)
          · have hts' : a0.tmps.size ≤ t := Nat.le_of_not_lt hts
            rw [Array.getElem?_eq_none (by rw [lexF_size]; exact hts'), Array.getElem?_eq_none (by rw [I.tsize]; exact hts')]
        · rw [I.off t (fun j _ h => hj ⟨j, h⟩), lexF_off a0 vals t _ (fun j _ h => hj ⟨j, h⟩)]
      cases h : lexF ops a0 vals ops.size
      cases a
      rw [h] at h1 h2
      simp only at h1 h2
      rw [h1, h2]
    rw [ha] at this
    exact this
  have stp : ∀ (listed : Array Bool) (act : Nat → Value) (a : Act) (w : World), listed.size = ops.size → InvC P ops T S C (Qe .normal) a0 (fun j => listed.getD j false = true) act a w → ∀ i ∈ Region.ready .any ops listed, ∀ K : Act → World → Prop,
      (∀ act' a' w', InvC P ops T S C (Qe .normal) a0 (fun j => (listed.setIfInBounds i true).getD j false = true) act' a' w' → K a' w') → wpOp P ops Qe i K a w := by
    intro listed act a w hs I i hi K hK
    obtain ⟨hnl, o, ho, hdeps⟩ := mem_ready.1 hi
    have hin' : i < ops.size := (Array.getElem?_eq_some_iff.1 ho).1
    have hnL : ¬ (listed.getD i false = true) := by
      intro h
      have : listed.getD i true = listed.getD i false := by
        simp only [Array.getD_eq_getD_getElem?]
        rw [Array.getElem?_eq_getElem (by omega)]; rfl
      rw [this, h] at hnl; cases hnl
    have hL : ∀ j, ancT T i j = true → listed.getD j false = true := fun j hj => by
      obtain ⟨_, ⟨e, he, hb, h⟩, _⟩ := ok.anc i o ho j hj
      rcases h with rfl | h
      · exact hdeps e he hb
      · exact I.closed e.on (hdeps e he hb) j h
    obtain ⟨V, vals, hx, hV⟩ := fit listed act
    have hv : ∀ j, ancT T i j = true → vals j = act j := fun j hj => InvC.vals ok I (hlt listed hs) hx hV ops.size j (hlt listed hs j (hL j hj)) (hL j hj)
    have hsel := fun cs b => ok.sel i o cs b ho
    have agree : ∀ vals' : Nat → Value, (∀ j, ancT T i j = true → vals' j = act j) → execOp a.eval o = execOp (lexF ops a0 vals' i).eval o ∧ Region.wanted o (yielded ops a.tmps) = wantAt ops a0 vals' i o := fun vals' hv' =>
      same_op hsel (I.look ok ho hL hv')
    have hset : ∀ act' a' w', InvC P ops T S C (Qe .normal) a0 (fun j => listed.getD j false = true ∨ j = i) act' a' w' → K a' w' := fun act' a' w' I' => by
      refine hK act' a' w' ?_
      have : (fun j => (listed.setIfInBounds i true).getD j false = true) = (fun j => listed.getD j false = true ∨ j = i) := funext fun j => propext (listed_set (by omega))
      rw [this]; exact I'
    obtain ⟨s1, s2⟩ := hx.step i o ho
    obtain ⟨he, hwe⟩ := agree vals hv
    have hfacts := I.facts ok ho hL hx hv
    cases hw : wantAt ops a0 vals i o with
    | false =>
      refine wpOp_skip ho (by rw [hwe, hw]) ?_
      refine hset _ _ _ (I.more ok ho hL hnL (hlt listed hs) hM (hM.refl _) undef ?_ ?_)
      · intro V' vals' hx' hv' _
        exact (hx'.step i o ho).1 (by rw [← (agree vals' hv').2, hwe, hw])
      · intro V' vals' hx' hv' _ s o' _ ho' hw'
        rw [ho] at ho'; cases ho'
        rw [← (agree vals' hv').2, hwe, hw] at hw'; cases hw'
    | true =>
      refine wpOp_want ho (by rw [hwe, hw]) ?_
      have s3 := s2 hw
      cases hsp : spOfM S i with
      | some s =>
        rw [hsp] at s3
        obtain ⟨hvi, hbec⟩ := s3
        have hb := hbec w I.grown hfacts
        have fin : ∀ v w', M w w' → s.shape v ∧ s.fact (depOf vals s) v w' → K (a.put o.dst v) w' := fun v w' hbw hsf => by
          refine hset _ _ _ (I.more ok ho hL hnL (hlt listed hs) hM hbw v ?_ ?_)
          · intro V' vals' hx' hv' hVs
            have h5 := (hx'.step i o ho).2 (by rw [← (agree vals' hv').2, hwe, hw])
            rw [hsp] at h5
            rw [h5.1]
            exact hVs (by unfold shapeOfM; rw [hsp]; exact hsf.1)
          · intro V' vals' hx' hv' hvk s' o' hs' _ _
            rw [hsp] at hs'; cases hs'
            rw [hvk, depOf_anc hD hsp (V' := vals) (fun i hi => (hv' i hi).trans (hv i hi).symm)]; exact hsf.2
        unfold becomesM at hb
        unfold Oper.wp
        rw [he]
        generalize (execOp (lexF ops a0 vals i).eval o).run P w = r at *
        cases r with
        | halt x w' => exact hb.elim
        | ok n w' =>
          cases n <;> first | exact fin _ _ hb.1 hb.2 | (simp only at hb; done) | skip
          all_goals first
            | (refine Calls.mono hb ?_
               rintro e w'' ⟨v, rfl, h1, h2⟩
               exact fin _ _ h1 h2)
            | exact hb.elim
      | none =>
        rw [hsp] at s3
        have hsure := s3 w I.grown hfacts
        have fin : K (a.put o.dst (vals i)) w := by
          refine hset _ _ _ (I.more ok ho hL hnL (hlt listed hs) hM (hM.refl _) (vals i) ?_ ?_)
          · intro V' vals' hx' hv' _
            have h5 := (hx'.step i o ho).2 (by rw [← (agree vals' hv').2, hwe, hw])
            rw [hsp] at h5
            have h6 := h5 w I.grown (I.facts ok ho hL hx' hv')
            have h7 := (agree vals' hv').1
            rw [he] at h7
            unfold sureAt at hsure h6
            rw [← h7] at h6
            rcases hsure with h | ⟨h, h'⟩ <;> rcases h6 with g | ⟨g, g'⟩
            · rw [h] at g; injection g with g _; injection g with g; exact g.symm
            · rw [h] at g; cases g
            · rw [h] at g; cases g
            · rw [h', g']
          · intro V' vals' hx' hv' _ s' o' hs' _ _
            rw [hsp] at hs'; cases hs'
        unfold Oper.wp
        rw [he]
        unfold sureAt at hsure
        rcases hsure with h | ⟨h, h'⟩
        · rw [h]; exact fin
        · rw [h]; rw [h'] at fin; exact fin
  intro fuel
  induction fuel with
  | zero =>
    intro listed act a w hs hc I
    have hall : ∀ j, j < ops.size → listed.getD j false = true := fun j hj => by
      have h0 : (List.range ops.size).countP (fun i => !listed.getD i false) = 0 := by omega
      have := List.countP_eq_zero.1 h0 j (List.mem_range.2 hj)
      simpa using this
    refine ⟨?_, done listed act a w hs I hall⟩
    cases hr : Region.ready .any ops listed with
    | nil => rfl
    | cons x l =>
      have hx : x ∈ Region.ready .any ops listed := by rw [hr]; exact List.mem_cons_self
      obtain ⟨h1, o, ho, _⟩ := mem_ready.1 hx
      have hxn : x < ops.size := (Array.getElem?_eq_some_iff.1 ho).1
      have h2 := hall x hxn
      simp only [Array.getD_eq_getD_getElem?] at h1 h2
      rw [Array.getElem?_eq_getElem (by omega)] at h1 h2
      simp only [Option.getD_some] at h1 h2
      rw [h1] at h2; cases h2
  | succ fuel ih =>
    intro listed act a w hs hc I
    refine ⟨fun hr => done listed act a w hs I (fun j hj => all_listed ok hs hr ops.size j hj hj), fun i hi => ?_⟩
    obtain ⟨hnl, o, ho, _⟩ := mem_ready.1 hi
    have hin' : i < ops.size := (Array.getElem?_eq_some_iff.1 ho).1
    refine stp listed act a w hs I i hi _ fun act' a' w' I' => ih _ act' a' w' (by simpa using hs) ?_ I'
    have hfi : listed.getD i false = false := by
      simp only [Array.getD_eq_getD_getElem?] at *
      rw [Array.getElem?_eq_getElem (by omega)] at *
      simpa using hnl
    have := countP_lt (p := fun j => !listed.getD j false) (q := fun j => !(listed.setIfInBounds i true).getD j false) (i := i) (fun x hx => by
      cases h : listed.getD x false with
      | false => rfl
      | true =>
        have h9 := (listed_set (listed := listed) (i := i) (j := x) (by omega)).2 (.inl h)
        simp [h9] at hx) (by simp [hfi]) (by
        have h9 := (listed_set (listed := listed) (i := i) (j := i) (by omega)).2 (.inr rfl)
        simp [h9]) (List.range ops.size) (List.mem_range.2 hin')
    omega
end
theorem wp_region_relC {id : Nat} {Q : Exit → Act → World → Prop} {a : Act} {w : World} {l : List Oper} (M : World → World → Prop) (C : World → Prop) (S : List (SpM M)) (hm : P.follows .mixedOrders = true) (hM : StepKindC M C) (h0 : C { w with drawn := w.drawn + 1 }) (hB : relT l.toArray (ahead l.toArray l.length) = true) (hd : depsOk l.toArray S (ahead l.toArray l.length) = true)
    (h : ∀ V : Nat → Value, (∀ k, shapeOfM S k (V k)) → wpRelC P l.toArray (ahead l.toArray l.length) S C V (Q .normal) l 0 [] a) : (Code.region id l.toArray true).wp P Q a w := by
  have ok := relOk_of hB
  refine wp_region_any hm (any_of_lexC (S := S) (C := C) (a0 := a) ok (depOk_of hd) hM (fun V hV => ?_) _ _ (fun _ => undef) _ _ (by simp) (by have := List.countP_le_length (p := fun i => !(Array.replicate l.toArray.size false).getD i false) (l := List.range l.toArray.size); simpa using this) ?_)
  · exact lex_of_relC (depOk_of hd) l 0 [] (fun _ => undef) (by simp) (by simp) (fun p hp => by cases hp) (fun j o hj => by omega) (h V hV)
  · have hno : ∀ j, ¬ ((Array.replicate l.toArray.size false).getD j false = true) := fun j hj => by
      simp only [Array.getD_eq_getD_getElem?, Array.getElem?_replicate] at hj
      split at hj <;> simp at hj
    exact ⟨h0, fun j hj => absurd hj (hno j), rfl, rfl, fun _ _ => rfl, fun j hj => absurd hj (hno j), fun j hj => absurd hj (hno j), fun j hj => absurd hj (hno j)⟩
/-- With a tail. -/
theorem wp_region_relC_tail {id : Nat} {Q : Exit → Act → World → Prop} {a : Act} {w : World} {l : List Oper} (n : Nat) (M : World → World → Prop) (C : World → Prop) (S : List (SpM M)) (hm : P.follows .mixedOrders = true) (hM : StepKindC M C) (h0 : C { w with drawn := w.drawn + 1 }) (hB : relT (l.take n).toArray (ahead (l.take n).toArray (l.take n).length) = true) (hd : depsOk (l.take n).toArray S (ahead (l.take n).toArray (l.take n).length) = true) (hT : tailOk l n = true)
    (h : ∀ V : Nat → Value, (∀ k, shapeOfM S k (V k)) → wpRelC P (l.take n).toArray (ahead (l.take n).toArray (l.take n).length) S C V (fun a w => wpList P l.toArray Q (l.drop n) a w) (l.take n) 0 [] a) : (Code.region id l.toArray true).wp P Q a w := by
  have ok := relOk_of hB
  have hn : n < l.length := by
    have hT2 := hT
    simp only [tailOk, Bool.and_eq_true, decide_eq_true_eq] at hT2
    exact hT2.1.1.1.1
  have hln : (l.take n).length = n := by simp; omega
  refine wp_region_any hm ?_
  have hr : ∀ m j : Nat, (Array.replicate m false).getD j false = false := fun m j => by
    simp only [Array.getD_eq_getD_getElem?, Array.getElem?_replicate]
    split <;> rfl
  have H := any_of_lexC (P := P) (ops := (l.take n).toArray) (Qe := Qtail P l.toArray Q (l.drop n)) (S := S) (C := C) (a0 := a) ok (depOk_of hd) hM (fun V hV => lex_of_relC (depOk_of hd) (l.take n) 0 [] (fun _ => undef) (by simp) (by simp) (fun p hp => by cases hp) (fun j o hj => by omega) (h V hV)) n
    (Array.replicate n false) (fun _ => undef) a { w with drawn := w.drawn + 1 } (by simp; omega) (by
      have := List.countP_le_length (p := fun i => !(Array.replicate n false).getD i false) (l := List.range (l.take n).toArray.size)
      simp at this ⊢
      omega) ?_
  · have := any_of_head (P := P) (Q := Q) ok hT n (Array.replicate n false) (Array.replicate l.toArray.size false) a { w with drawn := w.drawn + 1 } ⟨by simp, fun i hi => by rw [Array.getElem?_replicate, Array.getElem?_replicate, if_pos hi, if_pos (by simp; omega)]⟩
      ⟨by simp, fun j oj _ hl => (by rw [hr] at hl; cases hl), fun t _ ht => getD_in (by simpa using ht) (hr _ _)⟩ H
    rwa [show n + (l.length - n) = l.toArray.size by simp; omega] at this
  · have hno : ∀ j, ¬ ((Array.replicate n false).getD j false = true) := fun j hj => by rw [hr] at hj; cases hj
    exact ⟨h0, fun j hj => absurd hj (hno j), rfl, rfl, fun _ _ => rfl, fun j hj => absurd hj (hno j), fun j hj => absurd hj (hno j), fun j hj => absurd hj (hno j)⟩
end
section
variable {P : Program} {ops : Array Oper} {M : World → World → Prop}
variable {T : List (List Nat)} {S : List (SpM M)} {C : World → Prop} {V : Nat → Value} {Q : Act → World → Prop} {rest : List Oper} {k : Nat} {G : List (Nat × (World → Prop))} {a : Act} {o : Oper}
/-- wt: a world that all of the class have grown out of. -/
theorem cq (wt : World) (hC : ∀ w, C w → Below wt.heap.size wt w) (hk : spOfM S k = none) (hh : hushed o.op = true) (h : wpQuiet P ops (fun w' => ∃ p : Regrown, w' = grow (redrawn wt p.d) p.os) (fun a' => Wr (wpRelC P ops T S C V Q rest (k + 1) G a')) [o] a) : Wr (wpRelC P ops T S C V Q (o :: rest) k G a) := by
  refine Wr.mk ?_
  replace h := quiet_out h
  unfold wpQuiet at h
  unfold wpRelC
  by_cases hw : Region.wanted o (yielded ops a.tmps) = true
  · rw [if_pos hw] at h ⊢
    rw [hk]
    obtain ⟨v, h1, h2⟩ := h
    exact ⟨v, fun w hb _ => sure_of_quiet hh (h1 w (regrown_of_below (hC w hb))), h2⟩
  · rw [if_neg hw] at h ⊢
    exact h
theorem ck (wt : World) (hw : Region.wanted o (yielded ops a.tmps) = false) (h : wpQuiet P ops (fun w' => ∃ p : Regrown, w' = grow (redrawn wt p.d) p.os) (fun a' => Wr (wpRelC P ops T S C V Q rest (k + 1) G a')) [o] a) : Wr (wpRelC P ops T S C V Q (o :: rest) k G a) := by
  refine Wr.mk ?_
  replace h := quiet_out h
  unfold wpQuiet at h
  unfold wpRelC
  rw [if_neg (by rw [hw]; exact Bool.false_ne_true)] at h ⊢
  exact h
theorem cf (wt : World) (v : Value) {dst : Option Tmp} {op : Op} {type : TypeId} {pos : String} {after : Array Edge} {guard : Option (Nat × Bool)} (hw : Region.wanted ⟨dst, op, type, pos, after, guard⟩ (yielded ops a.tmps) = true) (hk : spOfM S k = none)
    (h1 : ∀ w, C w → (∀ p ∈ G, ancT T k p.1 = true → p.2 w) → (execOp a.eval ⟨dst, op, type, pos, after, guard⟩).run P w = .ok (.value v) w)
    (h : wpQuiet P ops (fun w' => ∃ p : Regrown, w' = grow (redrawn wt p.d) p.os) (fun a' => Wr (wpRelC P ops T S C V Q rest (k + 1) G a')) [⟨dst, .move (.const v), type, pos, after, none⟩] a) : Wr (wpRelC P ops T S C V Q (⟨dst, op, type, pos, after, guard⟩ :: rest) k G a) := by
  refine Wr.mk ?_
  unfold wpRelC
  rw [if_pos hw, hk]
  exact ⟨v, fun w hb hf => .inl (h1 w hb hf), of_move (quiet_out h)⟩
theorem cn (wt : World) {x : Operand} (A : Addr) {dst : Option Tmp} {type : TypeId} {pos : String} {after : Array Edge} {guard : Option (Nat × Bool)} (hw : Region.wanted ⟨dst, .nilCheck x, type, pos, after, guard⟩ (yielded ops a.tmps) = true) (hk : spOfM S k = none) (hx : a.eval x = .pointer (some A))
    (h : wpQuiet P ops (fun w' => ∃ p : Regrown, w' = grow (redrawn wt p.d) p.os) (fun a' => Wr (wpRelC P ops T S C V Q rest (k + 1) G a')) [⟨dst, .move (.const (.pointer (some A))), type, pos, after, none⟩] a) : Wr (wpRelC P ops T S C V Q (⟨dst, .nilCheck x, type, pos, after, guard⟩ :: rest) k G a) :=
  cf wt (.pointer (some A)) hw hk (fun w hb hf => by simp [execOp, hx]) h
theorem csp (wt : World) (s : SpM M) {dst : Option Tmp} {op : Op} {type : TypeId} {pos : String} {after : Array Edge} {guard : Option (Nat × Bool)} (hw : Region.wanted ⟨dst, op, type, pos, after, guard⟩ (yielded ops a.tmps) = true) (hk : spOfM S k = some s)
    (h1 : ∀ w, C w → (∀ p ∈ G, ancT T k p.1 = true → p.2 w) → becomesM M P ⟨dst, op, type, pos, after, guard⟩ a w fun v w' => s.shape v ∧ s.fact (depOf V s) v w')
    (h : wpQuiet P ops (fun w' => ∃ p : Regrown, w' = grow (redrawn wt p.d) p.os) (fun a' => Wr (wpRelC P ops T S C V Q rest (k + 1) ((k, s.fact (depOf V s) (V k)) :: G) a')) [⟨dst, .move (.const (V k)), type, pos, after, none⟩] a) : Wr (wpRelC P ops T S C V Q (⟨dst, op, type, pos, after, guard⟩ :: rest) k G a) := by
  refine Wr.mk ?_
  unfold wpRelC
  rw [if_pos hw, hk]
  exact ⟨h1, of_move (quiet_out h)⟩
theorem cend (h : ∀ w, C w → (∀ p ∈ G, p.2 w) → Q a w) : Wr (wpRelC P ops T S C V Q [] k G a) := Wr.mk h
theorem wp_relC {id : Nat} {Q : Exit → Act → World → Prop} {a : Act} {w : World} {l : List Oper} (M : World → World → Prop) (C : World → Prop) (S : List (SpM M)) (hm : P.follows .mixedOrders = true) (hM : StepKindC M C) (h0 : C { w with drawn := w.drawn + 1 }) (hB : relT l.toArray (ahead l.toArray l.length) = true) (hd : depsOk l.toArray S (ahead l.toArray l.length) = true)
    (h : ∀ V : Nat → Value, (∀ k, shapeOfM S k (V k)) → Wr (wpRelC P l.toArray (ahead l.toArray l.length) S C V (Q .normal) l 0 [] a)) : (Code.region id l.toArray true).wp P Q a w := wp_region_relC M C S hm hM h0 hB hd fun V hV => (h V hV).out
theorem wp_reltC {id : Nat} {Q : Exit → Act → World → Prop} {a : Act} {w : World} {l : List Oper} (n : Nat) (M : World → World → Prop) (C : World → Prop) (S : List (SpM M)) (hm : P.follows .mixedOrders = true) (hM : StepKindC M C) (h0 : C { w with drawn := w.drawn + 1 }) (hB : relT (l.take n).toArray (ahead (l.take n).toArray (l.take n).length) = true) (hd : depsOk (l.take n).toArray S (ahead (l.take n).toArray (l.take n).length) = true) (hT : tailOk l n = true)
    (h : ∀ V : Nat → Value, (∀ k, shapeOfM S k (V k)) → Wr (wpRelC P (l.take n).toArray (ahead (l.take n).toArray (l.take n).length) S C V (fun a w => wpList P l.toArray Q (l.drop n) a w) (l.take n) 0 [] a)) : (Code.region id l.toArray true).wp P Q a w := wp_region_relC_tail n M C S hm hM h0 hB hd hT fun V hV => (h V hV).out
end
/-- A world cut at block B: what lies below. -/
def cutW (w : World) (B : Nat) : World := { w with heap := w.heap.extract 0 B }
theorem cutW_size {w : World} {B : Nat} (h : B ≤ w.heap.size) : (cutW w B).heap.size = B := by simp [cutW]; omega
theorem cutW_below {w w' : World} {B : Nat} (hB : B ≤ w.heap.size) (h : Below B w w') (hs : B ≤ w'.heap.size) : Below (cutW w B).heap.size (cutW w B) w' :=
  ⟨h.os, h.tape, h.output, by rw [cutW_size hB]; exact hs, fun k hk => by
    rw [cutW_size hB] at hk
    rw [h.block k hk]
    show w.heap[k]? = (w.heap.extract 0 B)[k]?
    rw [Array.getElem?_extract, if_pos (by omega), Nat.zero_add]⟩
theorem cutW_cell {w : World} {B : Nat} {p : Addr} (h : p.block < B) (hB : B ≤ w.heap.size) : (cutW w B).cell? p = w.cell? p := by
  have e : (w.heap.extract 0 B)[p.block]? = w.heap[p.block]? := by rw [Array.getElem?_extract, if_pos (by omega), Nat.zero_add]
  unfold World.cell? cutW
  simp only [e]
end Go.Proofs.Ytglnnplijienbaa
