/- A region that draws its order and makes memory: one walk in the order of the text serves every order. -/
import Derived.Test.YtglnnplijienbaaRows
import Derived.BigQuiet
import Derived.Lib.QuietBelow
namespace Go.Proofs.Ytglnnplijienbaa
open Go Go.RowKit
section
variable {P : Program} {ops : Array Oper}

/-- The operation yields this value in this world and leaves the world. -/
def sureAt (P : Program) (o : Oper) (a : Act) (w : World) (v : Value) : Prop :=
  (execOp a.eval o).run P w = .ok (.value v) w ∨ ((execOp a.eval o).run P w = .ok .skip w ∧ v = undef)
/-- The operation, or the function that it calls, yields a value of this kind and leaves what was there. -/
def becomes (P : Program) (o : Oper) (a : Act) (w : World) (Φ : Value → World → Prop) : Prop :=
  match (execOp a.eval o).run P w with
  | .ok (.value v) w' => Below w.heap.size w w' ∧ Φ v w'
  | .ok .skip w' => Below w.heap.size w w' ∧ Φ undef w'
  | .ok (.enter f args) w' => Calls P f args w' fun e w'' => ∃ v, e = .returned v ∧ Below w.heap.size w w'' ∧ Φ v w''
  | _ => False

/-- Which operations come ahead of operation k in every order. -/
def ahead (ops : Array Oper) : Nat → List (List Nat)
  | 0 => []
  | k + 1 =>
    let L := ahead ops k
    let ds := match ops[k]? with | some o => (o.after.toList.filter (Region.binds .any)).map (fun e : Edge => e.on) | none => ([] : List Nat)
    L ++ [ds.foldl (fun s d => (d :: L.getD d []).foldl (fun s x => if s.contains x then s else x :: s) s) []]
def anc (ops : Array Oper) (k j : Nat) : Bool := ((ahead ops (k + 1)).getD k []).contains j
def ancT (T : List (List Nat)) (k j : Nat) : Bool := (T.getD k []).contains j
def dstOf (ops : Array Oper) (k : Nat) : Option Tmp := (ops[k]?).bind (·.dst)
/-- What the rule asks of a region; T: who comes ahead of whom. -/
def relT (ops : Array Oper) (T : List (List Nat)) : Bool :=
  Region.noSelect ops && (List.range ops.size).all fun k =>
    match ops[k]? with
    | none => true
    | some o =>
      (o.after.toList.all fun e => !Region.binds .any e || (decide (e.on < k) && ancT T k e.on)) &&
      ((T.getD k []).all fun j => decide (j < k) && (o.after.toList.any fun e => Region.binds .any e && (e.on == j || ancT T e.on j)) && ((T.getD j []).all fun i => ancT T k i)) &&
      ((List.range k).all fun j => (dstOf ops j).isNone || dstOf ops j != o.dst) &&
      ((List.range ops.size).all fun j => match dstOf ops j with | none => true | some d => !(o.looksAt ops).contains d || ancT T k j)

structure Sp where
  at_ : Nat
  shape : Value → Prop
  fact : Value → World → Prop
  inh : ∃ v, shape v
  keeps : ∀ v w w', fact v w → Below w.heap.size w w' → fact v w'
def spOf (S : List Sp) (k : Nat) : Option Sp := S.find? (fun s => s.at_ == k)
def shapeOf (S : List Sp) (k : Nat) (v : Value) : Prop := match spOf S k with | some s => s.shape v | none => True

/-- The walk in the order of the text. G: what is known of the special ones so far. -/
def wpRel (P : Program) (ops : Array Oper) (T : List (List Nat)) (S : List Sp) (w0 : World) (V : Nat → Value) (Q : Act → World → Prop) : List Oper → Nat → List (Nat × (World → Prop)) → Act → Prop
  | [], _, G, a => ∀ w, Below w0.heap.size w0 w → (∀ p ∈ G, p.2 w) → Q a w
  | o :: rest, k, G, a =>
    if Region.wanted o (yielded ops a.tmps) then
      match spOf S k with
      | some s => (∀ w, Below w0.heap.size w0 w → (∀ p ∈ G, ancT T k p.1 = true → p.2 w) → becomes P o a w fun v w' => s.shape v ∧ s.fact v w') ∧
          wpRel P ops T S w0 V Q rest (k + 1) ((k, s.fact (V k)) :: G) (a.put o.dst (V k))
      | none => ∃ v, (∀ w, Below w0.heap.size w0 w → (∀ p ∈ G, ancT T k p.1 = true → p.2 w) → sureAt P o a w v) ∧ wpRel P ops T S w0 V Q rest (k + 1) G (a.put o.dst v)
    else wpRel P ops T S w0 V Q rest (k + 1) G (a.put o.dst undef)

/-- The frame ahead of operation k, if these are the values. -/
def lexF (ops : Array Oper) (a0 : Act) (vals : Nat → Value) : Nat → Act
  | 0 => a0
  | k + 1 => (lexF ops a0 vals k).put (dstOf ops k) (vals k)
theorem lexF_congr {a0 : Act} {vals vals' : Nat → Value} : ∀ k, (∀ j, j < k → vals j = vals' j) → lexF ops a0 vals k = lexF ops a0 vals' k
  | 0, _ => rfl
  | k + 1, h => by simp only [lexF]; rw [lexF_congr k (fun j hj => h j (by omega)), h k (by omega)]
def wantAt (ops : Array Oper) (a0 : Act) (vals : Nat → Value) (k : Nat) (o : Oper) : Bool := Region.wanted o (yielded ops (lexF ops a0 vals k).tmps)
/-- What is known of operation j. -/
def factAt (ops : Array Oper) (S : List Sp) (a0 : Act) (vals : Nat → Value) (j : Nat) (w : World) : Prop :=
  ∀ s o, spOf S j = some s → ops[j]? = some o → wantAt ops a0 vals j o = true → s.fact (vals j) w

def stepOk (P : Program) (ops : Array Oper) (T : List (List Nat)) (S : List Sp) (w0 : World) (V : Nat → Value) (a0 : Act) (vals : Nat → Value) (k : Nat) (o : Oper) : Prop :=
    (wantAt ops a0 vals k o = false → vals k = undef) ∧
    (wantAt ops a0 vals k o = true → match spOf S k with
      | some s => vals k = V k ∧ ∀ w, Below w0.heap.size w0 w → (∀ j, ancT T k j = true → j < k → factAt ops S a0 vals j w) → becomes P o (lexF ops a0 vals k) w fun v w' => s.shape v ∧ s.fact v w'
      | none => ∀ w, Below w0.heap.size w0 w → (∀ j, ancT T k j = true → j < k → factAt ops S a0 vals j w) → sureAt P o (lexF ops a0 vals k) w (vals k))
structure Lex (P : Program) (ops : Array Oper) (T : List (List Nat)) (S : List Sp) (w0 : World) (V : Nat → Value) (Q : Act → World → Prop) (a0 : Act) (vals : Nat → Value) : Prop where
  step : ∀ k o, ops[k]? = some o → stepOk P ops T S w0 V a0 vals k o
  last : ∀ w, Below w0.heap.size w0 w → (∀ j, j < ops.size → factAt ops S a0 vals j w) → Q (lexF ops a0 vals ops.size) w

theorem factAt_congr {S : List Sp} {a0 : Act} {vals vals' : Nat → Value} {j : Nat} {w : World} (h : ∀ i, i ≤ j → vals i = vals' i) (hf : factAt ops S a0 vals j w) : factAt ops S a0 vals' j w := by
  intro s o hs ho hw
  rw [← h j (Nat.le_refl _)]
  refine hf s o hs ho ?_
  unfold wantAt at *
  rw [lexF_congr j (fun i hi => h i (by omega))]; exact hw
theorem stepOk_congr {T : List (List Nat)} {S : List Sp} {w0 : World} {V : Nat → Value} {a0 : Act} {vals vals' : Nat → Value} {k : Nat} {o : Oper} (h : ∀ i, i ≤ k → vals i = vals' i)
    (hs : stepOk P ops T S w0 V a0 vals k o) : stepOk P ops T S w0 V a0 vals' k o := by
  have hl : lexF ops a0 vals k = lexF ops a0 vals' k := lexF_congr k (fun i hi => h i (by omega))
  have hw : wantAt ops a0 vals k o = wantAt ops a0 vals' k o := by unfold wantAt; rw [hl]
  unfold stepOk at *
  rw [← hl, ← hw, ← h k (Nat.le_refl _)]
  refine ⟨hs.1, fun hw => ?_⟩
  have h2 := hs.2 hw
  cases hsp : spOf S k with
  | some s =>
    rw [hsp] at h2
    exact ⟨h2.1, fun w hb hf => h2.2 w hb (fun j hj hjk => factAt_congr (fun i hi => (h i (by omega)).symm) (hf j hj hjk))⟩
  | none =>
    rw [hsp] at h2
    exact fun w hb hf => h2 w hb (fun j hj hjk => factAt_congr (fun i hi => (h i (by omega)).symm) (hf j hj hjk))

/-- The known facts, in the walk's list and by number. -/
def Knows (ops : Array Oper) (S : List Sp) (a0 : Act) (vals : Nat → Value) (k : Nat) (G : List (Nat × (World → Prop))) : Prop :=
  ∀ p ∈ G, p.1 < k ∧ ∀ w, factAt ops S a0 vals p.1 w → p.2 w

theorem lex_of_rel {T : List (List Nat)} {S : List Sp} {w0 : World} {V : Nat → Value} {Q : Act → World → Prop} {a0 : Act} :
    ∀ (l : List Oper) (k : Nat) (G : List (Nat × (World → Prop))) (vals : Nat → Value), (∀ j, l[j]? = ops[k + j]?) → k + l.length = ops.size → Knows ops S a0 vals k G →
    (∀ j o, j < k → ops[j]? = some o → stepOk P ops T S w0 V a0 vals j o) → wpRel P ops T S w0 V Q l k G (lexF ops a0 vals k) → ∃ vals', Lex P ops T S w0 V Q a0 vals'
  | [], k, G, vals, hl, hk, hG, hs, h => by
    have hkn : k = ops.size := by simpa using hk
    refine ⟨vals, fun j o ho => hs j o ?_ ho, fun w hb hf => ?_⟩
    · have := (Array.getElem?_eq_some_iff.1 ho).1; omega
    · rw [← hkn]
      exact h w hb fun p hp => (hG p hp).2 w (hf _ (by have := (hG p hp).1; omega))
  | o :: rest, k, G, vals, hl, hk, hG, hs, h => by
    have h0 : ops[k]? = some o := by simpa using (hl 0).symm
    have hd : o.dst = dstOf ops k := by simp [dstOf, h0]
    have hrest : ∀ j, rest[j]? = ops[k + 1 + j]? := fun j => by have := hl (j + 1); simpa [Nat.add_assoc, Nat.add_comm 1 j] using this
    have hlen : k + 1 + rest.length = ops.size := by simp at hk; omega
    have hwant : ∀ v, wantAt ops a0 (fun j => if j = k then v else vals j) k o = Region.wanted o (yielded ops (lexF ops a0 vals k).tmps) := fun v => by
      unfold wantAt; rw [lexF_congr k (vals' := vals) (fun j hj => by simp; omega)]
    have hframe : ∀ v, lexF ops a0 (fun j => if j = k then v else vals j) k = lexF ops a0 vals k := fun v => lexF_congr k (fun j hj => by simp; omega)
    have hold : ∀ v j o', j < k → ops[j]? = some o' → stepOk P ops T S w0 V a0 (fun j => if j = k then v else vals j) j o' := fun v j o' hj ho' =>
      stepOk_congr (fun i hi => by simp; omega) (hs j o' hj ho')
    have hfact : ∀ v j w, j < k → factAt ops S a0 (fun j => if j = k then v else vals j) j w → factAt ops S a0 vals j w := fun v j w hj hf =>
      factAt_congr (fun i hi => by simp; omega) hf
    have hnext : ∀ v, lexF ops a0 (fun j => if j = k then v else vals j) (k + 1) = (lexF ops a0 vals k).put o.dst v := fun v => by
      simp only [lexF]; rw [hframe, hd]; simp
    have hGk : ∀ v, Knows ops S a0 (fun j => if j = k then v else vals j) (k + 1) G := fun v p hp => by
      obtain ⟨h1, h2⟩ := hG p hp
      exact ⟨by omega, fun w hf => h2 w (hfact v _ _ h1 hf)⟩
    have go : ∀ v G', Knows ops S a0 (fun j => if j = k then v else vals j) (k + 1) G' → stepOk P ops T S w0 V a0 (fun j => if j = k then v else vals j) k o →
        wpRel P ops T S w0 V Q rest (k + 1) G' ((lexF ops a0 vals k).put o.dst v) → ∃ vals', Lex P ops T S w0 V Q a0 vals' := fun v G' hG' hk' hr => by
      refine lex_of_rel rest (k + 1) G' _ hrest hlen hG' (fun j o' hj ho' => ?_) (by rw [hnext]; exact hr)
      rcases Nat.lt_succ_iff_lt_or_eq.1 hj with hj | rfl
      · exact hold v j o' hj ho'
      · rw [h0] at ho'; cases ho'; exact hk'
    unfold wpRel at h
    by_cases hw : Region.wanted o (yielded ops (lexF ops a0 vals k).tmps) = true
    · rw [if_pos hw] at h
      cases hsp : spOf S k with
      | some s =>
        rw [hsp] at h
        obtain ⟨h1, h2⟩ := h
        refine go (V k) _ (fun p hp => ?_) ?_ h2
        · rcases List.mem_cons.1 hp with rfl | hp
          · refine ⟨Nat.lt_succ_self _, fun w hf => ?_⟩
            have := hf s o hsp h0 (by rw [hwant]; exact hw)
            simpa using this
          · exact hGk _ p hp
        · refine ⟨fun hw' => (by rw [hwant, hw] at hw'; cases hw'), fun _ => ?_⟩
          rw [hsp]
          refine ⟨by simp, fun w hb hf => ?_⟩
          rw [hframe]
          exact h1 w hb fun p hp hanc => (hG p hp).2 w (hfact _ _ _ (hG p hp).1 (hf _ hanc (hG p hp).1))
      | none =>
        rw [hsp] at h
        obtain ⟨v, h1, h2⟩ := h
        refine go v G (hGk v) ?_ h2
        refine ⟨fun hw' => (by rw [hwant, hw] at hw'; cases hw'), fun _ => ?_⟩
        rw [hsp]
        intro w hb hf
        rw [hframe]
        simp only [if_true]
        exact h1 w hb fun p hp hanc => (hG p hp).2 w (hfact _ _ _ (hG p hp).1 (hf _ hanc (hG p hp).1))
    · rw [if_neg hw] at h
      refine go undef G (hGk _) ⟨fun _ => by simp, fun hw' => ?_⟩ h
      rw [hwant] at hw'; exact absurd hw' hw

/-! any order -/
structure RelOk (ops : Array Oper) (T : List (List Nat)) : Prop where
  sel : ∀ (j : Nat) (o : Oper) (cs : Array SelectCase) (b : Bool), ops[j]? = some o → o.op ≠ .select cs b
  edge : ∀ k o, ops[k]? = some o → ∀ e ∈ o.after, Region.binds .any e = true → e.on < k ∧ ancT T k e.on = true
  anc : ∀ k o, ops[k]? = some o → ∀ j, ancT T k j = true → j < k ∧ (∃ e ∈ o.after, Region.binds .any e = true ∧ (e.on = j ∨ ancT T e.on j = true)) ∧ ∀ i, ancT T j i = true → ancT T k i = true
  dst : ∀ k o, ops[k]? = some o → ∀ j d, j < k → dstOf ops j = some d → o.dst ≠ some d
  look : ∀ k o, ops[k]? = some o → ∀ j d, dstOf ops j = some d → d ∈ o.looksAt ops → ancT T k j = true
theorem relOk_of {T : List (List Nat)} (h : relT ops T = true) : RelOk ops T := by
  unfold relT at h
  simp only [Bool.and_eq_true] at h
  obtain ⟨hs, h⟩ := h
  have H : ∀ k o, ops[k]? = some o → _ := fun k o ho => by
    have hk : k < ops.size := (Array.getElem?_eq_some_iff.1 ho).1
    have := List.all_eq_true.1 h k (List.mem_range.2 hk)
    simp only [ho, Bool.and_eq_true] at this
    exact this
  refine ⟨fun j o cs b => Region.noSelect_spec hs j o cs b, fun k o ho e he hb => ?_, fun k o ho j hj => ?_, fun k o ho j d hj hd => ?_, fun k o ho j d hd hl => ?_⟩
  · have := List.all_eq_true.1 (H k o ho).1.1.1 e (by simpa using he)
    simpa [hb] using this
  · have := List.all_eq_true.1 (H k o ho).1.1.2 j (by unfold ancT at hj; simpa using hj)
    simp only [Bool.and_eq_true, decide_eq_true_eq] at this
    obtain ⟨⟨h1, h2⟩, h3⟩ := this
    refine ⟨h1, ?_, fun i hi => List.all_eq_true.1 h3 i (by unfold ancT at hi; simpa using hi)⟩
    obtain ⟨e, he, hb⟩ := List.any_eq_true.1 h2
    simp only [Bool.and_eq_true, Bool.or_eq_true, beq_iff_eq] at hb
    exact ⟨e, by simpa using he, hb⟩
  · have := List.all_eq_true.1 (H k o ho).1.2 j (List.mem_range.2 hj)
    rw [hd] at this
    simp at this
    exact fun e => this e.symm
  · have hj : j < ops.size := by
      unfold dstOf at hd
      rcases Nat.lt_or_ge j ops.size with h | h
      · exact h
      · rw [Array.getElem?_eq_none h] at hd; simp at hd
    have := List.all_eq_true.1 (H k o ho).2 j (List.mem_range.2 hj)
    rw [hd] at this
    simpa [hl] using this

theorem put_size (a : Act) (d : Option Tmp) (v : Value) : (a.put d v).tmps.size = a.tmps.size := by cases d <;> simp [Act.put]
theorem put_defers (a : Act) (d : Option Tmp) (v : Value) : (a.put d v).defers = a.defers := by cases d <;> simp [Act.put]
theorem put_ne (a : Act) (d : Option Tmp) (v : Value) (t : Tmp) (h : d ≠ some t) : (a.put d v).tmps[t]? = a.tmps[t]? := by
  cases d with
  | none => rfl
  | some d => simp only [Act.put]; exact Array.getElem?_setIfInBounds_ne (fun e => h (by rw [e]))
theorem put_eq (a : Act) (v : Value) (t : Tmp) (h : t < a.tmps.size) : (a.put (some t) v).tmps[t]? = some v := by
  simp only [Act.put]; exact Array.getElem?_setIfInBounds_self_of_lt h
theorem lexF_size (a0 : Act) (vals : Nat → Value) : ∀ k, (lexF ops a0 vals k).tmps.size = a0.tmps.size
  | 0 => rfl
  | k + 1 => by simp only [lexF]; rw [put_size]; exact lexF_size a0 vals k
theorem lexF_defers (a0 : Act) (vals : Nat → Value) : ∀ k, (lexF ops a0 vals k).defers = a0.defers
  | 0 => rfl
  | k + 1 => by simp only [lexF]; rw [put_defers]; exact lexF_defers a0 vals k
theorem lexF_off (a0 : Act) (vals : Nat → Value) (t : Tmp) : ∀ k, (∀ j, j < k → dstOf ops j ≠ some t) → (lexF ops a0 vals k).tmps[t]? = a0.tmps[t]?
  | 0, _ => rfl
  | k + 1, h => by
    simp only [lexF]
    rw [put_ne _ _ _ _ (h k (by omega))]
    exact lexF_off a0 vals t k (fun j hj => h j (by omega))
theorem lexF_on (a0 : Act) (vals : Nat → Value) (t : Tmp) (ht : t < a0.tmps.size) (j : Nat) (hj : dstOf ops j = some t) : ∀ k, j < k → (∀ i, j < i → i < k → dstOf ops i ≠ some t) → (lexF ops a0 vals k).tmps[t]? = some (vals j)
  | 0, h, _ => by omega
  | k + 1, h, hi => by
    simp only [lexF]
    rcases Nat.lt_succ_iff_lt_or_eq.1 h with h | rfl
    · rw [put_ne _ _ _ _ (hi k h (by omega))]
      exact lexF_on a0 vals t ht j hj k h (fun i h1 h2 => hi i h1 (by omega))
    · rw [hj]; exact put_eq _ _ _ (by rw [lexF_size]; exact ht)

/-- Two frames that agree where an operation looks. -/
theorem same_op {o : Oper} {a a' : Act} (hs : ∀ cs b, o.op ≠ .select cs b) (h : ∀ t ∈ o.looksAt ops, a.tmps[t]? = a'.tmps[t]?) :
    execOp a.eval o = execOp a'.eval o ∧ Region.wanted o (yielded ops a.tmps) = Region.wanted o (yielded ops a'.tmps) := by
  refine ⟨execOp_congr o hs fun x hx => ?_, ?_⟩
  · cases x with
    | tmp t =>
      have := h t (List.mem_append_left _ (List.mem_filterMap.2 ⟨.tmp t, by simpa using hx, rfl⟩))
      simp [Act.eval, Array.getD_eq_getD_getElem?, this]
    | _ => rfl
  · unfold Region.wanted
    cases hg : o.guard with
    | none => rfl
    | some gw =>
      obtain ⟨g, want⟩ := gw
      have hy : yielded ops a.tmps g = yielded ops a'.tmps g := by
        unfold yielded
        cases ht : (ops[g]?).bind (·.dst) with
        | none => rfl
        | some t =>
          have := h t (by simp [Oper.looksAt, hg, ht])
          simp only [Option.bind_some, this]
      simp only [hy]

theorem countP_lt {p q : Nat → Bool} (h : ∀ x, q x = true → p x = true) {i : Nat} (hp : p i = true) (hq : q i = false) : ∀ l : List Nat, i ∈ l → l.countP q < l.countP p
  | [], hi => by cases hi
  | x :: l, hi => by
    have hle : ∀ l : List Nat, l.countP q ≤ l.countP p := fun l => List.countP_mono_left (fun x _ => h x)
    rcases List.mem_cons.1 hi with rfl | hi
    · rw [List.countP_cons_of_neg (by simp [hq]), List.countP_cons_of_pos hp]
      have := hle l; omega
    · have := countP_lt h hp hq l hi
      by_cases hqx : q x = true
      · rw [List.countP_cons_of_pos hqx, List.countP_cons_of_pos (h x hqx)]; omega
      · rw [List.countP_cons_of_neg hqx]
        by_cases hpx : p x = true
        · rw [List.countP_cons_of_pos hpx]; omega
        · rw [List.countP_cons_of_neg hpx]; omega

structure Inv (P : Program) (ops : Array Oper) (T : List (List Nat)) (S : List Sp) (w0 : World) (Q : Act → World → Prop) (a0 : Act) (L : Nat → Prop) (act : Nat → Value) (a : Act) (w : World) : Prop where
  grown : Below w0.heap.size w0 w
  closed : ∀ j, L j → ∀ i, ancT T j i = true → L i
  defers : a.defers = a0.defers
  tsize : a.tmps.size = a0.tmps.size
  off : ∀ t, (∀ j, L j → dstOf ops j ≠ some t) → a.tmps[t]? = a0.tmps[t]?
  on : ∀ j, L j → ∀ d, dstOf ops j = some d → d < a0.tmps.size → a.tmps[d]? = some (act j)
  cert : ∀ j, L j → ∀ V vals, Lex P ops T S w0 V Q a0 vals → (∀ i, ancT T j i = true → vals i = act i) → (shapeOf S j (act j) → V j = act j) → vals j = act j
  fcert : ∀ j, L j → ∀ V vals, Lex P ops T S w0 V Q a0 vals → (∀ i, ancT T j i = true → vals i = act i) → vals j = act j → factAt ops S a0 vals j w

theorem size_le_of_below {B : Nat} {w w' : World} (h : Below B w w') : w.heap.size ≤ w'.heap.size := h.size
section
variable {T : List (List Nat)} {S : List Sp} {w0 : World} {Q : Act → World → Prop} {a0 : Act}
theorem Inv.look {L : Nat → Prop} {act : Nat → Value} {a : Act} {w : World} (ok : RelOk ops T) (I : Inv P ops T S w0 Q a0 L act a w) {k : Nat} {o : Oper} (ho : ops[k]? = some o)
    (hL : ∀ j, ancT T k j = true → L j) {vals : Nat → Value} (hv : ∀ j, ancT T k j = true → vals j = act j) : ∀ t ∈ o.looksAt ops, a.tmps[t]? = (lexF ops a0 vals k).tmps[t]? := by
  intro t ht
  by_cases hj : ∃ j, dstOf ops j = some t
  · obtain ⟨j, hj⟩ := hj
    have hanc := ok.look k o ho j t hj ht
    have hjk := (ok.anc k o ho j hanc).1
    by_cases hs : t < a0.tmps.size
    · rw [I.on j (hL j hanc) t hj hs, lexF_on a0 vals t hs j hj k hjk ?_, hv j hanc]
      intro i h1 h2 hi
      have hio : i < ops.size := by have := (Array.getElem?_eq_some_iff.1 ho).1; omega
      exact ok.dst i ops[i] (Array.getElem?_eq_getElem hio) j t h1 hj (by simpa [dstOf, Array.getElem?_eq_getElem hio] using hi)
    · have hs' : a0.tmps.size ≤ t := Nat.le_of_not_lt hs
      rw [Array.getElem?_eq_none (by rw [I.tsize]; exact hs'), Array.getElem?_eq_none (by rw [lexF_size]; exact hs')]
  · rw [I.off t (fun j _ h => hj ⟨j, h⟩), lexF_off a0 vals t k (fun j _ h => hj ⟨j, h⟩)]
/-- The values of a walk in the order of the text are those that came. -/
theorem Inv.vals {L : Nat → Prop} {act : Nat → Value} {a : Act} {w : World} (ok : RelOk ops T) (I : Inv P ops T S w0 Q a0 L act a w) (hLn : ∀ j, L j → j < ops.size) {V vals : Nat → Value} (hx : Lex P ops T S w0 V Q a0 vals)
    (hV : ∀ j, L j → shapeOf S j (act j) → V j = act j) : ∀ n j, j < n → L j → vals j = act j
  | 0, _, h, _ => by omega
  | n + 1, j, h, hj => by
    have hjo := Array.getElem?_eq_getElem (hLn j hj)
    exact I.cert j hj V vals hx (fun i hi => Inv.vals ok I hLn hx hV n i (by have := (ok.anc j _ hjo i hi).1; omega) (I.closed j hj i hi)) (hV j hj)

theorem Inv.facts {L : Nat → Prop} {act : Nat → Value} {a : Act} {w : World} (ok : RelOk ops T) (I : Inv P ops T S w0 Q a0 L act a w) {k : Nat} {o : Oper} (ho : ops[k]? = some o) (hL : ∀ j, ancT T k j = true → L j) {V vals : Nat → Value}
    (hx : Lex P ops T S w0 V Q a0 vals) (hv : ∀ j, ancT T k j = true → vals j = act j) : ∀ j, ancT T k j = true → j < k → factAt ops S a0 vals j w :=
  fun j hj _ => I.fcert j (hL j hj) V vals hx (fun i hi => hv i ((ok.anc k o ho j hj).2.2 i hi)) (hv j hj)

/-- One more operation has come. -/
theorem Inv.more {L : Nat → Prop} {act : Nat → Value} {a : Act} {w w' : World} (ok : RelOk ops T) (I : Inv P ops T S w0 Q a0 L act a w) {k : Nat} {o : Oper} (ho : ops[k]? = some o) (hL : ∀ j, ancT T k j = true → L j) (hk : ¬ L k) (hLn : ∀ j, L j → j < ops.size)
    (hb : Below w.heap.size w w') (v : Value)
    (hc : ∀ V vals, Lex P ops T S w0 V Q a0 vals → (∀ i, ancT T k i = true → vals i = act i) → (shapeOf S k v → V k = v) → vals k = v)
    (hf : ∀ V vals, Lex P ops T S w0 V Q a0 vals → (∀ i, ancT T k i = true → vals i = act i) → vals k = v → factAt ops S a0 vals k w') :
    Inv P ops T S w0 Q a0 (fun j => L j ∨ j = k) (fun j => if j = k then v else act j) (a.put o.dst v) w' := by
  have hd : dstOf ops k = o.dst := by simp [dstOf, ho]
  have hne : ∀ j, L j → j ≠ k := fun j hj e => hk (e ▸ hj)
  have hdis : ∀ j, L j → ∀ d, dstOf ops j = some d → dstOf ops k ≠ some d := fun j hj d hjd hkd => by
    obtain ⟨oj, hjo⟩ : ∃ oj, ops[j]? = some oj := ⟨_, Array.getElem?_eq_getElem (hLn j hj)⟩
    have hjd' : oj.dst = some d := by simpa [dstOf, hjo] using hjd
    rcases Nat.lt_or_gt_of_ne (hne j hj) with h | h
    · exact ok.dst k o ho j d h hjd (by rw [← hd]; exact hkd)
    · exact ok.dst j _ hjo k d h hkd hjd'
  have hback : ∀ j, L j → ∀ vals : Nat → Value, (∀ i, ancT T j i = true → vals i = if i = k then v else act i) → ∀ i, ancT T j i = true → vals i = act i := fun j hj vals h i hi => by
    rw [h i hi, if_neg (hne i (I.closed j hj i hi))]
  have hkk : ∀ vals : Nat → Value, (∀ i, ancT T k i = true → vals i = if i = k then v else act i) → ∀ i, ancT T k i = true → vals i = act i := fun vals h i hi => by
    rw [h i hi, if_neg (hne i (hL i hi))]
  refine ⟨I.grown.trans (hb.mono I.grown.size), ?_, by rw [put_defers]; exact I.defers, by rw [put_size]; exact I.tsize, ?_, ?_, ?_, ?_⟩
  · rintro j (hj | rfl) i hi
    · exact .inl (I.closed j hj i hi)
    · exact .inl (hL i hi)
  · intro t ht
    rw [put_ne _ _ _ _ (by rw [← hd]; exact ht k (.inr rfl))]
    exact I.off t fun j hj => ht j (.inl hj)
  · rintro j (hj | rfl) d hjd hs
    · rw [put_ne _ _ _ _ (by rw [← hd]; exact hdis j hj d hjd), I.on j hj d hjd hs, if_neg (hne j hj)]
    · rw [if_pos rfl]
      rw [hd] at hjd
      rw [hjd]
      exact put_eq _ _ _ (by rw [I.tsize]; exact hs)
  · rintro j (hj | rfl) V vals hx hv hV
    · rw [if_neg (hne j hj)] at hV ⊢
      exact I.cert j hj V vals hx (hback j hj vals hv) hV
    · rw [if_pos rfl] at hV ⊢
      exact hc V vals hx (hkk vals hv) hV
  · rintro j (hj | rfl) V vals hx hv hvj
    · rw [if_neg (hne j hj)] at hvj
      intro s o' hs ho' hw
      exact s.keeps _ _ _ (I.fcert j hj V vals hx (hback j hj vals hv) hvj s o' hs ho' hw) hb
    · rw [if_pos rfl] at hvj
      exact hf V vals hx (hkk vals hv) hvj

theorem listed_set {listed : Array Bool} {i j : Nat} (h : i < listed.size) : (listed.setIfInBounds i true).getD j false = true ↔ listed.getD j false = true ∨ j = i := by
  by_cases e : j = i
  · subst e
    simp [Array.getD_eq_getD_getElem?, Array.getElem?_setIfInBounds_self_of_lt h]
  · have h1 : (listed.setIfInBounds i true).getD j false = listed.getD j false := getD_set_ne false (fun h => e h.symm)
    rw [h1]
    simp [e]
theorem all_listed (ok : RelOk ops T) {listed : Array Bool} (hs : listed.size = ops.size) (h : Region.ready .any ops listed = []) : ∀ n j, j < n → j < ops.size → listed.getD j false = true
  | 0, _, h, _ => by omega
  | n + 1, j, hj, hjn => by
    cases hd : listed.getD j false with
    | true => rfl
    | false =>
      have ho := Array.getElem?_eq_getElem hjn
      have : j ∈ Region.ready .any ops listed := mem_ready.2 ⟨by
        simp only [Array.getD_eq_getD_getElem?] at *
        rw [Array.getElem?_eq_getElem (by omega)] at *
        simpa using hd, _, ho, fun e he hb => by
        have := (ok.edge j _ ho e he hb).1
        exact all_listed ok hs h n e.on (by omega) (by omega)⟩
      rw [h] at this; cases this

theorem wpOp_skip {Q : Exit → Act → World → Prop} {K : Act → World → Prop} {i : Nat} {o : Oper} {a : Act} {w : World} (ho : ops[i]? = some o) (hw : Region.wanted o (yielded ops a.tmps) = false) (h : K (a.put o.dst undef) w) : wpOp P ops Q i K a w := by
  unfold wpOp; simp only [ho, hw]; exact h
theorem wpOp_want {Q : Exit → Act → World → Prop} {K : Act → World → Prop} {i : Nat} {o : Oper} {a : Act} {w : World} (ho : ops[i]? = some o) (hw : Region.wanted o (yielded ops a.tmps) = true) (h : o.wp P a w K Q) : wpOp P ops Q i K a w := by
  unfold wpOp; simp only [ho, hw, if_true]; exact .inl h

theorem any_of_lex {Qe : Exit → Act → World → Prop} (ok : RelOk ops T) (hin : ∀ V : Nat → Value, (∀ k, shapeOf S k (V k)) → ∃ vals, Lex P ops T S w0 V (Qe .normal) a0 vals) :
    ∀ (fuel : Nat) (listed : Array Bool) (act : Nat → Value) (a : Act) (w : World), listed.size = ops.size → (List.range ops.size).countP (fun i => !listed.getD i false) ≤ fuel →
    Inv P ops T S w0 (Qe .normal) a0 (fun j => listed.getD j false = true) act a w → wpAny P .any ops Qe fuel listed a w := by
  have pick : ∀ k, ∃ v, shapeOf S k v := fun k => by
    unfold shapeOf
    cases spOf S k with
    | some s => exact s.inh
    | none => exact ⟨undef, trivial⟩
  -- a walk in the order of the text that fits what has come
  have fit : ∀ (listed : Array Bool) (act : Nat → Value), ∃ V vals, Lex P ops T S w0 V (Qe .normal) a0 vals ∧ ∀ j, listed.getD j false = true → shapeOf S j (act j) → V j = act j := fun listed act => by
    have hV : ∀ k, ∃ v, shapeOf S k v ∧ (listed.getD k false = true → shapeOf S k (act k) → v = act k) := fun k => by
      by_cases h : listed.getD k false = true ∧ shapeOf S k (act k)
      · exact ⟨_, h.2, fun _ _ => rfl⟩
      · obtain ⟨v, hv⟩ := pick k
        exact ⟨v, hv, fun h1 h2 => absurd ⟨h1, h2⟩ h⟩
    refine ⟨fun k => Classical.choose (hV k), ?_⟩
    obtain ⟨vals, hx⟩ := hin (fun k => Classical.choose (hV k)) (fun k => (Classical.choose_spec (hV k)).1)
    exact ⟨vals, hx, fun j => (Classical.choose_spec (hV j)).2⟩
  have hlt : ∀ (listed : Array Bool), listed.size = ops.size → ∀ j, listed.getD j false = true → j < ops.size := fun listed hs j hj => by
    rcases Nat.lt_or_ge j listed.size with h | h
    · omega
    · simp [Array.getD_eq_getD_getElem?, Array.getElem?_eq_none h] at hj
  have done : ∀ (listed : Array Bool) (act : Nat → Value) (a : Act) (w : World), listed.size = ops.size → Inv P ops T S w0 (Qe .normal) a0 (fun j => listed.getD j false = true) act a w → (∀ j, j < ops.size → listed.getD j false = true) → Qe .normal a w := by
    intro listed act a w hs I hall
    obtain ⟨V, vals, hx, hV⟩ := fit listed act
    have hv : ∀ j, j < ops.size → vals j = act j := fun j hj => Inv.vals ok I (hlt listed hs) hx hV ops.size j hj (hall j hj)
    have hf : ∀ j, j < ops.size → factAt ops S a0 vals j w := fun j hj =>
      I.fcert j (hall j hj) V vals hx (fun i hi => hv i (hlt listed hs i (I.closed j (hall j hj) i hi))) (hv j hj)
    have := hx.last w I.grown hf
    have ha : lexF ops a0 vals ops.size = a := by
      have h1 : (lexF ops a0 vals ops.size).defers = a.defers := by rw [lexF_defers, I.defers]
      have h2 : (lexF ops a0 vals ops.size).tmps = a.tmps := by
        apply Array.ext_getElem?
        intro t
        by_cases hj : ∃ j, dstOf ops j = some t
        · obtain ⟨j, hj⟩ := hj
          have hjn : j < ops.size := by
            rcases Nat.lt_or_ge j ops.size with h | h
            · exact h
            · unfold dstOf at hj; rw [Array.getElem?_eq_none h] at hj; simp at hj
          by_cases hts : t < a0.tmps.size
          · rw [I.on j (hall j hjn) t hj hts, lexF_on a0 vals t hts j hj ops.size hjn ?_, hv j hjn]
            intro i h1 h2 hi
            exact ok.dst i ops[i] (Array.getElem?_eq_getElem h2) j t h1 hj (by simpa [dstOf, Array.getElem?_eq_getElem h2] using hi)
          · have hts' : a0.tmps.size ≤ t := Nat.le_of_not_lt hts
            rw [Array.getElem?_eq_none (by rw [lexF_size]; exact hts'), Array.getElem?_eq_none (by rw [I.tsize]; exact hts')]
        · rw [I.off t (fun j _ h => hj ⟨j, h⟩), lexF_off a0 vals t _ (fun j _ h => hj ⟨j, h⟩)]
      cases h : lexF ops a0 vals ops.size
      cases a
      rw [h] at h1 h2
      simp only at h1 h2
      rw [h1, h2]
    rw [ha] at this
    exact this
  have stp : ∀ (listed : Array Bool) (act : Nat → Value) (a : Act) (w : World), listed.size = ops.size → Inv P ops T S w0 (Qe .normal) a0 (fun j => listed.getD j false = true) act a w → ∀ i ∈ Region.ready .any ops listed, ∀ K : Act → World → Prop,
      (∀ act' a' w', Inv P ops T S w0 (Qe .normal) a0 (fun j => (listed.setIfInBounds i true).getD j false = true) act' a' w' → K a' w') → wpOp P ops Qe i K a w := by
    intro listed act a w hs I i hi K hK
    obtain ⟨hnl, o, ho, hdeps⟩ := mem_ready.1 hi
    have hin' : i < ops.size := (Array.getElem?_eq_some_iff.1 ho).1
    have hnL : ¬ (listed.getD i false = true) := by
      intro h
      have : listed.getD i true = listed.getD i false := by
        simp only [Array.getD_eq_getD_getElem?]
        rw [Array.getElem?_eq_getElem (by omega)]; rfl
      rw [this, h] at hnl; cases hnl
    have hL : ∀ j, ancT T i j = true → listed.getD j false = true := fun j hj => by
      obtain ⟨_, ⟨e, he, hb, h⟩, _⟩ := ok.anc i o ho j hj
      rcases h with rfl | h
      · exact hdeps e he hb
      · exact I.closed e.on (hdeps e he hb) j h
    obtain ⟨V, vals, hx, hV⟩ := fit listed act
    have hv : ∀ j, ancT T i j = true → vals j = act j := fun j hj => Inv.vals ok I (hlt listed hs) hx hV ops.size j (hlt listed hs j (hL j hj)) (hL j hj)
    have hsel := fun cs b => ok.sel i o cs b ho
    have agree : ∀ vals' : Nat → Value, (∀ j, ancT T i j = true → vals' j = act j) → execOp a.eval o = execOp (lexF ops a0 vals' i).eval o ∧ Region.wanted o (yielded ops a.tmps) = wantAt ops a0 vals' i o := fun vals' hv' =>
      same_op hsel (I.look ok ho hL hv')
    have hset : ∀ act' a' w', Inv P ops T S w0 (Qe .normal) a0 (fun j => listed.getD j false = true ∨ j = i) act' a' w' → K a' w' := fun act' a' w' I' => by
      refine hK act' a' w' ?_
      have : (fun j => (listed.setIfInBounds i true).getD j false = true) = (fun j => listed.getD j false = true ∨ j = i) := funext fun j => propext (listed_set (by omega))
      rw [this]; exact I'
    obtain ⟨s1, s2⟩ := hx.step i o ho
    obtain ⟨he, hwe⟩ := agree vals hv
    have hfacts := I.facts ok ho hL hx hv
    cases hw : wantAt ops a0 vals i o with
    | false =>
      refine wpOp_skip ho (by rw [hwe, hw]) ?_
      refine hset _ _ _ (I.more ok ho hL hnL (hlt listed hs) (Below.refl _ _) undef ?_ ?_)
      · intro V' vals' hx' hv' _
        exact (hx'.step i o ho).1 (by rw [← (agree vals' hv').2, hwe, hw])
      · intro V' vals' hx' hv' _ s o' _ ho' hw'
        rw [ho] at ho'; cases ho'
        rw [← (agree vals' hv').2, hwe, hw] at hw'; cases hw'
    | true =>
      refine wpOp_want ho (by rw [hwe, hw]) ?_
      have s3 := s2 hw
      cases hsp : spOf S i with
      | some s =>
        rw [hsp] at s3
        obtain ⟨hvi, hbec⟩ := s3
        have hb := hbec w I.grown hfacts
        have fin : ∀ v w', Below w.heap.size w w' → s.shape v ∧ s.fact v w' → K (a.put o.dst v) w' := fun v w' hbw hsf => by
          refine hset _ _ _ (I.more ok ho hL hnL (hlt listed hs) hbw v ?_ ?_)
          · intro V' vals' hx' hv' hVs
            have h5 := (hx'.step i o ho).2 (by rw [← (agree vals' hv').2, hwe, hw])
            rw [hsp] at h5
            rw [h5.1]
            exact hVs (by unfold shapeOf; rw [hsp]; exact hsf.1)
          · intro V' vals' hx' hv' hvk s' o' hs' _ _
            rw [hsp] at hs'; cases hs'
            rw [hvk]; exact hsf.2
        unfold becomes at hb
        unfold Oper.wp
        rw [he]
        generalize (execOp (lexF ops a0 vals i).eval o).run P w = r at *
        cases r with
        | halt x w' => exact hb.elim
        | ok n w' =>
          cases n <;> first | exact fin _ _ hb.1 hb.2 | (simp only at hb; done) | skip
          all_goals first
            | (refine Calls.mono hb ?_
               rintro e w'' ⟨v, rfl, h1, h2⟩
               exact fin _ _ h1 h2)
            | exact hb.elim
      | none =>
        rw [hsp] at s3
        have hsure := s3 w I.grown hfacts
        have fin : K (a.put o.dst (vals i)) w := by
          refine hset _ _ _ (I.more ok ho hL hnL (hlt listed hs) (Below.refl _ _) (vals i) ?_ ?_)
          · intro V' vals' hx' hv' _
            have h5 := (hx'.step i o ho).2 (by rw [← (agree vals' hv').2, hwe, hw])
            rw [hsp] at h5
            have h6 := h5 w I.grown (I.facts ok ho hL hx' hv')
            have h7 := (agree vals' hv').1
            rw [he] at h7
            unfold sureAt at hsure h6
            rw [← h7] at h6
            rcases hsure with h | ⟨h, h'⟩ <;> rcases h6 with g | ⟨g, g'⟩
            · rw [h] at g; injection g with g _; injection g with g; exact g.symm
            · rw [h] at g; cases g
            · rw [h] at g; cases g
            · rw [h', g']
          · intro V' vals' hx' hv' _ s' o' hs' _ _
            rw [hsp] at hs'; cases hs'
        unfold Oper.wp
        rw [he]
        unfold sureAt at hsure
        rcases hsure with h | ⟨h, h'⟩
        · rw [h]; exact fin
        · rw [h]; rw [h'] at fin; exact fin
  intro fuel
  induction fuel with
  | zero =>
    intro listed act a w hs hc I
    have hall : ∀ j, j < ops.size → listed.getD j false = true := fun j hj => by
      have h0 : (List.range ops.size).countP (fun i => !listed.getD i false) = 0 := by omega
      have := List.countP_eq_zero.1 h0 j (List.mem_range.2 hj)
      simpa using this
    refine ⟨?_, done listed act a w hs I hall⟩
    cases hr : Region.ready .any ops listed with
    | nil => rfl
    | cons x l =>
      have hx : x ∈ Region.ready .any ops listed := by rw [hr]; exact List.mem_cons_self
      obtain ⟨h1, o, ho, _⟩ := mem_ready.1 hx
      have hxn : x < ops.size := (Array.getElem?_eq_some_iff.1 ho).1
      have h2 := hall x hxn
      simp only [Array.getD_eq_getD_getElem?] at h1 h2
      rw [Array.getElem?_eq_getElem (by omega)] at h1 h2
      simp only [Option.getD_some] at h1 h2
      rw [h1] at h2; cases h2
  | succ fuel ih =>
    intro listed act a w hs hc I
    refine ⟨fun hr => done listed act a w hs I (fun j hj => all_listed ok hs hr ops.size j hj hj), fun i hi => ?_⟩
    obtain ⟨hnl, o, ho, _⟩ := mem_ready.1 hi
    have hin' : i < ops.size := (Array.getElem?_eq_some_iff.1 ho).1
    refine stp listed act a w hs I i hi _ fun act' a' w' I' => ih _ act' a' w' (by simpa using hs) ?_ I'
    have hfi : listed.getD i false = false := by
      simp only [Array.getD_eq_getD_getElem?] at *
      rw [Array.getElem?_eq_getElem (by omega)] at *
      simpa using hnl
    have := countP_lt (p := fun j => !listed.getD j false) (q := fun j => !(listed.setIfInBounds i true).getD j false) (i := i) (fun x hx => by
      cases h : listed.getD x false with
      | false => rfl
      | true =>
        have h9 := (listed_set (listed := listed) (i := i) (j := x) (by omega)).2 (.inl h)
        simp [h9] at hx) (by simp [hfi]) (by
        have h9 := (listed_set (listed := listed) (i := i) (j := i) (by omega)).2 (.inr rfl)
        simp [h9]) (List.range ops.size) (List.mem_range.2 hin')
    omega
end

/-- THE RULE. -/
theorem wp_region_rel {id : Nat} {Q : Exit → Act → World → Prop} {a : Act} {w : World} {l : List Oper} (S : List Sp) (T : List (List Nat)) (hm : P.follows .mixedOrders = true) (hB : relT l.toArray T = true)
    (h : ∀ V : Nat → Value, (∀ k, shapeOf S k (V k)) → wpRel P l.toArray T S w V (Q .normal) l 0 [] a) : (Code.region id l.toArray true).wp P Q a w := by
  have ok := relOk_of hB
  refine wp_region_any hm (any_of_lex (S := S) (w0 := w) (a0 := a) ok (fun V hV => ?_) _ _ (fun _ => undef) _ _ (by simp) (by have := List.countP_le_length (p := fun i => !(Array.replicate l.toArray.size false).getD i false) (l := List.range l.toArray.size); simpa using this) ?_)
  · exact lex_of_rel l 0 [] (fun _ => undef) (by simp) (by simp) (fun p hp => by cases hp) (fun j o hj => by omega) (h V hV)
  · have hno : ∀ j, ¬ ((Array.replicate l.toArray.size false).getD j false = true) := fun j hj => by
      simp only [Array.getD_eq_getD_getElem?, Array.getElem?_replicate] at hj
      split at hj <;> simp at hj
    exact ⟨⟨rfl, rfl, rfl, Nat.le_refl _, fun _ _ => rfl⟩, fun j hj => absurd hj (hno j), rfl, rfl, fun _ _ => rfl, fun j hj => absurd hj (hno j), fun j hj => absurd hj (hno j), fun j hj => absurd hj (hno j)⟩
end
end Go.Proofs.Ytglnnplijienbaa
