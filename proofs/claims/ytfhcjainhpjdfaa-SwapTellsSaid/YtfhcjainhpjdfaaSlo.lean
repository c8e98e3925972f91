/- api.Slot: its cells, its contents; arguments opened. -/
import Derived.Test.YtfhcjainhpjdfaaSu
import Derived.Test.YtfhcjainhpjdfaaBig
import Derived.Test.YtfhcjainhpjdfaaOpen
namespace Go.Proofs.Ytfhcjainhpjdfaa
open Go.ChangeShapes Go.WideShapes Go.ChangeAt Go.RowKit Go.Joins
set_option linter.unusedVariables false
/-- A slot as it lies in memory. -/
structure Slv where
  r : Int
  bA : Option Addr
  bn : Nat
  bc : Nat
  tA : Option Addr
  tn : Nat
  tc : Nat
instance : Inhabited Slv := ⟨⟨0, none, 0, 0, none, 0, 0⟩⟩
/-- What is in a slot. -/
structure Slo where
  r : Int
  b : List Int
  t : List Int
instance : Inhabited Slo := ⟨⟨0, [], []⟩⟩
def fS (x : Slv) : List Value := [.int .i64 x.r, .slice x.bA x.bn x.bc, .slice x.tA x.tn x.tc]
theorem fS_len (x : Slv) : (fS x).length = 3 := rfl
theorem fS_one1 (x : Slv) : ∀ u ∈ fS x, u.oneCell' = true := by
  intro u hu
  simp [fS] at hu
  rcases hu with rfl | rfl | rfl <;> rfl
theorem fS_one (xs : List Slv) : ∀ u ∈ xs.flatMap fS, u.oneCell' = true := by
  intro u hu
  obtain ⟨y, _, hy⟩ := List.mem_flatMap.1 hu
  exact fS_one1 y u hy
theorem info_S : (Try.prog.info? 52).map (fun i => (i.zero, i.size, i.bytes)) = some (some (.agg #[.int .i64 0, .slice none 0 0, .slice none 0 0]), 3, 56) := by kernel_rfl
/-- The slot x holds s; its slices are as long as they may be. -/
structure SlR (w : World) (B : Nat) (x : Slv) (s : Slo) : Prop where
  r : x.r = s.r
  b : Row .u8 w B x.bA x.bn s.b
  t : Row .i64 w B x.tA x.tn s.t
  bn : x.bn ≤ 140737488351232
  tn : x.tn ≤ 17592186043904
  i : I64 s.r
theorem Row.on {k : IntKind} {w w' : World} {B : Nat} {A : Option Addr} {n : Nat} {zs : List Int} (h : Row k w B A n zs) (hb : Below w.heap.size w w') (hB : B ≤ w.heap.size) : Row k w' w'.heap.size A n zs := by
  have h2 := h.below (hb.mono hB)
  exact ⟨h2.1, h2.2.1, fun hn => by obtain ⟨b, off, e, hb2, hc⟩ := h2.2.2 hn; exact ⟨b, off, e, by have := hb.size; omega, hc⟩⟩
theorem Row.any2 {k : IntKind} {w : World} {B B' : Nat} {A : Option Addr} {n : Nat} {zs : List Int} (h : Row k w B A n zs) (hB : B ≤ B') : Row k w B' A n zs :=
  ⟨h.1, h.2.1, fun hn => by obtain ⟨b, off, e, hb2, hc⟩ := h.2.2 hn; exact ⟨b, off, e, by omega, hc⟩⟩
theorem SlR.on {w w' : World} {B : Nat} {x : Slv} {s : Slo} (h : SlR w B x s) (hb : Below w.heap.size w w') (hB : B ≤ w.heap.size) : SlR w' w'.heap.size x s := ⟨h.r, h.b.on hb hB, h.t.on hb hB, h.bn, h.tn, h.i⟩
theorem SlR.below {w w' : World} {B : Nat} {x : Slv} {s : Slo} (h : SlR w B x s) (hb : Below B w w') : SlR w' B x s := ⟨h.r, h.b.below hb, h.t.below hb, h.bn, h.tn, h.i⟩
theorem SlR.any {w : World} {B B' : Nat} {x : Slv} {s : Slo} (h : SlR w B x s) (hB : B ≤ B') : SlR w B' x s := ⟨h.r, h.b.any2 hB, h.t.any2 hB, h.bn, h.tn, h.i⟩
/-- A row of slots holds these. -/
def Sls (w : World) (B : Nat) (xs : List Slv) (ss : List Slo) : Prop := xs.length = ss.length ∧ ∀ (i : Nat) (x : Slv) (s : Slo), xs[i]? = some x → ss[i]? = some s → SlR w B x s
theorem Sls.on {w w' : World} {B : Nat} {xs : List Slv} {ss : List Slo} (h : Sls w B xs ss) (hb : Below w.heap.size w w') (hB : B ≤ w.heap.size) : Sls w' w'.heap.size xs ss := ⟨h.1, fun i x s hx hs => (h.2 i x s hx hs).on hb hB⟩
theorem Sls.below {w w' : World} {B : Nat} {xs : List Slv} {ss : List Slo} (h : Sls w B xs ss) (hb : Below B w w') : Sls w' B xs ss := ⟨h.1, fun i x s hx hs => (h.2 i x s hx hs).below hb⟩
theorem Sls.any {w : World} {B B' : Nat} {xs : List Slv} {ss : List Slo} (h : Sls w B xs ss) (hB : B ≤ B') : Sls w B' xs ss := ⟨h.1, fun i x s hx hs => (h.2 i x s hx hs).any hB⟩
theorem Sls.nil {w : World} {B : Nat} : Sls w B [] [] := ⟨rfl, fun i x s hx => by simp at hx⟩
theorem Sls.set {w : World} {B i : Nat} {xs : List Slv} {ss : List Slo} {x : Slv} {s : Slo} (h : Sls w B xs ss) (hx : SlR w B x s) : Sls w B (xs.set i x) (ss.set i s) := by
  refine ⟨by simp [h.1], fun j y t hy ht => ?_⟩
  by_cases e : i = j
  · subst e
    have hl : i < xs.length := by have := (List.getElem?_eq_some_iff.1 hy).1; simpa using this
    rw [List.getElem?_set_self hl] at hy
    rw [List.getElem?_set_self (by rw [← h.1]; exact hl)] at ht
    cases hy; cases ht; exact hx
  · rw [List.getElem?_set_ne e] at hy ht
    exact h.2 j y t hy ht
theorem Sls.get {w : World} {B i : Nat} {xs : List Slv} {ss : List Slo} (h : Sls w B xs ss) (hi : i < xs.length) : ∃ x s, xs[i]? = some x ∧ ss[i]? = some s ∧ SlR w B x s :=
  ⟨xs[i], ss[i]'(by rw [← h.1]; exact hi), List.getElem?_eq_getElem _, List.getElem?_eq_getElem _, h.2 i _ _ (List.getElem?_eq_getElem _) (List.getElem?_eq_getElem _)⟩
theorem Sls.take {w : World} {B k : Nat} {xs : List Slv} {ss : List Slo} (h : Sls w B xs ss) : Sls w B (xs.take k) (ss.take k) := by
  refine ⟨by simp [h.1], fun i x s hx hs => ?_⟩
  rw [List.getElem?_take] at hx hs
  split at hx
  · rename_i hlt
    rw [if_pos hlt] at hs
    exact h.2 i x s hx hs
  · cases hx
theorem Sls.drop {w : World} {B k : Nat} {xs : List Slv} {ss : List Slo} (h : Sls w B xs ss) : Sls w B (xs.drop k) (ss.drop k) := by
  refine ⟨by simp [h.1], fun i x s hx hs => ?_⟩
  rw [List.getElem?_drop] at hx hs
  exact h.2 _ x s hx hs

section
variable {H : Type} {enc : TypeId × Value → H} {w : World} {base : Nat} {held : Bool}
/-- A slice of structs as the list of its elements, with what the form's reach says of each. -/
theorem row_of_structs_w {P : Program} {α : Type} [Inhabited α] (f : α → List Value) (R : α → Prop) {t e : TypeId} {sz : Nat} {A : Option Addr} {n c : Nat} {d : DataW H} {p : List MemPlace} (ht : P.underlying t = some (.slice e)) (hC : P.cellsOf e = sz) (hs : 0 < sz)
    (hel : ∀ fuel cs x, DataW.trod enc P w base (fun _ => true) held fuel e cs = some x → cs.length = sz → (∀ m ∈ x.1.weights P e, m ≤ reachBytes) → ∃ a : α, cs = f a ∧ R a) (hf : ∀ a, (f a).length = sz)
    (h : DataW.Trod enc P w base (fun _ => true) held t (.slice A n c) d p) (hw : ∀ m ∈ d.weights P t, m ≤ reachBytes) : ∃ xs, Rw f sz w w.heap.size A n xs ∧ (∀ x ∈ xs, R x) ∧ n ≤ c ∧ c ≤ maxLen := by
  obtain ⟨fuel, hfu⟩ := h
  rcases Go.Deep.open_slice ht hfu with ⟨hcs, _⟩ | ⟨a, len, cap, m, n', D, Pl, hcs, hb, hl, hm, hmm, hd, hi⟩
  · simp [Value.cells] at hcs
    obtain ⟨rfl, rfl, rfl⟩ := hcs
    exact ⟨[], Rw.nil, by simp, by omega, by simp⟩
  · simp [Value.cells] at hcs
    obtain ⟨rfl, rfl, rfl⟩ := hcs
    simp only [if_true] at hmm
    subst hmm
    rw [hC] at hi
    simp only [Prod.mk.injEq] at hd
    have hwd : ∀ i, i < n → ∀ k ∈ (D i).weights P e, k ≤ reachBytes := fun i hin k hk => by
      refine hw k ?_
      rw [hd.1]
      simp only [DataW.weights, ht, List.mem_cons, List.mem_append]
      refine .inr (.inl ?_)
      have : ∀ (l : List (DataW H)) (x : DataW H), x ∈ l → ∀ k ∈ x.weights P e, k ∈ DataW.weightsAll P e l := fun l => by
        induction l with
        | nil => intro x hx; cases hx
        | cons y r ih =>
          intro x hx k hk
          simp only [DataW.weightsAll, List.mem_append]
          cases List.mem_cons.1 hx with
          | inl e => subst e; exact .inl hk
          | inr e => exact .inr (ih x e k hk)
      exact this _ (D i) (List.mem_map.2 ⟨i, List.mem_range.2 hin, rfl⟩) k hk
    obtain ⟨X, hX⟩ := Go.Deep.choose_lt (α := α) (n := n) (p := fun i x => w.cells? base (a.add (i * sz)) sz = some (f x) ∧ R x) (fun i hin => by
      obtain ⟨cs', h1, h2⟩ := hi i (by omega)
      obtain ⟨_, hcl, _⟩ := World.cells?_some h1
      obtain ⟨x, rfl, hr⟩ := hel _ _ _ h2 hcl (hwd i hin)
      exact ⟨x, h1, hr⟩)
    refine ⟨(List.range n).map X, ⟨by simp, by omega, fun hn => ?_⟩, fun x hx => ?_, hl, hm⟩
    · obtain ⟨b, off, spot⟩ := a
      have hcell : ∀ i, i < n → ∀ j, j < sz → w.cell? ((Addr.add ⟨b, off, spot⟩ (i * sz)).add j) = (f (X i))[j]? := fun i him j hj => by
        obtain ⟨_, _, hat⟩ := World.cells?_some (hX i him).1
        exact hat j hj
      have h00 := hcell 0 (by omega) 0 hs
      have hf0 : (f (X 0))[0]? = some ((f (X 0))[0]'(by rw [hf]; exact hs)) := List.getElem?_eq_getElem _
      rw [hf0] at h00
      have hspot : spot = none := by simpa [Addr.add] using World.cell?_spot h00
      subst hspot
      rw [Go.Deep.add_add, addr_add] at h00
      refine ⟨b, off, rfl, ?_, fun i x hx j v hv => ?_⟩
      · rw [show off + (0 * sz + 0) = off by omega] at h00; exact lt_of_cell h00
      · have hi' : i < n := by have := (List.getElem?_eq_some_iff.1 hx).1; simpa using this
        have hj : j < sz := by have := (List.getElem?_eq_some_iff.1 hv).1; rwa [hf] at this
        have := hcell i (by omega) j hj
        rw [Go.Deep.add_add, addr_add] at this
        simp [hi'] at hx
        subst hx
        rw [show off + i * sz + j = off + (i * sz + j) by omega, this, hv]
    · obtain ⟨i, hi', rfl⟩ := List.mem_map.1 hx
      exact (hX i (by have := List.mem_range.1 hi'; omega)).2
theorem sl_row {P : Program} {t e : TypeId} {k : IntKind} {fuel : Nat} {v : Value} {x : DataW H × List MemPlace} (ht : P.underlying t = some (.slice e)) (he : P.underlying e = some (.int k)) (hC : P.cellsOf e = 1)
    (h : DataW.trod enc P w base (fun _ => true) held fuel t [v] = some x) (hw : ∀ m ∈ x.1.weights P t, m ≤ reachBytes) : ∃ A n c zs, v = .slice A n c ∧ Row k w w.heap.size A n zs ∧ n * P.bytesOf e ≤ reachBytes := by
  obtain ⟨A, n, c, rfl⟩ : ∃ A n c, v = .slice A n c := by
    rcases DataW.trod_slice ht h with ⟨h1, _⟩ | ⟨a, len, cap, _, _, _, _, h1, _⟩
    · exact ⟨none, 0, 0, by simpa using h1⟩
    · exact ⟨some a, len, cap, by simpa using h1⟩
  have hT : DataW.Trod enc P w base (fun _ => true) held t (.slice A n c) x.1 x.2 := ⟨fuel, by simpa [Value.cells] using h⟩
  obtain ⟨zs, hr, _, hnc, _⟩ := row_of_int ht he hC hT
  refine ⟨A, n, c, zs, rfl, hr, ?_⟩
  rcases dbig_of ht hT with ⟨_, rfl⟩ | ⟨elems, spare, hx, rfl⟩
  · have : n = 0 := by omega
    subst this; simp
  · have := hw ((elems.length + spare.length) * P.bytesOf e) (by rw [hx]; simp [DataW.weights, ht])
    exact Nat.le_trans (Nat.mul_le_mul_right _ hnc) this
theorem slo_cells {fuel : Nat} {cs : List Value} {x : DataW H × List MemPlace} (h : DataW.trod enc Try.prog w base (fun _ => true) held fuel 52 cs = some x) (hl : cs.length = 3) (hw : ∀ m ∈ x.1.weights Try.prog 52, m ≤ reachBytes) : ∃ a : Slv, cs = fS a ∧ I64 a.r ∧ ∃ s, SlR w w.heap.size a s := by
  match cs, hl with
  | [v0, v1, v2], _ =>
    obtain ⟨ys, n, _, hx, _, hyl, hf⟩ := DataW.trod_struct Try.underlying52 h
    match ys, hyl with
    | [y0, y1, y2], _ =>
      have f0 := hf 0 _ rfl
      have f1 := hf 1 _ rfl
      have f2 := hf 2 _ rfl
      simp only [List.getElem?_cons_zero] at f0
      simp only [List.getElem?_cons_succ, List.getElem?_cons_zero] at f1
      simp only [List.getElem?_cons_succ, List.getElem?_cons_zero] at f2
      subst hx
      have w1 : ∀ m ∈ y1.1.weights Try.prog 37, m ≤ reachBytes := fun m hm => hw m (by simp only [DataW.weights, Try.underlying52]; simp [DataW.weightsEach, hm])
      have w2 : ∀ m ∈ y2.1.weights Try.prog 38, m ≤ reachBytes := fun m hm => hw m (by simp only [DataW.weights, Try.underlying52]; simp [DataW.weightsEach, hm])
      obtain ⟨a, e0, _, wf0⟩ := DataW.trod_int Try.underlying3 f0
      obtain ⟨bA, bn, bc, bs, e1, r1, b1⟩ := sl_row Try.underlying37 Try.underlying5 (by kernel_rfl) f1 w1
      obtain ⟨tA, tn, tc, ts, e2, r2, b2⟩ := sl_row Try.underlying38 Try.underlying3 (by kernel_rfl) f2 w2
      cases e0; subst e1 e2
      rw [show Try.prog.bytesOf 5 = 1 from by kernel_rfl] at b1
      rw [show Try.prog.bytesOf 3 = 8 from by kernel_rfl] at b2
      simp only [reachBytes] at b1 b2
      exact ⟨⟨a, bA, bn, bc, tA, tn, tc⟩, rfl, i64_of_wf wf0, ⟨a, bs, ts⟩, rfl, r1, r2, by show bn ≤ _; omega, by show tn ≤ _; omega, i64_of_wf wf0⟩
theorem sls_of_all {xs : List Slv} (h : ∀ x ∈ xs, I64 x.r ∧ ∃ s, SlR w w.heap.size x s) : ∃ ss, Sls w w.heap.size xs ss := by
  induction xs with
  | nil => exact ⟨[], Sls.nil⟩
  | cons x xs ih =>
    obtain ⟨ss, hss⟩ := ih fun y hy => h y (List.mem_cons_of_mem _ hy)
    obtain ⟨_, s, hs⟩ := h x List.mem_cons_self
    refine ⟨s :: ss, by simp [hss.1], fun i y t hy ht => ?_⟩
    cases i with
    | zero => simp at hy ht; subst hy ht; exact hs
    | succ i => exact hss.2 i y t (by simpa using hy) (by simpa using ht)
theorem slo_of {A : Option Addr} {n c : Nat} {d : DataW H} {p : List MemPlace} (h : DataW.Trod enc Try.prog w base (fun _ => true) held 36 (.slice A n c) d p) (hw : ∀ m ∈ d.weights Try.prog 36, m ≤ reachBytes) : ∃ xs, Rw fS 3 w w.heap.size A n xs ∧ (∃ ss, Sls w w.heap.size xs ss) ∧ n ≤ c ∧ c ≤ maxLen := by
  obtain ⟨xs, h1, h2, h3, h4⟩ := row_of_structs_w fS (fun a => I64 a.r ∧ ∃ s, SlR w w.heap.size a s) Try.underlying36 (by kernel_rfl) (by decide) (fun _ _ _ h hl hw => slo_cells h hl hw) fS_len h hw
  exact ⟨xs, h1, sls_of_all h2, h3, h4⟩
theorem w_of {P : Program} {ts : List TypeId} {ds : List (DataW H)} {t : TypeId} {d : DataW H} (h : (DataW.weightsEach P ts ds).all (· ≤ reachBytes) = true) {j : Nat} (ht : ts[j]? = some t) (hd : ds[j]? = some d) : ∀ m ∈ d.weights P t, m ≤ reachBytes := fun m hm => by
  have := List.all_eq_true.1 h m (DataW.weights_mem_each ht hd m hm)
  simpa using this
end
end Go.Proofs.Ytfhcjainhpjdfaa
