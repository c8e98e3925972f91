/- Several texts in one: Rgn, Rgl, Jnl, Jnm. -/
import Derived.Test.YtglnnplijienbaaCSx
import Derived.Test.YtglnnplijienbaaM5
import Derived.Laws.StructEq
/- api.Region: its cells, '==', arguments opened. -/
namespace Go.Proofs.Ytglnnplijienbaa
open Go.ChangeShapes Go.WideShapes Go.ChangeAt Go.RowKit Go.Joins
set_option linter.unusedVariables false
set_option maxRecDepth 100000
structure Att where
  r : Int
  k : Int
  g : Bool
  s : Bool
instance : Inhabited Att := ⟨⟨0, 0, false, false⟩⟩
structure Rgn where
  f : Int
  t : Int
  a : Att
instance : Inhabited Rgn := ⟨⟨0, 0, default⟩⟩
def eqA (a b : Att) : Bool := a.r == b.r && a.k == b.k && a.g == b.g && a.s == b.s
theorem eqA_iff {a b : Att} : eqA a b = true ↔ a = b := by
  obtain ⟨a1, a2, a3, a4⟩ := a
  obtain ⟨b1, b2, b3, b4⟩ := b
  simp [eqA, and_assoc]
def eqR (a b : Rgn) : Bool := a.f == b.f && a.t == b.t && eqA a.a b.a
theorem eqR_iff {a b : Rgn} : eqR a b = true ↔ a = b := by
  obtain ⟨a1, a2, a3⟩ := a
  obtain ⟨b1, b2, b3⟩ := b
  simp [eqR, eqA_iff, and_assoc]
def fR (x : Rgn) : List Value := [.int .i64 x.f, .int .i64 x.t, .int .i64 x.a.r, .int .i64 x.a.k, .bool x.a.g, .bool x.a.s]
theorem fR_len (x : Rgn) : (fR x).length = 6 := rfl
theorem fR_one1 (x : Rgn) : ∀ u ∈ fR x, u.oneCell' = true := by
  intro u hu
  simp [fR] at hu
  rcases hu with rfl | rfl | rfl | rfl | rfl | rfl <;> rfl
theorem fR_one (xs : List Rgn) : ∀ u ∈ xs.flatMap fR, u.oneCell' = true := by
  intro u hu
  obtain ⟨y, _, hy⟩ := List.mem_flatMap.1 hu
  exact fR_one1 y u hy
theorem info_R : (Try.prog.info? 40).map (fun i => (i.zero, i.size, i.bytes)) = some (some (.agg #[.int .i64 0, .int .i64 0, .int .i64 0, .int .i64 0, .bool false, .bool false]), 6, 40) := by kernel_rfl
theorem run_eqAd (d : Nat) (a0 a1 b0 b1 : Int) (a2 a3 b2 b3 : Bool) (w : World) : (Op.equalIn (d + 2) 38 (.agg #[.int .i64 a0, .int .i64 a1, .bool a2, .bool a3]) (.agg #[.int .i64 b0, .int .i64 b1, .bool b2, .bool b3])).run Try.prog w = .ok (a0 == b0 && a1 == b1 && a2 == b2 && a3 == b3) w := by
  by_cases h0 : a0 = b0 <;> by_cases h1 : a1 = b1 <;> by_cases h2 : a2 = b2 <;> by_cases h3 : a3 = b3 <;> simp [go_sem, Try.underlying38, Try.underlying3, Try.underlying4, h0, h1, h2, h3]
theorem run_eqA (x y : Att) (w : World) : (Op.equalIn 10000 38 (.agg #[.int .i64 x.r, .int .i64 x.k, .bool x.g, .bool x.s]) (.agg #[.int .i64 y.r, .int .i64 y.k, .bool y.g, .bool y.s])).run Try.prog w = .ok (eqA x y) w := run_eqAd 9998 _ _ _ _ _ _ _ _ w
theorem run_eqRd (d : Nat) (x y : Rgn) (w : World) : (Op.equalIn (d + 3) 40 (.agg #[.int .i64 x.f, .int .i64 x.t, .int .i64 x.a.r, .int .i64 x.a.k, .bool x.a.g, .bool x.a.s]) (.agg #[.int .i64 y.f, .int .i64 y.t, .int .i64 y.a.r, .int .i64 y.a.k, .bool y.a.g, .bool y.a.s])).run Try.prog w = .ok (eqR x y) w := by
  have aE := Try.isAgg38
  have zE := Try.sizeOf38
  have hA : ∀ w, (Op.equalIn (d + 2) 38 (.agg #[.int .i64 x.a.r, .int .i64 x.a.k, .bool x.a.g, .bool x.a.s]) (.agg #[.int .i64 y.a.r, .int .i64 y.a.k, .bool y.a.g, .bool y.a.s])).run Try.prog w = .ok (eqA x.a y.a) w := fun w => run_eqAd d _ _ _ _ _ _ _ _ w
  cases hq : eqA x.a y.a <;> rw [hq] at hA <;> by_cases h0 : x.f = y.f <;> by_cases h1 : x.t = y.t <;> simp [go_sem, Try.underlying40, Try.underlying3, hA, aE, zE, h0, h1, eqR, hq]
def Att.fits (a : Att) : Prop := I64 a.r ∧ I64 a.k
def Rgn.fits (x : Rgn) : Prop := I64 x.f ∧ I64 x.t ∧ x.a.fits
section
variable {H : Type} {enc : TypeId × Value → H} {w : World} {base : Nat} {held : Bool}
theorem att_cells {fuel : Nat} {cs : List Value} {x : DataW H × List MemPlace} (h : DataW.trod enc Try.prog w base (fun _ => true) held fuel 38 cs = some x) (hl : cs.length = 4) : ∃ a : Att, cs = [.int .i64 a.r, .int .i64 a.k, .bool a.g, .bool a.s] ∧ a.fits := by
  match cs, hl with
  | [v0, v1, v2, v3], _ =>
    obtain ⟨ys, n, _, _, _, hyl, hf⟩ := DataW.trod_struct Try.underlying38 h
    match ys, hyl with
    | [y0, y1, y2, y3], _ =>
      have f0 := hf 0 _ rfl
      have f1 := hf 1 _ rfl
      have f2 := hf 2 _ rfl
      have f3 := hf 3 _ rfl
      simp only [List.getElem?_cons_zero] at f0
      simp only [List.getElem?_cons_succ, List.getElem?_cons_zero] at f1 f2 f3
      obtain ⟨a, e0, _, w0⟩ := DataW.trod_int Try.underlying3 f0
      obtain ⟨b, e1, _, w1⟩ := DataW.trod_int Try.underlying3 f1
      obtain ⟨c, e2, _⟩ := DataW.trod_bool Try.underlying4 f2
      obtain ⟨d, e3, _⟩ := DataW.trod_bool Try.underlying4 f3
      cases e0; cases e1; cases e2; cases e3
      exact ⟨⟨a, b, c, d⟩, rfl, i64_of_wf w0, i64_of_wf w1⟩
theorem rgn_cells {fuel : Nat} {cs : List Value} {x : DataW H × List MemPlace} (h : DataW.trod enc Try.prog w base (fun _ => true) held fuel 40 cs = some x) (hl : cs.length = 6) : ∃ a : Rgn, cs = fR a ∧ a.fits := by
  match cs, hl with
  | [v0, v1, v2, v3, v4, v5], _ =>
    obtain ⟨ys, n, _, _, _, hyl, hf⟩ := DataW.trod_struct Try.underlying40 h
    match ys, hyl with
    | [y0, y1, y2], _ =>
      have f0 := hf 0 _ rfl
      have f1 := hf 1 _ rfl
      have f2 := hf 2 _ rfl
      simp only [List.getElem?_cons_zero] at f0
      simp only [List.getElem?_cons_succ, List.getElem?_cons_zero] at f1 f2
      obtain ⟨a, e0, _, w0⟩ := DataW.trod_int Try.underlying3 f0
      obtain ⟨b, e1, _, w1⟩ := DataW.trod_int Try.underlying3 f1
      obtain ⟨at', e2, w2⟩ := att_cells f2 rfl
      cases e0; cases e1; cases e2
      exact ⟨⟨a, b, at'⟩, rfl, i64_of_wf w0, i64_of_wf w1, w2⟩
theorem rgn_of {A : Option Addr} {n c : Nat} {d : DataW H} {p : List MemPlace} (h : DataW.Trod enc Try.prog w base (fun _ => true) held 25 (.slice A n c) d p) : ∃ xs, Rw fR 6 w w.heap.size A n xs ∧ (∀ x ∈ xs, x.fits) ∧ n ≤ c ∧ c ≤ maxLen :=
  row_of_structs fR Rgn.fits Try.underlying25 (by kernel_rfl) (by decide) (fun _ _ _ h hl => rgn_cells h hl) fR_len h
theorem rgn_val {r : Reach} {b0 : Nat} {v : Value} {d : DataW H} {p : List MemPlace} (hv : Value.okWide Try.prog w r b0 40 v) (h : DataW.Trod enc Try.prog w base (fun _ => true) held 40 v d p) : ∃ x : Rgn, v = .agg #[.int .i64 x.f, .int .i64 x.t, .int .i64 x.a.r, .int .i64 x.a.k, .bool x.a.g, .bool x.a.s] ∧ x.fits := by
  obtain ⟨cs, rfl, hsz⟩ := okWide_struct Try.underlying40 hv
  obtain ⟨fuel, hf⟩ := h
  obtain ⟨x, e, hx⟩ := rgn_cells hf (by simpa [Value.cells] using hsz.trans (by kernel_rfl : Try.prog.cellsOf 40 = 6))
  refine ⟨x, ?_, hx⟩
  have : cs = (fR x).toArray := by
    apply Array.ext'
    simpa [Value.cells] using e
  rw [this]; rfl
theorem att_val {r : Reach} {b0 : Nat} {v : Value} {d : DataW H} {p : List MemPlace} (hv : Value.okWide Try.prog w r b0 38 v) (h : DataW.Trod enc Try.prog w base (fun _ => true) held 38 v d p) : ∃ x : Att, v = .agg #[.int .i64 x.r, .int .i64 x.k, .bool x.g, .bool x.s] ∧ x.fits := by
  obtain ⟨cs, rfl, hsz⟩ := okWide_struct Try.underlying38 hv
  obtain ⟨fuel, hf⟩ := h
  obtain ⟨x, e, hx⟩ := att_cells hf (by simpa [Value.cells] using hsz.trans (by kernel_rfl : Try.prog.cellsOf 38 = 4))
  refine ⟨x, ?_, hx⟩
  have : cs = #[.int .i64 x.r, .int .i64 x.k, .bool x.g, .bool x.s] := by
    apply Array.ext'
    simpa [Value.cells] using e
  rw [this]
end
end Go.Proofs.Ytglnnplijienbaa

/- Regions in plain Lean. -/
namespace Go.Proofs.Ytglnnplijienbaa
set_option linter.unusedVariables false
def okR (x : Rgn) : Bool := decide (0 ≤ x.f) && decide (x.t ≤ 64) && decide (x.f < x.t)
def nextOk (p x : Rgn) : Bool := !(decide (x.f < p.t) || (p.t == x.f && eqA p.a x.a))
def rightG : Option Rgn → List Rgn → Bool
  | _, [] => true
  | p, x :: l => okR x && (match p with | none => true | some p => nextOk p x) && rightG (some x) l
def rightL (l : List Rgn) : Bool := rightG none l
theorem rightG_bad : ∀ (l : List Rgn) (q : Option Rgn) (k : Nat) (x : Rgn), l[k]? = some x → (okR x = false ∨ ∃ p, (if k = 0 then q else l[k - 1]?) = some p ∧ nextOk p x = false) → rightG q l = false
  | [], _, _, _, h, _ => by simp at h
  | y :: l, q, 0, x, h, h2 => by
    simp at h; subst h
    unfold rightG
    rcases h2 with h2 | ⟨p, hp, h2⟩
    · rw [h2]; rfl
    · rw [if_pos rfl] at hp
      subst hp
      simp [h2]
  | y :: l, q, k + 1, x, h, h2 => by
    unfold rightG
    rw [rightG_bad l (some y) k x (by simpa using h) (h2.imp id fun ⟨p, hp, h3⟩ => ⟨p, by
      rw [if_neg (by omega), Nat.add_sub_cancel] at hp
      cases k with
      | zero => simpa using hp
      | succ k => simpa using hp, h3⟩), Bool.and_false]
theorem rightG_good : ∀ (l : List Rgn) (q : Option Rgn), (∀ k x, k < l.length → l[k]? = some x → okR x = true ∧ ∀ p, (if k = 0 then q else l[k - 1]?) = some p → nextOk p x = true) → rightG q l = true
  | [], _, _ => rfl
  | y :: l, q, h => by
    unfold rightG
    have h0 := h 0 y (by simp) rfl
    rw [h0.1, rightG_good l (some y) fun k x hk hx => ?_]
    · cases q with
      | none => rfl
      | some p =>
        have := h0.2 p rfl
        simp [this]
    · have h1 := h (k + 1) x (by simpa using hk) (by simpa using hx)
      refine ⟨h1.1, fun p hp => h1.2 p ?_⟩
      rw [if_neg (by omega), Nat.add_sub_cancel]
      cases k with
      | zero => simpa using hp
      | succ k => simpa using hp
def outP (a b : Int) (x : Rgn) : List Rgn := (if x.f < min x.t a then [⟨x.f, min x.t a, x.a⟩] else []) ++ (if max x.f b < x.t then [⟨max x.f b, x.t, x.a⟩] else [])
def inP (a b : Int) (x : Rgn) : List Rgn := if max x.f a < min x.t b then [⟨max x.f a, min x.t b, x.a⟩] else []
def outL (a b : Int) (l : List Rgn) : List Rgn := l.flatMap (outP a b)
def inL (a b : Int) (l : List Rgn) : List Rgn := l.flatMap (inP a b)
theorem outL_snoc (a b : Int) (l : List Rgn) (x : Rgn) : outL a b (l ++ [x]) = outL a b l ++ outP a b x := by simp [outL]
theorem inL_snoc (a b : Int) (l : List Rgn) (x : Rgn) : inL a b (l ++ [x]) = inL a b l ++ inP a b x := by simp [inL]
theorem outP_len (a b : Int) (x : Rgn) : (outP a b x).length ≤ 2 := by unfold outP; split <;> split <;> simp
theorem inP_len (a b : Int) (x : Rgn) : (inP a b x).length ≤ 1 := by unfold inP; split <;> simp
theorem take_snocR {xs : List Rgn} {k : Nat} {x : Rgn} (h : xs[k]? = some x) : xs.take (k + 1) = xs.take k ++ [x] := by
  have hl := (List.getElem?_eq_some_iff.1 h).1
  rw [List.take_succ_eq_append_getElem hl, (List.getElem?_eq_some_iff.1 h).2]
end Go.Proofs.Ytglnnplijienbaa

/- Regions that are joined: plain Lean. -/
namespace Go.Proofs.Ytglnnplijienbaa
set_option linter.unusedVariables false
def SortedR (l : List Rgn) : Prop := l.Pairwise (fun a b => a.f ≤ b.f)
def stepJ (out : List Rgn) (x : Rgn) : List Rgn := match out.getLast? with | some p => if p.t == x.f && eqA p.a x.a then out.dropLast ++ [⟨p.f, x.t, p.a⟩] else out ++ [x] | none => [x]
def joinL (l : List Rgn) : List Rgn := l.foldl stepJ []
theorem joinL_snoc (l : List Rgn) (x : Rgn) : joinL (l ++ [x]) = stepJ (joinL l) x := by unfold joinL; rw [List.foldl_append]; rfl
theorem stepJ_nil (x : Rgn) : stepJ [] x = [x] := rfl
theorem stepJ_no {q : List Rgn} {p x : Rgn} (h : (p.t == x.f && eqA p.a x.a) = false) : stepJ (q ++ [p]) x = q ++ [p] ++ [x] := by unfold stepJ; simp [h]
theorem stepJ_yes {q : List Rgn} {p x : Rgn} (h : (p.t == x.f && eqA p.a x.a) = true) : stepJ (q ++ [p]) x = q ++ [⟨p.f, x.t, p.a⟩] := by
  unfold stepJ; simp only [List.getLast?_append, List.getLast?_singleton, Option.some_or, h, if_true, List.dropLast_concat]
theorem stepJ_len (out : List Rgn) (x : Rgn) : (stepJ out x).length ≤ out.length + 1 := by
  rcases List.eq_nil_or_concat out with rfl | ⟨q, p, rfl⟩
  · simp [stepJ_nil]
  · rw [List.concat_eq_append]
    cases h : (p.t == x.f && eqA p.a x.a) with
    | true => rw [stepJ_yes h]; simp
    | false => rw [stepJ_no h]; simp
theorem foldJ_len : ∀ (l out : List Rgn), (l.foldl stepJ out).length ≤ out.length + l.length
  | [], out => by simp
  | x :: l, out => by
    have := foldJ_len l (stepJ out x)
    have := stepJ_len out x
    simp only [List.foldl_cons, List.length_cons]; omega
theorem joinL_len (l : List Rgn) : (joinL l).length ≤ l.length := by have := foldJ_len l []; simpa [joinL] using this
/-- The same from the left. -/
def joinG : Rgn → List Rgn → List Rgn
  | p, [] => [p]
  | p, x :: l => if p.t == x.f && eqA p.a x.a then joinG ⟨p.f, x.t, p.a⟩ l else p :: joinG x l
theorem fold_joinG : ∀ (l q : List Rgn) (p : Rgn), l.foldl stepJ (q ++ [p]) = q ++ joinG p l
  | [], q, p => rfl
  | x :: l, q, p => by
    rw [List.foldl_cons]
    unfold joinG
    cases h : (p.t == x.f && eqA p.a x.a) with
    | true => rw [stepJ_yes h, fold_joinG l q ⟨p.f, x.t, p.a⟩]; rfl
    | false => rw [stepJ_no h, fold_joinG l (q ++ [p]) x, List.append_assoc]; rfl
theorem joinL_cons (x : Rgn) (l : List Rgn) : joinL (x :: l) = joinG x l := fold_joinG l [] x
/-- Rising and apart from b on. -/
def Asc : Int → List Rgn → Prop
  | _, [] => True
  | b, x :: l => b ≤ x.f ∧ x.f < x.t ∧ x.t ≤ 64 ∧ Asc x.t l
theorem Asc.mem : ∀ {l : List Rgn} {b : Int}, Asc b l → ∀ x ∈ l, b ≤ x.f ∧ x.f < x.t ∧ x.t ≤ 64
  | [], _, _, _, h => by cases h
  | y :: l, b, h, x, hx => by
    obtain ⟨h1, h2, h3, h4⟩ := h
    rcases List.mem_cons.1 hx with rfl | hx
    · exact ⟨h1, h2, h3⟩
    · have := Asc.mem h4 x hx; omega
theorem asc_of_right : ∀ (l : List Rgn) (q : Option Rgn) (b : Int), rightG q l = true → (∀ p, q = some p → b ≤ p.t) → (q = none → b ≤ 0) → Asc b l
  | [], _, _, _, _, _ => trivial
  | x :: l, q, b, h, hq, hn => by
    unfold rightG at h
    simp only [Bool.and_eq_true] at h
    obtain ⟨⟨h1, h2⟩, h3⟩ := h
    unfold okR at h1
    simp only [Bool.and_eq_true, decide_eq_true_eq] at h1
    refine ⟨?_, by omega, by omega, asc_of_right l (some x) x.t h3 (fun p hp => by cases hp; exact Int.le_refl _) (fun h => by cases h)⟩
    cases q with
    | none => have := hn rfl; omega
    | some p =>
      have := hq p rfl
      simp [nextOk] at h2
      omega
theorem rightL_asc {l : List Rgn} (h : rightL l = true) : Asc 0 l := asc_of_right l none 0 h (fun p hp => by cases hp) (fun _ => Int.le_refl _)
/-- Page p is there and is a. -/
def Has (l : List Rgn) (p : Int) (a : Att) : Prop := ∃ x ∈ l, x.f ≤ p ∧ p < x.t ∧ x.a = a
theorem has_nil {p : Int} {a : Att} : ¬ Has [] p a := fun ⟨_, h, _⟩ => by cases h
theorem has_cons {x : Rgn} {l : List Rgn} {p : Int} {a : Att} : Has (x :: l) p a ↔ (x.f ≤ p ∧ p < x.t ∧ x.a = a) ∨ Has l p a := by
  constructor
  · rintro ⟨y, hy, h⟩
    rcases List.mem_cons.1 hy with rfl | hy
    · exact .inl h
    · exact .inr ⟨y, hy, h⟩
  · rintro (h | ⟨y, hy, h⟩)
    · exact ⟨x, List.mem_cons_self, h⟩
    · exact ⟨y, List.mem_cons_of_mem _ hy, h⟩
theorem has_append {l m : List Rgn} {p : Int} {a : Att} : Has (l ++ m) p a ↔ Has l p a ∨ Has m p a := by
  constructor
  · rintro ⟨y, hy, h⟩
    rcases List.mem_append.1 hy with hy | hy
    · exact .inl ⟨y, hy, h⟩
    · exact .inr ⟨y, hy, h⟩
  · rintro (⟨y, hy, h⟩ | ⟨y, hy, h⟩)
    · exact ⟨y, List.mem_append_left _ hy, h⟩
    · exact ⟨y, List.mem_append_right _ hy, h⟩
theorem has_perm {l m : List Rgn} (h : l.Perm m) {p : Int} {a : Att} : Has l p a ↔ Has m p a :=
  ⟨fun ⟨y, hy, h2⟩ => ⟨y, h.mem_iff.1 hy, h2⟩, fun ⟨y, hy, h2⟩ => ⟨y, h.mem_iff.2 hy, h2⟩⟩
theorem Asc.has {l : List Rgn} {b p : Int} {a : Att} (h : Asc b l) (h2 : Has l p a) : b ≤ p := by
  obtain ⟨x, hx, h3, _⟩ := h2
  have := h.mem x hx; omega
theorem has_tail {x : Rgn} {l : List Rgn} {b : Int} (h : Asc b (x :: l)) {p : Int} {a : Att} : Has l p a ↔ Has (x :: l) p a ∧ x.t ≤ p := by
  constructor
  · intro h2
    exact ⟨has_cons.2 (.inr h2), h.2.2.2.has h2⟩
  · rintro ⟨h2, h3⟩
    rcases has_cons.1 h2 with h2 | h2
    · omega
    · exact h2
theorem head_end {x y : Rgn} {l m : List Rgn} {b c : Int} (hx : Asc b (x :: l)) (hr : rightG (some x) l = true) (hy : Asc c (y :: m)) (hf : x.f = y.f) (ha : x.a = y.a) (he : ∀ p a, Has (y :: m) p a → Has (x :: l) p a) : y.t ≤ x.t := by
  rcases Int.lt_or_le x.t y.t with hlt | h
  · obtain ⟨x1, x2, x3, x4⟩ := hx
    have h1 := he x.t y.a ⟨y, List.mem_cons_self, by omega, by omega, rfl⟩
    rcases has_cons.1 h1 with h1 | h1
    · omega
    · exfalso
      match l, x4, hr, h1 with
      | [], _, _, h1 => exact has_nil h1
      | z :: l, x4, hr, h1 =>
        obtain ⟨z1, z2, z3, z4⟩ := x4
        rcases has_cons.1 h1 with ⟨g1, g2, g3⟩ | h1
        · unfold rightG at hr
          have e1 : x.t = z.f := by omega
          have e2 : x.a = z.a := by rw [ha, g3]
          simp [nextOk, e1, eqA_iff.2 e2] at hr
        · have := z4.has h1; omega
  · exact h
/-- ONE WAY ALONE. -/
theorem right_unique : ∀ (l m : List Rgn) (q r : Option Rgn) (b c : Int), rightG q l = true → rightG r m = true → Asc b l → Asc c m → (∀ p a, Has l p a ↔ Has m p a) → l = m
  | [], [], _, _, _, _, _, _, _, _, _ => rfl
  | [], y :: m, _, _, _, _, _, _, _, hm, h => absurd ((h y.f y.a).2 ⟨y, List.mem_cons_self, Int.le_refl _, hm.2.1, rfl⟩) has_nil
  | x :: l, [], _, _, _, _, _, _, hl, _, h => absurd ((h x.f x.a).1 ⟨x, List.mem_cons_self, Int.le_refl _, hl.2.1, rfl⟩) has_nil
  | x :: l, y :: m, q, r, b, c, rl, rm, hl, hm, h => by
    unfold rightG at rl rm
    simp only [Bool.and_eq_true] at rl rm
    have hl' := hl
    have hm' := hm
    obtain ⟨l1, l2, l3, l4⟩ := hl
    obtain ⟨m1, m2, m3, m4⟩ := hm
    have hf : x.f = y.f := by
      have h1 : y.f ≤ x.f := by
        rcases has_cons.1 ((h x.f x.a).1 ⟨x, List.mem_cons_self, Int.le_refl _, l2, rfl⟩) with g | g
        · exact g.1
        · have := m4.has g; omega
      have h2 : x.f ≤ y.f := by
        rcases has_cons.1 ((h y.f y.a).2 ⟨y, List.mem_cons_self, Int.le_refl _, m2, rfl⟩) with g | g
        · exact g.1
        · have := l4.has g; omega
      omega
    have ha : x.a = y.a := by
      rcases has_cons.1 ((h x.f x.a).1 ⟨x, List.mem_cons_self, Int.le_refl _, l2, rfl⟩) with g | g
      · exact g.2.2.symm
      · have := m4.has g; omega
    have ht : x.t = y.t := by
      have h1 := head_end hl' rl.2 hm' hf ha fun p a => (h p a).2
      have h2 := head_end hm' rm.2 hl' hf.symm ha.symm fun p a => (h p a).1
      omega
    have e : x = y := by
      obtain ⟨x1, x2, x3⟩ := x
      obtain ⟨y1, y2, y3⟩ := y
      simp only at hf ha ht
      rw [hf, ha, ht]
    subst e
    rw [right_unique l m (some x) (some x) x.t x.t rl.2 rm.2 l4 m4 fun p a => by rw [has_tail hl', has_tail hm', h p a]]
theorem right_eq {l m : List Rgn} (hl : rightL l = true) (hm : rightL m = true) (h : ∀ p a, Has l p a ↔ Has m p a) : l = m :=
  right_unique l m none none 0 0 hl hm (rightL_asc hl) (rightL_asc hm) h
/-- What is joined is right, and page by page as it was. -/
theorem nextOk_head (q p : Rgn) (t : Int) : nextOk q ⟨p.f, t, p.a⟩ = nextOk q p := rfl
theorem joinG_right : ∀ (l : List Rgn) (p : Rgn) (q : Option Rgn), 0 ≤ p.f → p.f < p.t → p.t ≤ 64 → Asc p.t l → (∀ r, q = some r → nextOk r p = true) → rightG q (joinG p l) = true
  | [], p, q, h0, h1, h2, _, hq => by
    unfold joinG rightG rightG
    have : okR p = true := by unfold okR; simp; omega
    cases q with
    | none => simp [this]
    | some r => simp [this, hq r rfl]
  | x :: l, p, q, h0, h1, h2, h3, hq => by
    obtain ⟨x1, x2, x3, x4⟩ := h3
    unfold joinG
    cases h : (p.t == x.f && eqA p.a x.a) with
    | true =>
      simp only [if_true]
      exact joinG_right l ⟨p.f, x.t, p.a⟩ q h0 (by simp only; omega) x3 x4 fun r hr => by rw [nextOk_head]; exact hq r hr
    | false =>
      simp only [Bool.false_eq_true, if_false]
      unfold rightG
      have h4 : nextOk p x = true := by unfold nextOk; rw [h]; simp; omega
      have h5 : okR p = true := by unfold okR; simp; omega
      rw [joinG_right l x (some p) (by omega) x2 x3 x4 (fun r hr => by cases hr; exact h4), h5]
      cases q with
      | none => simp
      | some r => simp [hq r rfl]
theorem joinG_has : ∀ (l : List Rgn) (p : Rgn) (b : Int), Asc b (p :: l) → ∀ n a, Has (joinG p l) n a ↔ Has (p :: l) n a
  | [], p, _, _, n, a => Iff.rfl
  | x :: l, p, b, h, n, a => by
    obtain ⟨p1, p2, p3, x1, x2, x3, x4⟩ := h
    unfold joinG
    cases h : (p.t == x.f && eqA p.a x.a) with
    | true =>
      simp only [if_true]
      rw [joinG_has l ⟨p.f, x.t, p.a⟩ b ⟨p1, by simp only; omega, x3, x4⟩, has_cons, has_cons, has_cons]
      simp only [Bool.and_eq_true, beq_iff_eq, eqA_iff] at h
      obtain ⟨e1, e2⟩ := h
      constructor
      · rintro (⟨g1, g2, g3⟩ | g)
        · simp only at g1 g2 g3
          by_cases hn : n < p.t
          · exact .inl ⟨g1, hn, g3⟩
          · exact .inr (.inl ⟨by omega, g2, by rw [← e2]; exact g3⟩)
        · exact .inr (.inr g)
      · rintro (⟨g1, g2, g3⟩ | ⟨g1, g2, g3⟩ | g)
        · exact .inl ⟨g1, by simp only; omega, g3⟩
        · exact .inl ⟨by simp only; omega, g2, by rw [e2]; exact g3⟩
        · exact .inr g
    | false =>
      simp only [Bool.false_eq_true, if_false]
      rw [has_cons, joinG_has l x p.t ⟨x1, x2, x3, x4⟩, has_cons (x := p)]
theorem joinG_len : ∀ (l : List Rgn) (p : Rgn) (q : Option Rgn), rightG q (p :: l) = true → joinG p l = p :: l
  | [], _, _, _ => rfl
  | x :: l, p, q, h => by
    unfold rightG at h
    simp only [Bool.and_eq_true] at h
    have h1 := h.2
    have h2 := h1
    unfold rightG at h1
    simp only [Bool.and_eq_true] at h1
    have h3 := h1.1.2
    unfold nextOk at h3
    simp only [Bool.not_eq_true', Bool.or_eq_false_iff] at h3
    unfold joinG
    rw [h3.2]
    simp only [Bool.false_eq_true, if_false]
    rw [joinG_len l x (some p) h2]
theorem joinL_right {l : List Rgn} (h : Asc 0 l) : rightL (joinL l) = true := by
  cases l with
  | nil => rfl
  | cons x l => rw [joinL_cons]; exact joinG_right l x none h.1 h.2.1 h.2.2.1 h.2.2.2 (fun r hr => by cases hr)
theorem joinL_has {l : List Rgn} (h : Asc 0 l) (p : Int) (a : Att) : Has (joinL l) p a ↔ Has l p a := by
  cases l with
  | nil => exact Iff.rfl
  | cons x l => rw [joinL_cons]; exact joinG_has l x 0 h p a
/-- Apart, in whatever order. -/
def apartR (a b : Rgn) : Prop := a.t ≤ b.f ∨ b.t ≤ a.f
structure Good (l : List Rgn) : Prop where
  ok : ∀ x ∈ l, 0 ≤ x.f ∧ x.f < x.t ∧ x.t ≤ 64
  apart : l.Pairwise apartR
theorem Good.perm {l m : List Rgn} (h : Good l) (hp : m.Perm l) : Good m :=
  ⟨fun x hx => h.ok x (hp.mem_iff.1 hx), (hp.pairwise_iff fun {a b} h => Or.symm h).2 h.apart⟩
theorem asc_of : ∀ (l : List Rgn) (b : Int), (∀ x ∈ l, b ≤ x.f ∧ x.f < x.t ∧ x.t ≤ 64) → l.Pairwise apartR → SortedR l → Asc b l
  | [], _, _, _, _ => trivial
  | x :: l, b, h, h2, h3 => by
    have hx := h x List.mem_cons_self
    unfold SortedR at h3
    rw [List.pairwise_cons] at h2 h3
    refine ⟨hx.1, hx.2.1, hx.2.2, asc_of l x.t (fun y hy => ?_) h2.2 h3.2⟩
    have hy2 := h y (List.mem_cons_of_mem _ hy)
    have g1 := h2.1 y hy
    have g2 := h3.1 y hy
    unfold apartR at g1
    omega
theorem Good.asc {l : List Rgn} (h : Good l) (hs : SortedR l) : Asc 0 l := asc_of l 0 h.ok h.apart hs
theorem Asc.good : ∀ {l : List Rgn} {b : Int}, 0 ≤ b → Asc b l → Good l
  | [], _, _, _ => ⟨fun x hx => (nomatch hx), List.Pairwise.nil⟩
  | x :: l, b, hb, h => by
    have h2 := h
    obtain ⟨h3, h4, h5, h6⟩ := h
    have hg := Asc.good (by omega) h6
    refine ⟨fun y hy => by have := h2.mem y hy; omega, List.pairwise_cons.2 ⟨fun y hy => .inl (h6.mem y hy).1, hg.apart⟩⟩
theorem right_good {l : List Rgn} (h : rightL l = true) : Good l := (rightL_asc h).good (Int.le_refl _)
/-- The one right way to have pages. -/
def norm (xs : List Rgn) : List Rgn := joinL (xs.mergeSort fun a b => decide (a.f ≤ b.f))
theorem sorted_norm (xs : List Rgn) : SortedR (xs.mergeSort fun a b => decide (a.f ≤ b.f)) := by
  have := List.pairwise_mergeSort (le := fun a b : Rgn => decide (a.f ≤ b.f)) (fun a b c h1 h2 => by simp at *; omega) (fun a b => by simp; omega) xs
  exact this.imp fun h => by simpa using h
theorem norm_asc {xs : List Rgn} (h : Good xs) : Asc 0 (xs.mergeSort fun a b => decide (a.f ≤ b.f)) := (h.perm (List.mergeSort_perm xs _)).asc (sorted_norm xs)
theorem norm_right {xs : List Rgn} (h : Good xs) : rightL (norm xs) = true := joinL_right (norm_asc h)
theorem norm_has {xs : List Rgn} (h : Good xs) (p : Int) (a : Att) : Has (norm xs) p a ↔ Has xs p a := (joinL_has (norm_asc h) p a).trans (has_perm (List.mergeSort_perm xs _))
theorem norm_of {xs ys : List Rgn} (h : Good xs) (hp : ys.Perm xs) (hs : SortedR ys) : joinL ys = norm xs :=
  right_eq (joinL_right ((h.perm hp).asc hs)) (norm_right h) fun p a => by rw [joinL_has ((h.perm hp).asc hs), norm_has h, has_perm hp]
theorem norm_id {l : List Rgn} (h : rightL l = true) : norm l = l := right_eq (norm_right (right_good h)) h fun p a => norm_has (right_good h) p a
end Go.Proofs.Ytglnnplijienbaa

/- Cut, added, turned: plain Lean. -/
namespace Go.Proofs.Ytglnnplijienbaa
set_option linter.unusedVariables false
theorem mem_outP {a b : Int} {x y : Rgn} : y ∈ outP a b x ↔ (y = ⟨x.f, min x.t a, x.a⟩ ∧ x.f < min x.t a) ∨ (y = ⟨max x.f b, x.t, x.a⟩ ∧ max x.f b < x.t) := by
  unfold outP
  rw [List.mem_append]
  constructor
  · rintro (h | h)
    · split at h
      · rename_i h2; exact .inl ⟨by simpa using h, h2⟩
      · cases h
    · split at h
      · rename_i h2; exact .inr ⟨by simpa using h, h2⟩
      · cases h
  · rintro (⟨rfl, h⟩ | ⟨rfl, h⟩)
    · left; rw [if_pos h]; exact List.mem_singleton_self _
    · right; rw [if_pos h]; exact List.mem_singleton_self _
theorem mem_inP {a b : Int} {x y : Rgn} : y ∈ inP a b x ↔ y = ⟨max x.f a, min x.t b, x.a⟩ ∧ max x.f a < min x.t b := by
  unfold inP
  constructor
  · intro h
    split at h
    · rename_i h2; exact ⟨by simpa using h, h2⟩
    · cases h
  · rintro ⟨rfl, h⟩
    rw [if_pos h]; exact List.mem_singleton_self _
theorem good_flat {l : List Rgn} {g : Rgn → List Rgn} (h : Good l) (h1 : ∀ x ∈ l, (0 ≤ x.f ∧ x.f < x.t ∧ x.t ≤ 64) → ∀ y ∈ g x, x.f ≤ y.f ∧ y.f < y.t ∧ y.t ≤ x.t) (h2 : ∀ x ∈ l, (g x).Pairwise apartR) : Good (l.flatMap g) := by
  refine ⟨fun y hy => ?_, ?_⟩
  · obtain ⟨x, hx, hy⟩ := List.mem_flatMap.1 hy
    have := h.ok x hx
    have := h1 x hx this y hy
    omega
  · rw [List.pairwise_flatMap]
    refine ⟨h2, h.apart.imp_of_mem fun {x y} hx hy hxy u hu v hv => ?_⟩
    have := h1 x hx (h.ok x hx) u hu
    have := h1 y hy (h.ok y hy) v hv
    unfold apartR at *
    omega
theorem good_out {l : List Rgn} {a b : Int} (h : Good l) (hab : a ≤ b) : Good (outL a b l) := by
  refine good_flat h (fun x hx hox y hy => ?_) (fun x hx => ?_)
  · rcases mem_outP.1 hy with ⟨rfl, h⟩ | ⟨rfl, h⟩ <;> simp only <;> omega
  · unfold outP
    rw [List.pairwise_append]
    refine ⟨by split <;> simp, by split <;> simp, fun u hu v hv => ?_⟩
    split at hu
    · split at hv
      · simp at hu hv; subst hu hv; unfold apartR; simp only; omega
      · cases hv
    · cases hu
theorem good_in {l : List Rgn} {a b : Int} (h : Good l) : Good (inL a b l) := by
  refine good_flat h (fun x hx hox y hy => ?_) (fun x hx => by unfold inP; split <;> simp)
  obtain ⟨rfl, h⟩ := mem_inP.1 hy
  simp only; omega
theorem in_span {l : List Rgn} {a b : Int} {y : Rgn} (hy : y ∈ inL a b l) : a ≤ y.f ∧ y.t ≤ b := by
  obtain ⟨x, hx, hy⟩ := List.mem_flatMap.1 hy
  obtain ⟨rfl, h⟩ := mem_inP.1 hy
  simp only; omega
theorem out_span {l : List Rgn} {a b : Int} {y : Rgn} (hy : y ∈ outL a b l) : y.t ≤ a ∨ b ≤ y.f := by
  obtain ⟨x, hx, hy⟩ := List.mem_flatMap.1 hy
  rcases mem_outP.1 hy with ⟨rfl, h⟩ | ⟨rfl, h⟩ <;> simp only <;> omega
def turnR (f : Att → Att) (x : Rgn) : Rgn := ⟨x.f, x.t, f x.a⟩
theorem good_map {l : List Rgn} {f : Att → Att} (h : Good l) : Good (l.map (turnR f)) :=
  ⟨fun y hy => by obtain ⟨x, hx, rfl⟩ := List.mem_map.1 hy; exact h.ok x hx, by rw [List.pairwise_map]; exact h.apart⟩
theorem good_append {l m : List Rgn} (h : Good l) (g : Good m) (hx : ∀ x ∈ l, ∀ y ∈ m, apartR x y) : Good (l ++ m) :=
  ⟨fun x hx => (List.mem_append.1 hx).elim (h.ok x) (g.ok x), List.pairwise_append.2 ⟨h.apart, g.apart, hx⟩⟩
theorem good_turn {l : List Rgn} {a b : Int} {f : Att → Att} (h : Good l) (hab : a ≤ b) : Good (outL a b l ++ (inL a b l).map (turnR f)) :=
  good_append (good_out h hab) (good_map (good_in h)) fun x hx y hy => by
    obtain ⟨z, hz, rfl⟩ := List.mem_map.1 hy
    have := in_span hz
    have := out_span hx
    unfold apartR turnR
    simp only
    omega
theorem good_add {l : List Rgn} {x : Rgn} (h : Good l) (h0 : 0 ≤ x.f) (h1 : x.f < x.t) (h2 : x.t ≤ 64) : Good (outL x.f x.t l ++ [x]) :=
  good_append (good_out h (by omega)) ⟨fun y hy => by rw [List.mem_singleton] at hy; subst hy; exact ⟨h0, h1, h2⟩, List.pairwise_singleton _ _⟩ fun u hu v hv => by
    rw [List.mem_singleton] at hv; subst hv
    have := out_span hu
    unfold apartR; omega
theorem has_out {l : List Rgn} {a b p : Int} {t : Att} (hab : a ≤ b) : Has (outL a b l) p t ↔ Has l p t ∧ ¬ (a ≤ p ∧ p < b) := by
  constructor
  · rintro ⟨y, hy, h1, h2, h3⟩
    have hs := out_span hy
    obtain ⟨x, hx, hy⟩ := List.mem_flatMap.1 hy
    rcases mem_outP.1 hy with ⟨rfl, h⟩ | ⟨rfl, h⟩ <;> simp only at h1 h2 h3 hs <;> exact ⟨⟨x, hx, by omega, by omega, h3⟩, by omega⟩
  · rintro ⟨⟨x, hx, h1, h2, h3⟩, h4⟩
    by_cases hp : p < a
    · exact ⟨_, List.mem_flatMap.2 ⟨x, hx, mem_outP.2 (.inl ⟨rfl, by omega⟩)⟩, h1, by simp only; omega, h3⟩
    · exact ⟨_, List.mem_flatMap.2 ⟨x, hx, mem_outP.2 (.inr ⟨rfl, by omega⟩)⟩, by simp only; omega, h2, h3⟩
theorem has_in {l : List Rgn} {a b p : Int} {t : Att} : Has (inL a b l) p t ↔ Has l p t ∧ a ≤ p ∧ p < b := by
  constructor
  · rintro ⟨y, hy, h1, h2, h3⟩
    have hs := in_span hy
    obtain ⟨x, hx, hy⟩ := List.mem_flatMap.1 hy
    obtain ⟨rfl, h⟩ := mem_inP.1 hy
    simp only at h1 h2 h3 hs
    exact ⟨⟨x, hx, by omega, by omega, h3⟩, by omega, by omega⟩
  · rintro ⟨⟨x, hx, h1, h2, h3⟩, h4, h5⟩
    exact ⟨_, List.mem_flatMap.2 ⟨x, hx, mem_inP.2 ⟨rfl, by omega⟩⟩, by simp only; omega, by simp only; omega, h3⟩
theorem has_map {l : List Rgn} {f : Att → Att} {p : Int} {t : Att} : Has (l.map (turnR f)) p t ↔ ∃ s, Has l p s ∧ f s = t := by
  constructor
  · rintro ⟨y, hy, h1, h2, h3⟩
    obtain ⟨x, hx, rfl⟩ := List.mem_map.1 hy
    exact ⟨x.a, ⟨x, hx, h1, h2, rfl⟩, h3⟩
  · rintro ⟨s, ⟨x, hx, h1, h2, rfl⟩, h4⟩
    exact ⟨_, List.mem_map.2 ⟨x, hx, rfl⟩, h1, h2, h4⟩
theorem has_one {x : Rgn} {p : Int} {t : Att} : Has [x] p t ↔ x.f ≤ p ∧ p < x.t ∧ x.a = t := by
  rw [has_cons]; exact ⟨fun h => h.resolve_right has_nil, .inl⟩
theorem Good.fun : ∀ {l : List Rgn} {p : Int} {s t : Att}, Good l → Has l p s → Has l p t → s = t
  | [], _, _, _, _, h, _ => absurd h has_nil
  | x :: l, p, s, t, hg, h1, h2 => by
    have hl : Good l := ⟨fun y hy => hg.ok y (List.mem_cons_of_mem _ hy), (List.pairwise_cons.1 hg.apart).2⟩
    have no : ∀ u, Has l p u → ¬ (x.f ≤ p ∧ p < x.t) := fun u ⟨y, hy, g1, g2, _⟩ => by
      have := (List.pairwise_cons.1 hg.apart).1 y hy
      unfold apartR at this; omega
    rcases has_cons.1 h1 with ⟨g1, g2, g3⟩ | g
    · rcases has_cons.1 h2 with ⟨k1, k2, k3⟩ | k
      · rw [← g3, ← k3]
      · exact absurd ⟨g1, g2⟩ (no t k)
    · rcases has_cons.1 h2 with ⟨k1, k2, k3⟩ | k
      · exact absurd ⟨k1, k2⟩ (no s g)
      · exact hl.fun g k
/-- How many pages. -/
def tot : List Rgn → Int
  | [] => 0
  | x :: l => (x.t - x.f) + tot l
theorem tot_append : ∀ l m : List Rgn, tot (l ++ m) = tot l + tot m
  | [], m => by simp [tot]
  | x :: l, m => by simp only [List.cons_append, tot]; rw [tot_append l m]; omega
theorem tot_map (f : Att → Att) : ∀ l : List Rgn, tot (l.map (turnR f)) = tot l
  | [] => rfl
  | x :: l => by simp only [List.map_cons, tot]; rw [tot_map f l]; rfl
def inB (x : Rgn) (p : Nat) : Bool := decide (x.f ≤ (p : Int)) && decide ((p : Int) < x.t)
def cov (l : List Rgn) (p : Nat) : Bool := l.any fun x => inB x p
theorem cov_iff {l : List Rgn} {p : Nat} : cov l p = true ↔ ∃ t, Has l p t := by
  unfold cov
  rw [List.any_eq_true]
  constructor
  · rintro ⟨x, hx, h⟩
    simp [inB] at h
    exact ⟨x.a, x, hx, h.1, h.2, rfl⟩
  · rintro ⟨t, x, hx, h1, h2, h3⟩
    exact ⟨x, hx, by simp [inB, h1, h2]⟩
theorem count_in (x : Rgn) (h0 : 0 ≤ x.f) (h1 : x.f ≤ x.t) : ∀ n : Nat, (((List.range n).countP (inB x) : Nat) : Int) = min x.t n - min x.f n
  | 0 => by simp; omega
  | n + 1 => by
    rw [List.range_succ, List.countP_append, Int.natCast_add, count_in x h0 h1 n]
    simp only [List.countP_cons, List.countP_nil, inB]
    by_cases a : x.f ≤ (n : Int) <;> by_cases b : (n : Int) < x.t <;> simp [a, b] <;> omega
theorem countP_or {α : Type} (p q : α → Bool) : ∀ l : List α, (∀ x ∈ l, ¬ (p x = true ∧ q x = true)) → l.countP (fun x => p x || q x) = l.countP p + l.countP q
  | [], _ => rfl
  | x :: l, h => by
    have ih := countP_or p q l fun y hy => h y (List.mem_cons_of_mem _ hy)
    have hx := h x List.mem_cons_self
    simp only [List.countP_cons, ih]
    cases hp : p x <;> cases hq : q x <;> simp [hp, hq] at * <;> omega
theorem tot_count : ∀ {l : List Rgn}, Good l → tot l = ((List.range 64).countP (cov l) : Nat)
  | [], _ => by
    have : (List.range 64).countP (cov []) = 0 := List.countP_eq_zero.2 fun x _ => by simp [cov]
    rw [this]; rfl
  | x :: l, hg => by
    have hl : Good l := ⟨fun y hy => hg.ok y (List.mem_cons_of_mem _ hy), (List.pairwise_cons.1 hg.apart).2⟩
    have hx := hg.ok x List.mem_cons_self
    have e : cov (x :: l) = fun p => inB x p || cov l p := by funext p; simp [cov]
    rw [e, countP_or _ _ _ (fun p _ ⟨h1, h2⟩ => by
      obtain ⟨t, y, hy, g1, g2, _⟩ := cov_iff.1 h2
      have := (List.pairwise_cons.1 hg.apart).1 y hy
      simp [inB] at h1
      unfold apartR at this; omega), Int.natCast_add, ← tot_count hl, count_in x hx.1 (by omega)]
    simp only [tot]; omega
theorem tot_same {l m : List Rgn} (hl : Good l) (hm : Good m) (h : ∀ p, (∃ t, Has l p t) ↔ ∃ t, Has m p t) : tot l = tot m := by
  rw [tot_count hl, tot_count hm]
  congr 1
  refine List.countP_congr fun p _ => ?_
  rw [cov_iff, cov_iff]; exact h p
theorem count_one (k : Nat) : ∀ n : Nat, (List.range n).countP (fun p => p == k) = if k < n then 1 else 0
  | 0 => rfl
  | n + 1 => by
    rw [List.range_succ, List.countP_append, count_one k n]
    simp only [List.countP_cons, List.countP_nil]
    by_cases h : n = k
    · subst h; simp
    · have : (n == k) = false := by simpa using h
      simp only [this, Bool.false_eq_true, if_false, Nat.add_zero]
      by_cases h1 : k < n
      · rw [if_pos h1, if_pos (by omega)]
      · rw [if_neg h1, if_neg (by omega)]
theorem all_there {l : List Rgn} {a b : Int} (hg : Good l) (h0 : 0 ≤ a) (hab : a < b) (h64 : b ≤ 64) (h : b - a ≤ tot (inL a b l)) : ∀ p, a ≤ p → p < b → ∃ t, Has l p t := by
  intro p h1 h2
  obtain ⟨k, rfl⟩ := Int.eq_ofNat_of_zero_le (show 0 ≤ p by omega)
  rw [tot_count (good_in hg)] at h
  have hc := count_in ⟨a, b, default⟩ h0 (by simp only; omega) 64
  simp only at hc
  by_cases hk : cov (inL a b l) k = true
  · obtain ⟨t, ht⟩ := cov_iff.1 hk
    exact ⟨t, (has_in.1 ht).1⟩
  · exfalso
    have hle : (List.range 64).countP (cov (inL a b l)) + 1 ≤ (List.range 64).countP (inB ⟨a, b, default⟩) := by
      have e : (List.range 64).countP (fun p => cov (inL a b l) p || p == k) = (List.range 64).countP (cov (inL a b l)) + (List.range 64).countP (fun p => p == k) := countP_or _ _ _ (fun p _ ⟨g1, g2⟩ => by
        simp at g2; subst g2; exact hk g1)
      have e2 : (List.range 64).countP (fun p => p == k) = 1 := by
        rw [count_one k 64, if_pos (by omega)]
      rw [e2] at e
      rw [← e]
      refine List.countP_mono_left fun p _ hp => ?_
      simp only [Bool.or_eq_true, beq_iff_eq] at hp
      rcases hp with hp | rfl
      · obtain ⟨t, ht⟩ := cov_iff.1 hp
        have := (has_in.1 ht).2
        simp [inB]; omega
      · simp [inB]; omega
    omega
end Go.Proofs.Ytglnnplijienbaa
