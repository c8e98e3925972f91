/- flat: how processes seem, in memory; rows by the type of their blocks. -/
import Derived.Test.YtglnnplijienbaaM36
import Derived.Test.YtglnnplijienbaaM33
import Derived.Test.YtglnnplijienbaaM17
import Derived.Test.YtglnnplijienbaaCApk
import Derived.Test.YtglnnplijienbaaM24
namespace Go.Proofs.Ytglnnplijienbaa
open Go.ChangeShapes Go.WideShapes Go.ChangeAt Go.RowKit Go.Joins
set_option linter.unusedVariables false
set_option linter.unusedSimpArgs false
/-- What lies in blocks of types that E lets pass stays. -/
def KeepT (E : TypeId → Prop) (w w' : World) : Prop := ∀ g T cs, E T → Bx w g T cs → Bx w' g T cs
theorem KeepT.refl {E : TypeId → Prop} {w : World} : KeepT E w w := fun _ _ _ _ h => h
theorem KeepT.of {E : TypeId → Prop} {w w' : World} (h : Below w.heap.size w w') : KeepT E w w' := fun _ _ _ _ hb => hb.below h
theorem KeepT.trans {E : TypeId → Prop} {a b c : World} (h : KeepT E a b) (k : KeepT E b c) : KeepT E a c := fun g T cs hT hb => k g T cs hT (h g T cs hT hb)
theorem KeepT.weak {E E' : TypeId → Prop} {w w' : World} (h : KeepT E w w') (he : ∀ T, E' T → E T) : KeepT E' w w' := fun g T cs hT hb => h g T cs (he T hT) hb
theorem Os.keepT {α : Type} {f : α → List Value} {sz : Nat} {T : TypeId} {E : TypeId → Prop} {w w' : World} {base : Nat} {v : Value} {xs : List α} (h : Os f sz T w base v xs) (hk : KeepT E w w') (hT : E T) : Os f sz T w' base v xs := by
  obtain ⟨h1, h | ⟨q, cap, cur, e, hq, hh, hn, hm, hz, hx⟩⟩ := h
  · exact ⟨h1, .inl h⟩
  · exact ⟨h1, .inr ⟨q, cap, cur, e, hq, hk q T cur hT hh, hn, hm, hz, hx⟩⟩
/-- A row of numbers in a block. -/
def Nb (k : IntKind) (T : TypeId) (w : World) (v : Value) (zs : List Int) : Prop := ∃ A c, v = .slice A zs.length c ∧ Own k T w 0 A zs.length c zs
theorem Nb.keepT {k : IntKind} {T : TypeId} {E : TypeId → Prop} {w w' : World} {v : Value} {zs : List Int} (h : Nb k T w v zs) (hk : KeepT E w w') (hT : E T) : Nb k T w' v zs := by
  obtain ⟨A, c, e, h1, h2, h3, h4⟩ := h
  refine ⟨A, c, e, h1, h2, h3, fun hn => ?_⟩
  obtain ⟨g, cur, e2, hg, hh, hc⟩ := h4 hn
  exact ⟨g, cur, e2, hg, hk g T cur hT hh, hc⟩
theorem Own.nb {k : IntKind} {T : TypeId} {w : World} {base n c : Nat} {A : Option Addr} {zs : List Int} (h : Own k T w base A n c zs) : Nb k T w (.slice A n c) zs := by
  obtain ⟨rfl, h2, h3, h4⟩ := h
  refine ⟨A, c, rfl, rfl, h2, h3, fun hn => ?_⟩
  obtain ⟨g, cur, e2, hg, hh, hc⟩ := h4 hn
  exact ⟨g, cur, e2, Nat.zero_le _, hh, hc⟩
theorem Nb.row {k : IntKind} {T : TypeId} {w : World} {v : Value} {zs : List Int} (h : Nb k T w v zs) : ∃ A c, v = .slice A zs.length c ∧ Row k w w.heap.size A zs.length zs := by
  obtain ⟨A, c, e, h⟩ := h
  exact ⟨A, c, e, h.row⟩
/-- A page as it seems: its number, and two slices. -/
structure PgV where
  n : Int
  b : Value
  t : Value
instance : Inhabited PgV := ⟨⟨0, .slice none 0 0, .slice none 0 0⟩⟩
def fG (x : PgV) : List Value := [.int .i64 x.n, x.b, x.t]
theorem fG_len (x : PgV) : (fG x).length = 3 := rfl
theorem info_G : (Try.prog.info? 53).map (fun i => (i.zero, i.size, i.bytes)) = some (some (.agg #[.int .i64 0, .slice none 0 0, .slice none 0 0]), 3, 56) := by kernel_rfl
def byteL (p : Fp) (n : Nat) : List Int := (List.range 64).map (p.bt n)
def tagL (p : Fp) (n : Nat) : List Int := (List.range 4).map (p.tg n)
def PgOk (w : World) (p : Fp) (x : PgV) (n : Nat) : Prop := x.n = (n : Int) ∧ Nb .u8 5 w x.b (byteL p n) ∧ Nb .i64 3 w x.t (tagL p n)
/-- Pages as they seem. -/
def Pgs (w : World) (base : Nat) (v : Value) (p : Fp) (l : List Nat) : Prop := ∃ xs : List PgV, Os fG 3 53 w base v xs ∧ xs.length = l.length ∧ ∀ (i : Nat) x n, xs[i]? = some x → l[i]? = some n → PgOk w p x n
/-- Types of blocks that hold what seems. -/
def Seen (T : TypeId) : Prop := T = 53 ∨ T = 5 ∨ T = 3 ∨ T = 40 ∨ T = 47
theorem PgOk.keepT {E : TypeId → Prop} {w w' : World} {p : Fp} {x : PgV} {n : Nat} (h : PgOk w p x n) (hk : KeepT E w w') (h1 : E 5) (h2 : E 3) : PgOk w' p x n := ⟨h.1, h.2.1.keepT hk h1, h.2.2.keepT hk h2⟩
theorem Pgs.keepT {w w' : World} {base : Nat} {v : Value} {p : Fp} {l : List Nat} (h : Pgs w base v p l) (hk : KeepT Seen w w') : Pgs w' base v p l := by
  obtain ⟨xs, h1, h2, h3⟩ := h
  exact ⟨xs, h1.keepT hk (.inl rfl), h2, fun i x n hx hn => (h3 i x n hx hn).keepT hk (.inr (.inl rfl)) (.inr (.inr (.inl rfl)))⟩
theorem Pgs.nil {w : World} {base : Nat} {p : Fp} : Pgs w base (.slice none 0 0) p [] := ⟨[], Os.nil, rfl, fun i x n hx _ => by simp at hx⟩
/-- A process as it seems, in an array from cell o on. -/
structure Sv (w : World) (base : Nat) (cs : Array Value) (o : Nat) (p : Fp) : Prop where
  live : cs[o]? = some (.bool p.live)
  rg : ∃ v, cs[o + 1]? = some v ∧ Os fR 6 40 w base v p.rg
  ks : Sub cs (o + 2) (kA p.ks)
  pg : ∃ v, cs[o + 10]? = some v ∧ Pgs w base v p (pagesN p.rg)
theorem Sv.keepT {w w' : World} {base : Nat} {cs : Array Value} {o : Nat} {p : Fp} (h : Sv w base cs o p) (hk : KeepT Seen w w') : Sv w' base cs o p :=
  ⟨h.live, by obtain ⟨v, h1, h2⟩ := h.rg; exact ⟨v, h1, h2.keepT hk (.inr (.inr (.inr (.inl rfl))))⟩, h.ks, by obtain ⟨v, h1, h2⟩ := h.pg; exact ⟨v, h1, h2.keepT hk⟩⟩
theorem Sv.arr {w : World} {base : Nat} {cs cs' : Array Value} {o : Nat} {p : Fp} (h : Sv w base cs o p) (he : ∀ j, j < 11 → cs'[o + j]? = cs[o + j]?) : Sv w base cs' o p := by
  refine ⟨by rw [← h.live]; exact he 0 (by decide), ?_, fun i v hv => ?_, ?_⟩
  · obtain ⟨v, h1, h2⟩ := h.rg; exact ⟨v, by rw [← h1]; exact he 1 (by decide), h2⟩
  · have hi : i < 8 := by have := (Array.getElem?_eq_some_iff.1 hv).1; simpa [kA] using this
    have e := he (2 + i) (by omega)
    rw [← Nat.add_assoc] at e
    rw [e]; exact h.ks i v hv
  · obtain ⟨v, h1, h2⟩ := h.pg; exact ⟨v, by rw [← h1]; exact he 10 (by decide), h2⟩
/-- All processes as they seem. -/
structure Seem (w : World) (base : Nat) (cs : Array Value) (W : Fw) : Prop where
  size : cs.size = 44
  one : cs.all (·.oneCell') = true
  each : ∀ k, k < 4 → Sv w base cs (k * 11) (W k)
theorem Seem.keepT {w w' : World} {base : Nat} {cs : Array Value} {W : Fw} (h : Seem w base cs W) (hk : KeepT Seen w w') : Seem w' base cs W := ⟨h.size, h.one, fun k hk4 => (h.each k hk4).keepT hk⟩
theorem Seem.below {w w' : World} {base : Nat} {cs : Array Value} {W : Fw} (h : Seem w base cs W) (hb : Below w.heap.size w w') : Seem w' base cs W := h.keepT (KeepT.of hb)
def fN_v (a : Fan) : Value := .agg (nA a)
theorem fN_len (x : Fan) : (fN x).length = 4 := rfl
theorem fN_one1 : ∀ (x : Fan), ∀ u ∈ fN x, u.oneCell' = true := by intro x; simp [fN, Value.oneCell']
theorem info_N : (Try.prog.info? 47).map (fun i => (i.zero, i.size, i.bytes)) = some (some (.agg #[.int .i64 0, .int .i64 0, .int .i64 0, .int .i64 0]), 4, 32) := by kernel_rfl
theorem infoO : (Try.prog.info? 43).map (·.size) = some 12 := by kernel_rfl
theorem infoPp : (Try.prog.info? 69).map (·.size) = some 4 := by kernel_rfl
theorem infoS4 : (Try.prog.info? 32).map (·.size) = some 44 := by kernel_rfl
theorem infoS1 : (Try.prog.info? 31).map (·.size) = some 11 := by kernel_rfl
theorem infoC1 : (Try.prog.info? 75).map (·.size) = some 68 := by kernel_rfl
theorem infoC64 : (Try.prog.info? 76).map (·.size) = some 4352 := by kernel_rfl
/-- A process of the array of pointers. -/
theorem index_ptrs {gs : Nat → Nat} {k : Nat} (hk : k < 4) (w : World) : (Instr.index 69 (.agg (ptrs gs)) (.int .i64 (k : Int))).run Try.prog w = .ok (.pointer (some ⟨gs k, 0, none⟩)) w := by
  have : k = 0 ∨ k = 1 ∨ k = 2 ∨ k = 3 := by omega
  rcases this with rfl | rfl | rfl | rfl
  · exact indexP0 _ _ _ _ w
  · exact indexP1 _ _ _ _ w
  · exact indexP2 _ _ _ _ w
  · exact indexP3 _ _ _ _ w
/-- One of an array of structs by value. -/
theorem index_aggs {P : Program} {T e : TypeId} {n sz : Nat} (ht : P.underlying T = some (.array n e)) (hi : (P.info? e).map (·.size) = some sz) (hagg : ∀ w, (isAgg e).run P w = .ok true w) {cs : Array Value} {m : Nat} (hm : m < n) (w : World) : (Instr.index T (.agg cs) (.int .i64 (m : Int))).run P w = .ok (.agg (cs.extract (m * sz) (m * sz + sz))) w := by
  obtain ⟨i0, hi0, hs0⟩ := Option.map_eq_some_iff.1 hi
  have hsz : (sizeOf e).run P w = .ok sz w := by rw [run_sizeOf w hi0]; simp [Program.cellsOf, hi0, hs0]
  have h2 : (0 : Int) ≤ (m : Int) ∧ (m : Int) < n := ⟨by omega, by omega⟩
  unfold Instr.index part
  simp [asIntOf, Sem.run_bind, Sem.run_pure, Result.andThen, run_underlying ht, Nat.not_le.2 hm, hsz, hagg]
/-- append of one element: what lies in blocks of other types stays. -/
theorem append_oneK {P : Program} {α : Type} {f : α → List Value} {sz bytes : Nat} {T Ts : TypeId} {z : Value} (ht : P.underlying Ts = some (.slice T)) (hinf : (P.info? T).map (fun i => (i.zero, i.size, i.bytes)) = some (some z, sz, bytes)) (hzs : z.cells.size = sz) (hsz : 0 < sz) (hf : ∀ x, (f x).length = sz)
    {ops : Array Oper} {rest : List Oper} {o : Oper} {a : Act} {Q : Exit → Act → World → Prop} (hgd : o.guard = none) (s x : Operand) (ho : o.op = .call { callee := .builtin .append, args := #[s, x], argTypes := #[Ts, Ts] })
    (base : Nat) (v : Value) (t : List α) (W : World) (c : α) (h1 : ∀ u ∈ f c, u.oneCell' = true) (gx : Nat) (hs : a.eval s = v) (hx : a.eval x = .slice (some ⟨gx, 0, none⟩) 1 1) (hgx : gx = W.heap.size) (hos : Os f sz T W base v t) (hb : base ≤ W.heap.size) (hlen : t.length + 1 ≤ maxLen) (hbytes : (t.length + 1) * bytes ≤ 140737488355328)
    (hK : ∀ g' c' w', Os f sz T w' base (.slice (some ⟨g', 0, none⟩) (t.length + 1) c') (t ++ [c]) → Below base W w' → KeepT (fun T' => T' ≠ T) W w' → wpList P ops Q rest (a.put o.dst (.slice (some ⟨g', 0, none⟩) (t.length + 1) c')) w') :
    wpList P ops Q (o :: rest) a (W.alloc (.cells (f c).toArray T)) := by
  subst hgx
  obtain ⟨i0, hi, hz0, hz1, hz2⟩ := info_parts hinf
  have hW : Below W.heap.size W (W.alloc (.cells (f c).toArray T)) := (Below.refl _ _).alloc (Nat.le_refl _) _
  have ho2 := hos.below hW (Nat.le_refl _)
  refine wpList_append_own _ hgd s x Ts ho base T i0 z sz bytes ht hi hz0 hz1 hz2 hzs hsz v t.length (t.flatMap f) hs ho2 ⟨W.heap.size, 0, none⟩ 1 1 (f c) hx (by rw [hf, Nat.one_mul]) (fun j u h => alloc_cells j u h) h1 hlen hbytes (by simp; omega) ?_
  intro v' w' hown hgrow _
  obtain ⟨g3, c3, rfl, hg3, hc3, hm3⟩ := own_form hown (by omega)
  refine hK g3 c3 w' (os_append (ys := [c]) (by simpa using hown) (by simp)) ((hW.mono hb).trans (grown_below hgrow ho2 (Nat.le_refl _) (by simp; omega))) (fun g T' cs hT hbx => ?_)
  have hb2 := hbx.below hW
  exact (hgrow.block g hb2.lt (own_ne ho2 hb2 hT).symm).trans hb2
theorem append_N {ops : Array Oper} {rest : List Oper} {o : Oper} {a : Act} {Q : Exit → Act → World → Prop} (hgd : o.guard = none) (s x : Operand) (ho : o.op = .call { callee := .builtin .append, args := #[s, x], argTypes := #[24, 24] })
    (base : Nat) (v : Value) (t : List Fan) (W : World) (c : Fan) (gx : Nat) (hs : a.eval s = v) (hx : a.eval x = .slice (some ⟨gx, 0, none⟩) 1 1) (hgx : gx = W.heap.size) (hos : Os fN 4 47 W base v t) (hb : base ≤ W.heap.size) (hlen : t.length + 1 ≤ 4398046511104)
    (hK : ∀ g' c' w', Os fN 4 47 w' base (.slice (some ⟨g', 0, none⟩) (t.length + 1) c') (t ++ [c]) → Below base W w' → KeepT (fun T' => T' ≠ 47) W w' → wpList Try.prog ops Q rest (a.put o.dst (.slice (some ⟨g', 0, none⟩) (t.length + 1) c')) w') :
    wpList Try.prog ops Q (o :: rest) a (W.alloc (.cells #[.int .i64 c.err, .int .i64 c.value, .int .i64 c.fault, .int .i64 c.pos] 47)) :=
  append_oneK Try.underlying24 info_N rfl (by decide) fN_len hgd s x ho base v t W c (fN_one1 c) gx hs hx hgx hos hb (by unfold maxLen; omega) (by omega) hK
theorem Ws.keepT {w w' : World} {gw : Nat} {gs : Nat → Nat} {W : Fw} (h : Ws w gw gs W) (hk : KeepT (fun T' => T' ≠ 47) w w') : Ws w' gw gs W :=
  ⟨hk _ _ _ (by decide) h.top, fun k hk4 => by obtain ⟨cs, h1, h2⟩ := h.each k hk4; exact ⟨cs, hk _ _ _ (by decide) h1, h2.keep fun b cur hb => hk _ _ _ (by decide) hb⟩, h.inj⟩
theorem WsK.keepT {w w' : World} {gw : Nat} {gs : Nat → Nat} {W W' : Fw} (hw : Ws w gw gs W) (h : WsK gw gs W' w w') : KeepT (fun T' => T' ≠ 71 ∧ T' ≠ 78) w w' := by
  obtain ⟨gs', h1, h2, h3⟩ := h
  exact fun g T cs hT hb => h2.bxT (w := w) hw hb hT.1 hT.2
theorem WsK.below {w w' : World} {gw : Nat} {gs : Nat → Nat} {W' : Fw} {B : Nat} (h : WsK gw gs W' w w') (hg : B ≤ gw) (hgs : ∀ k, k < 4 → B ≤ gs k) (hB : B ≤ w.heap.size) : Below B w w' := by
  obtain ⟨gs', h1, h2, h3⟩ := h
  exact h2.below (by rintro k (rfl | ⟨j, hj, rfl⟩); exact hg; exact hgs j hj) hB
section
variable {P : Program} {ops : Array Oper} {rest : List Oper} {dst : Option Tmp} {x y : Operand} {type : TypeId} {pos : String} {after : Array Edge} {guard : Option (Nat × Bool)} {a : Act} {w : World} {Q : Exit → Act → World → Prop}
/-- A struct is loaded out of cells that are known. -/
theorem ldC {t : TypeId} {n : Nat} {d : TypeDesc} (hu : P.underlying t = some d) (hd : d.isRow = true) (hi : (P.info? t).map (·.size) = some n) (g o : Nat) (rs : Array Value) (hx : a.eval x = .pointer (some ⟨g, o, none⟩)) (hw : Region.wanted ⟨dst, .load t x, type, pos, after, guard⟩ (yielded ops a.tmps) = true) (hc : ∀ (j : Nat) (v : Value), rs[j]? = some v → w.cell? ⟨g, o + j, none⟩ = some v) (hn : rs.size = n)
    (h : wpList P ops Q rest (a.put dst (.agg rs)) w) : wpList P ops Q (⟨dst, .load t x, type, pos, after, guard⟩ :: rest) a w := by
  have h' : wpList P ops Q rest (a.put dst (.agg rs.toList.toArray)) w := by simpa using h
  refine wpList_step fun K hK => ?_
  simp only [hw, if_true]
  exact wp_load_mid t x rfl g o hx rs.toList _ (fun j v hv => hc j v (by simpa using hv)) hu hd (by rw [hi, Array.length_toList, hn]) (hK _ _ h')
end
theorem KeepT.of_keep {a b : World} {q : Nat} {T : TypeId} {cs : Array Value} (h : Keep (fun i => i = q) a b) (hx : Bx a q T cs) : KeepT (fun T' => T' ≠ T) a b := fun g T' cs' hT hb => h.bx hb (bx_ne hb hx hT)
theorem Ws.keepE {E : TypeId → Prop} {w w' : World} {gw : Nat} {gs : Nat → Nat} {W : Fw} (h : Ws w gw gs W) (hk : KeepT E w w') (h1 : E 71) (h2 : E 78) (h3 : E 40) : Ws w' gw gs W :=
  ⟨hk _ _ _ h1 h.top, fun k hk4 => by obtain ⟨cs, e1, e2⟩ := h.each k hk4; exact ⟨cs, hk _ _ _ h2 e1, e2.keep fun b cur hb => hk _ _ _ h3 hb⟩, h.inj⟩
/-- What holds at the head of the loop over processes: those ahead of k seem as they are. -/
structure LpS (W0 : World) (B q : Nat) (W : Fw) (k : Nat) (wr : World) : Prop where
  keep : Keep (fun b => b = q) W0 wr
  arr : ∃ cs, Bx wr q 32 cs ∧ cs.size = 44 ∧ cs.all (·.oneCell') = true ∧ ∀ j, j < k → Sv wr B cs (j * 11) (W j)
/-- A new process as it seems, without its pages. -/
def pA (l : Bool) (v : Value) (K : Key4) (pg : Value) : Array Value := #[.bool l, v, .bool K.t0, .int .i64 K.d0, .bool K.t1, .int .i64 K.d1, .bool K.t2, .int .i64 K.d2, .bool K.t3, .int .i64 K.d3, pg]
theorem run_bdS (l : Bool) (A : Option Addr) (n c : Nat) (K : Key4) (w : World) : (Instr.build 31 #[(0, .bool l), (1, .slice A n c), (2, .agg (kA K))]).run Try.prog w = .ok (.agg (pA l (.slice A n c) K (.slice none 0 0))) w := by
  unfold kA pA
  kernel_rfl
theorem pA_keys (l : Bool) (v : Value) (K : Key4) (pg : Value) : ∀ (i : Nat) u, (kA K)[i]? = some u → (pA l v K pg)[2 + i]? = some u := by
  intro i u hu
  have hi : i < 8 := by have := (Array.getElem?_eq_some_iff.1 hu).1; simpa [kA] using this
  have : i = 0 ∨ i = 1 ∨ i = 2 ∨ i = 3 ∨ i = 4 ∨ i = 5 ∨ i = 6 ∨ i = 7 := by omega
  rcases this with rfl | rfl | rfl | rfl | rfl | rfl | rfl | rfl <;> exact hu
section
variable {P : Program} {dst : Option Tmp} {x y z : Operand} {T type : TypeId} {pos : String} {after : Array Edge} {guard : Option (Nat × Bool)} {a : Act} {w : World} {u u' u'' v : Value}
theorem ex_bd3 {i j k : Nat} (hx : a.eval x = u) (hy : a.eval y = u') (hz : a.eval z = u'') (h : (Instr.build T #[(i, u), (j, u'), (k, u'')]).run P w = .ok v w) : (execOp a.eval ⟨dst, .build T #[(i, x), (j, y), (k, z)], type, pos, after, guard⟩).run P w = .ok (.value v) w := by
  unfold execOp
  simp only [List.map_toArray, List.map_cons, List.map_nil, hx, hy, hz, Sem.run_bind, h, Result.andThen_ok, Sem.run_pure]
end
/-- A call that hands back a slice of the call's own. -/
def Sp.own (k : Nat) {α : Type} (f : α → List Value) (sz : Nat) (T : TypeId) (B : Nat) (l : List α) : Sp := ⟨k, fun v => ∃ A n c, v = .slice A n c, fun v w => Os f sz T w B v l, ⟨_, none, 0, 0, rfl⟩, fun v w w' h hb => h.below hb (Nat.le_refl _)⟩
theorem Os.slice {α : Type} {f : α → List Value} {sz : Nat} {T : TypeId} {w : World} {B : Nat} {v : Value} {l : List α} (h : Os f sz T w B v l) : ∃ A n c, v = .slice A n c := by
  obtain ⟨A, c, e, _⟩ := h.form
  exact ⟨A, _, c, e⟩
/-- A process is laid into the array. -/
theorem pA_at {cs : Array Value} {k : Nat} (hs : cs.size = 44) (hk : k < 4) (l : Bool) (v : Value) (K : Key4) (pg : Value) (i : Nat) : (Go.Sort.setMany cs (k * 11) (pA l v K pg).toList)[i]? = if k * 11 ≤ i ∧ i < k * 11 + 11 then (pA l v K pg)[i - k * 11]? else cs[i]? := by
  have hl : (pA l v K pg).toList.length = 11 := by simp [pA]
  rw [setMany_get? _ _ _ _ (by rw [hl, hs]; omega), hl, Array.getElem?_toList]
/-- The pages that are there, ahead of m. -/
def pagesTo (l : List Rgn) (m : Nat) : List Nat := (List.range m).filter fun n => (at? l (n : Int)).isSome
theorem pagesTo_all (l : List Rgn) : pagesTo l 64 = pagesN l := rfl
theorem pagesTo_some {l : List Rgn} {m : Nat} {a : Att} (h : at? l (m : Int) = some a) : pagesTo l (m + 1) = pagesTo l m ++ [m] := by
  unfold pagesTo
  rw [List.range_succ, List.filter_append]
  simp [h]
theorem pagesTo_none {l : List Rgn} {m : Nat} (h : at? l (m : Int) = none) : pagesTo l (m + 1) = pagesTo l m := by
  unfold pagesTo
  rw [List.range_succ, List.filter_append]
  simp [h]
theorem pagesTo_le (l : List Rgn) (m : Nat) : (pagesTo l m).length ≤ m := by
  unfold pagesTo
  have := List.length_filter_le (fun n : Nat => (at? l (n : Int)).isSome) (List.range m)
  simpa using this
/-- What holds at the head of the loop over pages. -/
structure LpP (w8 : World) (q o : Nat) (cs : Array Value) (p : Fp) (m : Nat) (wr : World) : Prop where
  keep : Keep (fun b => b = q) w8 wr
  arr : ∃ v, Bx wr q 32 (cs.setIfInBounds (o + 10) v) ∧ Pgs wr w8.heap.size v p (pagesTo p.rg m)
theorem Pgs.slice {w : World} {base : Nat} {v : Value} {p : Fp} {l : List Nat} (h : Pgs w base v p l) : ∃ A n c, v = .slice A n c := by
  obtain ⟨xs, h1, _⟩ := h
  exact h1.slice
/-- A page of contents. -/
structure Cn (r : Array Value) (p : Fp) (m : Nat) : Prop where
  size : r.size = 68
  one : r.all (·.oneCell') = true
  b : ∀ i, i < 64 → r[i]? = some (.int .u8 (p.bt m i))
  t : ∀ i, i < 4 → r[64 + i]? = some (.int .i64 (p.tg m i))
theorem all_extract {cs : Array Value} (h : cs.all (·.oneCell') = true) (a b : Nat) : (cs.extract a b).all (·.oneCell') = true := by
  rw [Array.all_eq_true] at h ⊢
  intro i hi
  rw [Array.getElem_extract]
  exact h _ _
theorem Pv.pages {w : World} {cs : Array Value} {p : Fp} (h : Pv w cs p) : (cs.extract 10 4362).size = 4352 ∧ Sub cs 10 (cs.extract 10 4362) ∧ ∀ m, m < 64 → Cn ((cs.extract 10 4362).extract (m * 68) (m * 68 + 68)) p m := by
  have hs := h.size
  have h1 : (cs.extract 10 4362).size = 4352 := by rw [Array.size_extract, hs]; rfl
  refine ⟨h1, fun i v hv => ?_, fun m hm => ?_⟩
  · rw [Array.getElem?_extract] at hv
    split at hv
    · exact hv
    · cases hv
  · have hget : ∀ j, j < 68 → ((cs.extract 10 4362).extract (m * 68) (m * 68 + 68))[j]? = cs[10 + m * 68 + j]? := fun j hj => by
      rw [Array.getElem?_extract, h1, if_pos (by omega), Array.getElem?_extract, hs, if_pos (by omega), Nat.add_assoc]
    refine ⟨by rw [Array.size_extract, h1]; omega, all_extract (all_extract h.one _ _) _ _, fun i hi => ?_, fun i hi => ?_⟩
    · rw [hget i (by omega)]; exact h.bt m i hm hi
    · rw [hget (64 + i) (by omega), ← Nat.add_assoc]; exact h.tg m i hm hi
theorem Cn.brow {r : Array Value} {p : Fp} {m : Nat} (h : Cn r p m) {w : World} {b : Nat} {T : TypeId} (hb : Bx w b T r) : Row .u8 w w.heap.size (some ⟨b, 0, none⟩) 64 (byteL p m) :=
  ⟨by simp [byteL], by decide, fun _ => ⟨b, 0, rfl, hb.lt, fun i hi => by
    rw [hb.cell, Nat.zero_add, h.b i hi]
    simp [byteL, List.getD, hi]⟩⟩
theorem Cn.trow {r : Array Value} {p : Fp} {m : Nat} (h : Cn r p m) {w : World} {b : Nat} {T : TypeId} (hb : Bx w b T r) : Row .i64 w w.heap.size (some ⟨b, 64, none⟩) 4 (tagL p m) :=
  ⟨by simp [tagL], by decide, fun _ => ⟨b, 64, rfl, hb.lt, fun i hi => by
    rw [hb.cell, h.t i hi]
    simp [tagL, List.getD, hi]⟩⟩
/-- A call that hands back a row of numbers. -/
def Sp.nb (at_ : Nat) (k : IntKind) (T : TypeId) (zs : List Int) : Sp := ⟨at_, fun v => ∃ A n c, v = .slice A n c, fun v w => Nb k T w v zs, ⟨_, none, 0, 0, rfl⟩, fun v w w' h hb => h.keepT (E := fun _ => True) (KeepT.of hb) trivial⟩
theorem Nb.slice {k : IntKind} {T : TypeId} {w : World} {v : Value} {zs : List Int} (h : Nb k T w v zs) : ∃ A n c, v = .slice A n c := by
  obtain ⟨A, c, e, _⟩ := h
  exact ⟨A, _, c, e⟩
theorem Pgs.push {w w' : World} {base : Nat} {p : Fp} {l : List Nat} {xs : List PgV} {x : PgV} {m : Nat} {v : Value} (h2 : xs.length = l.length) (h3 : ∀ (i : Nat) x n, xs[i]? = some x → l[i]? = some n → PgOk w p x n)
    (hk : KeepT (fun T' => T' ≠ 53) w w') (ho : Os fG 3 53 w' base v (xs ++ [x])) (hx : PgOk w p x m) : Pgs w' base v p (l ++ [m]) := by
  refine ⟨xs ++ [x], ho, by simp [h2], fun i y n hy hn => ?_⟩
  by_cases hi : i < xs.length
  · rw [List.getElem?_append_left hi] at hy
    rw [List.getElem?_append_left (by omega)] at hn
    exact (h3 i y n hy hn).keepT hk (by decide) (by decide)
  · rw [List.getElem?_append_right (by omega)] at hy hn
    have e : i - xs.length = 0 := by
      have := (List.getElem?_eq_some_iff.1 hy).1
      simp at this; omega
    have e2 : i - l.length = 0 := by omega
    rw [e] at hy
    rw [e2] at hn
    simp only [List.getElem?_cons_zero, Option.some.injEq] at hy hn
    subst hy hn
    exact hx.keepT hk (by decide) (by decide)
theorem append_G {ops : Array Oper} {rest : List Oper} {o : Oper} {a : Act} {Q : Exit → Act → World → Prop} (hgd : o.guard = none) (s x : Operand) (ho : o.op = .call { callee := .builtin .append, args := #[s, x], argTypes := #[29, 29] })
    (base : Nat) (v : Value) (t : List PgV) (W : World) (n : Int) (A8 : Option Addr) (n8 c8 : Nat) (A9 : Option Addr) (n9 c9 : Nat) (gx : Nat) (hs : a.eval s = v) (hx : a.eval x = .slice (some ⟨gx, 0, none⟩) 1 1) (hgx : gx = W.heap.size) (hos : Os fG 3 53 W base v t) (hb : base ≤ W.heap.size) (hlen : t.length + 1 ≤ 65)
    (hK : ∀ g' c' w', Os fG 3 53 w' base (.slice (some ⟨g', 0, none⟩) (t.length + 1) c') (t ++ [⟨n, .slice A8 n8 c8, .slice A9 n9 c9⟩]) → Below base W w' → KeepT (fun T' => T' ≠ 53) W w' → wpList Try.prog ops Q rest (a.put o.dst (.slice (some ⟨g', 0, none⟩) (t.length + 1) c')) w') :
    wpList Try.prog ops Q (o :: rest) a (W.alloc (.cells #[.int .i64 n, .slice A8 n8 c8, .slice A9 n9 c9] 53)) :=
  append_oneK Try.underlying29 info_G rfl (by decide) fG_len hgd s x ho base v t W ⟨n, .slice A8 n8 c8, .slice A9 n9 c9⟩ (by intro u hu; simp [fG] at hu; rcases hu with rfl | rfl | rfl <;> rfl) gx hs hx hgx hos hb (by unfold maxLen; omega) (by omega) hK
theorem Keep.low {S : Nat → Prop} {a b c : World} (h : Keep S a b) (k : Below a.heap.size b c) : Keep S a c :=
  ⟨k.os.trans h.os, k.tape.trans h.tape, k.output.trans h.output, Nat.le_trans h.size k.size, fun i hi hn => (k.block i hi).trans (h.block i hi hn)⟩
theorem Pgs.rebase {w : World} {base B : Nat} {v : Value} {p : Fp} {l : List Nat} (h : Pgs w base v p l) (hb : B ≤ base) : Pgs w B v p l := by
  obtain ⟨xs, h1, h2⟩ := h
  exact ⟨xs, h1.rebase hb, h2⟩
theorem KeepT.seen {w w' : World} (h : KeepT (fun T' => T' ≠ 32) w w') : KeepT Seen w w' := h.weak fun T hT => by
  unfold Seen at hT; rcases hT with rfl | rfl | rfl | rfl | rfl <;> decide
/-- The round's end: one page more. -/
theorem LpP.push {ww wr w7 w9 : World} {q o : Nat} {cs : Array Value} {p : Fp} {m : Nat} {v8 v11 v9 vp : Value} {xs : List PgV} (hQ : Bx ww q 32 cs) (hk : Keep (fun b => b = q) ww wr) (h7 : Below wr.heap.size wr w7) (h9 : Below ww.heap.size w7 w9)
    (hx : Bx w9 q 32 (cs.setIfInBounds (o + 10) vp)) (hl : xs.length = (pagesTo p.rg m).length) (hp : ∀ (i : Nat) x n, xs[i]? = some x → (pagesTo p.rg m)[i]? = some n → PgOk w7 p x n) (kt : KeepT (fun T' => T' ≠ 53) w7 w9)
    (ho : Os fG 3 53 w9 ww.heap.size v9 (xs ++ [⟨(m : Int), v8, v11⟩])) (n8 : Nb .u8 5 w7 v8 (byteL p m)) (n11 : Nb .i64 3 w7 v11 (tagL p m)) (ht : pagesTo p.rg (m + 1) = pagesTo p.rg m ++ [m]) :
    LpP ww q o cs p (m + 1) (w9.setCell ⟨q, o + 10, none⟩ v9) := by
  have k9 : Keep (fun b => b = q) ww w9 := (hk.more h7).low h9
  have ks := KeepT.of_keep (Keep.cell (S := fun b => b = q) (Keep.refl (fun b => b = q) w9) (.inl rfl) (o + 10) v9) hx
  refine ⟨Keep.cell (S := fun b => b = q) k9 (.inl rfl) _ _, v9, ?_, ?_⟩
  · have := hx.set (o + 10) v9
    rwa [Array.setIfInBounds_setIfInBounds] at this
  · rw [ht]
    exact (Pgs.push hl hp kt ho ⟨rfl, n8, n11⟩).keepT ks.seen
/-- The outer round's end: one process more. -/
theorem LpS.push {w0 ww wr : World} {B q k : Nat} {W : Fw} {c8 : Array Value} {p : Fp} {vr : Value} (hp : p = W k) (hk8 : Keep (fun b => b = q) w0 ww) (hX : Bx ww q 32 c8) (hs : c8.size = 44) (h1 : c8.all (·.oneCell') = true) (hv : ∀ j, j < k → Sv ww B c8 (j * 11) (W j))
    (hL : LpP ww q (k * 11) c8 p 64 wr) (hB : B ≤ ww.heap.size) (g0 : c8[k * 11]? = some (.bool p.live)) (g1 : c8[k * 11 + 1]? = some vr) (ho : Os fR 6 40 ww B vr p.rg) (g2 : Sub c8 (k * 11 + 2) (kA p.ks)) (hk : k < 4) : LpS w0 B q W (k + 1) wr := by
  obtain ⟨vp, hx, hpg⟩ := hL.arr
  have kt := KeepT.of_keep hL.keep hX
  obtain ⟨Ap, np, cp, rfl⟩ := hpg.slice
  refine ⟨hk8.trans hL.keep (fun _ _ h => h), c8.setIfInBounds (k * 11 + 10) (.slice Ap np cp), hx, by rw [Array.size_setIfInBounds]; exact hs, all_set h1 _ rfl, fun j hj => ?_⟩
  by_cases e : j = k
  · subst e
    rw [← hp]
    refine ⟨?_, ⟨vr, ?_, ho.keepT kt (by decide)⟩, fun i u hu => ?_, ⟨_, Array.getElem?_setIfInBounds_self_of_lt (by omega), hpg.rebase hB⟩⟩
    · rw [Array.getElem?_setIfInBounds_ne (by omega)]; exact g0
    · rw [Array.getElem?_setIfInBounds_ne (by omega)]; exact g1
    · have hi : i < 8 := by have := (Array.getElem?_eq_some_iff.1 hu).1; simpa [kA] using this
      rw [Array.getElem?_setIfInBounds_ne (by omega)]; exact g2 i u hu
  · exact ((hv j (by omega)).keepT kt.seen).arr fun i hi => Array.getElem?_setIfInBounds_ne (by omega)
end Go.Proofs.Ytglnnplijienbaa
