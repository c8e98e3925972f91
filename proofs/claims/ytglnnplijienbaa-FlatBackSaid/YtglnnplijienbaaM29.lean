/- Several texts in one: Fle, Fls, Flh, Flf. -/
import Derived.Test.YtglnnplijienbaaM22
import Derived.Test.YtglnnplijienbaaM17
/- region.Some with a function that holds variables; flat.Fault, flat.Right. -/
namespace Go.Proofs.Ytglnnplijienbaa
open Go.ChangeShapes Go.WideShapes Go.ChangeAt Go.RowKit Go.Joins
set_option linter.unusedVariables false
set_option linter.unusedSimpArgs false
set_option maxRecDepth 100000
def AnsC (g : Nat) (cb : Array Value) (p : Att → Bool) (base : Nat) (w : World) : Prop := ∀ (W : World) (x : Att), Below base w W → Calls Try.prog g (#[.agg #[.int .i64 x.r, .int .i64 x.k, .bool x.g, .bool x.s]] ++ cb) W fun e w' => e = .returned (.bool (p x)) ∧ Below W.heap.size W w'
theorem some_predC (g : Nat) (cb : Array Value) (eg : ∀ args w, (callFunc g args).run Try.prog w = .ok (.enter g args) w) (p : Att → Bool) (w0 w : World) (b b0 base : Nat) (hg : AnsC g cb p b0 w0) (h0 : Below b0 w0 w) (hb0 : b0 ≤ base) (hb : b < base) (hbase : base ≤ w.heap.size) (hc : w.cell? ⟨b, 0, none⟩ = some (.func (.func g) #[] cb)) :
    PredR 64 #[.pointer (some ⟨b, 0, none⟩)] (fun x => p x.a) base w := by
  intro W x hW
  have h1 : W.cell? ⟨b, 0, none⟩ = some (.func (.func g) #[] cb) := (hW.cell (p := ⟨b, 0, none⟩) hb).trans hc
  have hlt : b < W.heap.size := by have := hW.size; omega
  have hcall := hg (W.alloc (.cells #[.int .i64 x.f, .int .i64 x.t, .int .i64 x.a.r, .int .i64 x.a.k, .bool x.a.g, .bool x.a.s] 40)) x.a ((h0.trans (hW.mono hb0)).trans ((below1 _ _).mono (by have := hW.size; omega)))
  clear hW hc hg h0
  go_enter Try.func64, Try.ntmps64
  go_wp2_with (go_at_fn g; refine hcall.mono ?_; rintro e w' ⟨rfl, hb'⟩)
  go_ret
  exact ⟨ret_b rfl, ((Below.refl _ _).alloc (Nat.le_refl _) _).trans (hb'.mono (by simp))⟩
set_option maxHeartbeats 1000000 in
theorem some_anyC (g : Nat) (cb : Array Value) (eg : ∀ args w, (callFunc g args).run Try.prog w = .ok (.enter g args) w) (p : Att → Bool) (w : World) (hg : AnsC g cb p w.heap.size w) (A : Option Addr) (n c : Nat) (xs : List Rgn) (a b : Int) (B : Nat) (hz : Rw fR 6 w B A n xs) (hB : B ≤ w.heap.size) (hbig : n ≤ 1000000) :
    Calls Try.prog 44 #[.slice A n c, .int .i64 a, .int .i64 b, .func (.func g) #[] cb] w fun e w' => e = .returned (.bool ((inL a b xs).any fun x => p x.a)) ∧ Below w.heap.size w w' := by
  have hln := hz.1
  have hil : (inL a b xs).length ≤ 1000000 := Nat.le_trans (inL_len a b xs) (by omega)
  have hW0 : Below w.heap.size w (w.alloc (.cells #[.func (.func g) #[] cb] 104)) := (Below.refl _ _).alloc (Nat.le_refl _) _
  have hcut := cut_any A n c xs a b (w.alloc (.cells #[.func (.func g) #[] cb] 104)) B (hz.below (hW0.mono hB)) (by simp; omega) hbig
  have HP := Lib.hid (fun w1 h0 hs hb => some_predC g cb eg p w w1 w.heap.size w.heap.size (w.heap.size + 1) hg h0 (Nat.le_succ _) (Nat.lt_succ_self _) hs hb)
  have hbox : (w.alloc (.cells #[.func (.func g) #[] cb] 104)).cell? ⟨w.heap.size, 0, none⟩ = some (.func (.func g) #[] cb) := by simp [go_sem]
  have HBX := Lib.hid hbox
  have HW0 := Lib.hid hW0
  clear hg hz hln hbox hW0
  generalize inL a b xs = il at *
  go_enter Try.func44, Try.ntmps44
  go_wp2_with (go_at_call 59; refine hcut.mono ?_; rintro e w1 ⟨vo, vi, rfl, ho, hi, hap, hb1⟩)
  simp only [World.size_alloc] at ho hi hb1
  have hs1 : w.heap.size + 1 ≤ w1.heap.size := by have := hb1.size; simpa using this
  have hP := HP.out w1 (HW0.out.trans (hb1.mono (Nat.le_succ _))) hs1 ((hb1.cell (p := ⟨w.heap.size, 0, none⟩) (Nat.lt_succ_self _)).trans HBX.out)
  obtain ⟨Ai, ci, rfl, hl1, hl2, hr⟩ := hi.row fR_len
  have hcon := containsFunc_R _ _ (enters_of Try.func64 (by kernel_rfl) rfl) (fun x => p x.a) Ai il.length ci il w1 w1.heap.size (w.heap.size + 1) hr (Nat.le_refl _) hs1 (by omega) hP
  have HW1 := Lib.hid (HW0.out.trans (hb1.mono (by omega)))
  clear hP hr ho hi hap hb1
  go_wp2_with (go_at_call 63; refine hcon.mono ?_; rintro e w2 ⟨rfl, hb2⟩)
  go_ret
  exact ⟨ret_b rfl, HW1.out.trans (hb2.mono (by omega))⟩
/-- Hold's function: whether a region has this key. -/
theorem key_ans (b : Nat) (k : Int) (w : World) (base : Nat) (hb : b < base) (hbs : base ≤ w.heap.size) (hc : w.cell? ⟨b, 5, none⟩ = some (.int .i64 k)) : AnsC 50 #[.pointer (some ⟨b, 0, none⟩)] (fun a => decide (a.k = k)) base w := by
  intro W x hW
  have c1 : W.cell? ⟨b, 5, none⟩ = some (.int .i64 k) := (hW.cell (p := ⟨b, 5, none⟩) hb).trans hc
  have l1 : b < W.heap.size := Nat.lt_of_lt_of_le hb (Nat.le_trans hbs hW.size)
  clear hc
  go_enter Try.func50, Try.ntmps50
  go_wp2
  go_ret
  exact ⟨ret_b (by by_cases e : x.k = k <;> simp [e]), (Below.refl _ _).alloc (Nat.le_refl _) _⟩
end Go.Proofs.Ytglnnplijienbaa

/- flat: answers and lists of regions in memory. -/
namespace Go.Proofs.Ytglnnplijienbaa
open Go.ChangeShapes Go.WideShapes Go.ChangeAt Go.RowKit Go.Joins
set_option linter.unusedVariables false
set_option linter.unusedSimpArgs false
set_option maxRecDepth 100000
theorem infoN : (Try.prog.info? 47).map (·.size) = some 4 := by kernel_rfl
/-- A list of regions that is read. -/
def Rv (w : World) (v : Value) (l : List Rgn) : Prop := ∃ A n c, v = .slice A n c ∧ Rw fR 6 w w.heap.size A n l ∧ n ≤ 64
theorem Rv.below {w w' : World} {v : Value} {l : List Rgn} (h : Rv w v l) (hb : Below w.heap.size w w') : Rv w' v l := by
  obtain ⟨A, n, c, e, h, hn⟩ := h
  exact ⟨A, n, c, e, h.on hb (Nat.le_refl _), hn⟩
theorem Rv.of {w : World} {base : Nat} {v : Value} {l : List Rgn} (h : Os fR 6 40 w base v l) (hn : rightL l = true) : Rv w v l := by
  have hl := rightL_len hn
  obtain ⟨A, c, rfl, _, _⟩ := h.form
  obtain ⟨A', c', e, _, _, hr⟩ := h.row fR_len
  cases e
  exact ⟨A, l.length, c, rfl, hr, hl⟩
theorem Rv.nil {w : World} : Rv w (.slice none 0 0) [] := ⟨none, 0, 0, rfl, Rw.nil, by omega⟩
def GivesMA (w : World) (r : List Rgn × Fan) (e : Ending) (w' : World) : Prop := ∃ u, e = .returned (.tuple #[u, r.2.v]) ∧ Os fR 6 40 w' w.heap.size u r.1 ∧ Below w.heap.size w w'
def nA (a : Fan) : Array Value := #[.int .i64 a.err, .int .i64 a.value, .int .i64 a.fault, .int .i64 a.pos]
theorem nA_one (a : Fan) : (nA a).all (·.oneCell') = true := by simp [nA, Value.oneCell']
theorem run_ansv {w : World} {g : Nat} {a : Fan} (h : Bx w g 47 (nA a)) : (loadVar 47 ⟨g, 0, none⟩).run Try.prog w = .ok a.v w :=
  run_ldv Try.underlying47 rfl infoN h (Sub.all _) rfl
theorem Os.orow {α : Type} {f : α → List Value} {sz : Nat} {T : TypeId} {w : World} {base g : Nat} {v : Value} {xs : List α} (h : Os f sz T w base v xs) (hg : g < base) (cs : Array Value) : Os f sz T (w.setRow g cs) base v xs := by
  obtain ⟨h1, h | ⟨q, cap, cur, e, hq, hh, hn, hm, hz, hx⟩⟩ := h
  · exact ⟨h1, .inl h⟩
  · exact ⟨h1, .inr ⟨q, cap, cur, e, hq, (setRow_other w g q cs (by omega)).trans hh, hn, hm, hz, hx⟩⟩
theorem results_tmp_cell {fn : Func} {p u : Tmp} {ty : TypeId} (h : fn.results = #[.tmp u, .cell p ty]) (tmps : Array Value) (P : Program) (w : World) :
    (results fn tmps).run P w = ((asAddr (tmps.getD p undef)).run P w).andThen fun a w₁ => ((loadVar ty a).run P w₁).andThen fun v w₂ => .ok (.tuple #[tmps.getD u undef, v]) w₂ := by
  simp only [results, h]
  simp [Sem.run_bind, Result.andThen]
/-- The end: the answer lies in block g. -/
theorem finMA {w W : World} {g : Nat} {z : Array Value} {r : List Rgn × Fan} {u : Value} (hx : Bx W g 47 z) (ho : Os fR 6 40 W w.heap.size u r.1) (hb : Below w.heap.size w W) (hg : w.heap.size ≤ g) (hu : ∀ k, u.ownBlock = some k → k ≠ g) : GivesMA w r (.returned (.tuple #[u, r.2.v])) (W.setRow g (nA r.2)) := by
  refine ⟨u, rfl, ?_, below_setRow hb hg _⟩
  obtain ⟨h1, h | ⟨q, cap, cur, e, hq, hh, hn, hm, hz, hx'⟩⟩ := ho
  · exact ⟨h1, .inl h⟩
  · exact ⟨h1, .inr ⟨q, cap, cur, e, hq, (setRow_other W g q _ (hu q (by rw [e]; rfl))).trans hh, hn, hm, hz, hx'⟩⟩
end Go.Proofs.Ytglnnplijienbaa

/- flat: processes in memory. -/
namespace Go.Proofs.Ytglnnplijienbaa
open Go.ChangeShapes Go.WideShapes Go.ChangeAt Go.RowKit Go.Joins
set_option linter.unusedVariables false
set_option linter.unusedSimpArgs false
set_option maxRecDepth 100000
/-- All blocks but some are as they were. -/
structure Keep (S : Nat → Prop) (w w' : World) : Prop where
  os : w'.os = w.os
  tape : w'.tape = w.tape
  output : w'.output = w.output
  size : w.heap.size ≤ w'.heap.size
  block : ∀ k, k < w.heap.size → ¬ S k → w'.heap[k]? = w.heap[k]?
theorem Keep.refl (S : Nat → Prop) (w : World) : Keep S w w := ⟨rfl, rfl, rfl, Nat.le_refl _, fun _ _ _ => rfl⟩
theorem Keep.of {S : Nat → Prop} {w w' : World} (h : Below w.heap.size w w') : Keep S w w' := ⟨h.os, h.tape, h.output, h.size, fun k hk _ => h.block k hk⟩
theorem Keep.trans {S S' : Nat → Prop} {a b c : World} (h : Keep S a b) (k : Keep S' b c) (hs : ∀ i, i < a.heap.size → S' i → S i) : Keep S a c :=
  ⟨k.os.trans h.os, k.tape.trans h.tape, k.output.trans h.output, Nat.le_trans h.size k.size, fun i hi hn => (k.block i (Nat.lt_of_lt_of_le hi h.size) (fun h' => hn (hs i hi h'))).trans (h.block i hi hn)⟩
theorem Keep.more {S : Nat → Prop} {a b c : World} (h : Keep S a b) (k : Below b.heap.size b c) : Keep S a c := h.trans (Keep.of (S := S) k) fun _ _ h => h
theorem Keep.below {S : Nat → Prop} {w w' : World} {B : Nat} (h : Keep S w w') (hB : ∀ k, S k → B ≤ k) (hw : B ≤ w.heap.size) : Below B w w' :=
  ⟨h.os, h.tape, h.output, h.size, fun k hk => h.block k (by omega) (fun hs => by have := hB k hs; omega)⟩
theorem Keep.row {S : Nat → Prop} {a b : World} (h : Keep S a b) {g : Nat} (hg : S g ∨ a.heap.size ≤ g) (cs : Array Value) : Keep S a (b.setRow g cs) :=
  ⟨h.os, h.tape, h.output, by simpa [World.setRow] using h.size, fun k hk hn => (setRow_other b g k cs (by rintro rfl; rcases hg with hg | hg; exact hn hg; omega)).trans (h.block k hk hn)⟩
theorem Keep.cell {S : Nat → Prop} {a b : World} (h : Keep S a b) {g : Nat} (hg : S g ∨ a.heap.size ≤ g) (i : Nat) (v : Value) : Keep S a (b.setCell ⟨g, i, none⟩ v) :=
  ⟨h.os, h.tape, h.output, by simpa [World.setCell] using h.size, fun k hk hn => (Below.heap_setCell b ⟨g, i, none⟩ v k (by rintro rfl; rcases hg with hg | hg; exact hn hg; omega)).trans (h.block k hk hn)⟩
/-- A list of regions in a block of regions. -/
def Rt (w : World) (v : Value) (l : List Rgn) : Prop := ∃ A n c, v = .slice A n c ∧ l.length = n ∧ n ≤ 64 ∧ (0 < n → ∃ b off cur, A = some ⟨b, off, none⟩ ∧ Bx w b 40 cur ∧ ∀ i x, l[i]? = some x → ∀ j u, (fR x)[j]? = some u → cur[off + i * 6 + j]? = some u)
theorem Rt.rv {w : World} {v : Value} {l : List Rgn} (h : Rt w v l) : Rv w v l := by
  obtain ⟨A, n, c, e, hl, hn, hc⟩ := h
  refine ⟨A, n, c, e, ⟨hl, by unfold maxLen; omega, fun h0 => ?_⟩, hn⟩
  obtain ⟨b, off, cur, e', hb, hx⟩ := hc h0
  exact ⟨b, off, e', hb.lt, fun i x hi j u hu => by rw [hb.cell]; exact hx i x hi j u hu⟩
theorem Rt.keep {w w' : World} {v : Value} {l : List Rgn} (h : Rt w v l) (hk : ∀ b cur, Bx w b 40 cur → Bx w' b 40 cur) : Rt w' v l := by
  obtain ⟨A, n, c, e, hl, hn, hc⟩ := h
  refine ⟨A, n, c, e, hl, hn, fun h0 => ?_⟩
  obtain ⟨b, off, cur, e', hb, hx⟩ := hc h0
  exact ⟨b, off, cur, e', hk b cur hb, hx⟩
theorem Rt.below {w w' : World} {v : Value} {l : List Rgn} (h : Rt w v l) (hb : Below w.heap.size w w') : Rt w' v l := h.keep fun b cur h => h.below hb
theorem bx_ne {w : World} {b g : Nat} {T T' : TypeId} {cur cs : Array Value} (h : Bx w b T cur) (hx : Bx w g T' cs) (ht : T ≠ T') : ¬ b = g := by
  rintro rfl
  unfold Bx at h hx
  rw [h] at hx
  injection hx with hx
  injection hx with _ hx
  exact ht hx
theorem Rt.row {w : World} {v : Value} {l : List Rgn} (h : Rt w v l) {g : Nat} {T : TypeId} {cs : Array Value} (hx : Bx w g T cs) (ht : 40 ≠ T) (cs' : Array Value) : Rt (w.setRow g cs') v l := h.keep fun b cur h => h.orow (bx_ne h hx ht) cs'
theorem Rt.cell {w : World} {v : Value} {l : List Rgn} (h : Rt w v l) {g : Nat} {T : TypeId} {cs : Array Value} (hx : Bx w g T cs) (ht : 40 ≠ T) (i : Nat) (u : Value) : Rt (w.setCell ⟨g, i, none⟩ u) v l := h.keep fun b cur h => h.other (bx_ne h hx ht) i u
theorem Rt.of {w : World} {base : Nat} {v : Value} {l : List Rgn} (h : Os fR 6 40 w base v l) (hn : l.length ≤ 64) : Rt w v l := by
  obtain ⟨A, c, e, _, _, hr⟩ := h.row fR_len
  refine ⟨A, l.length, c, e, rfl, hn, fun h0 => ?_⟩
  obtain ⟨b, off, e2, hb, hc⟩ := hr.2.2 h0
  obtain ⟨h1, h | ⟨q, cap, cur, e', hq, hh, _, _, _, hx⟩⟩ := h
  · rw [h.2] at h0; exact absurd h0 (Nat.lt_irrefl 0)
  · rw [e, e2] at e'
    injection e' with e3 e4 e5
    injection e3 with e3
    injection e3 with e3 e6
    subst e3 e6
    exact ⟨b, 0, cur, e2, hh, fun i x hi j u hu => by rw [← Bx.cell (T := 40) hh]; exact hc i x hi j u hu⟩
theorem Rt.nil {w : World} : Rt w (.slice none 0 0) [] := ⟨none, 0, 0, rfl, rfl, by omega, fun h => absurd h (by omega)⟩
end Go.Proofs.Ytglnnplijienbaa

/- flat.Fault, flat.Right. -/
namespace Go.Proofs.Ytglnnplijienbaa
open Go.ChangeShapes Go.WideShapes Go.ChangeAt Go.RowKit Go.Joins
set_option linter.unusedVariables false
set_option linter.unusedSimpArgs false
set_option maxRecDepth 100000
theorem infoKs : (Try.prog.info? 28).map (·.size) = some 8 := by kernel_rfl
theorem below2_of {w w' : World} {o1 o2 : Obj} (h : w' = (w.alloc o1).alloc o2) : Below w.heap.size w w' := by rw [h]; exact (below1 _ _).alloc (by simp) _
set_option maxHeartbeats 4000000 in
theorem fault_any {w : World} {v : Value} {l : List Rgn} (h : Rv w v l) (K : Key4) (pg way : Int) :
    Calls Try.prog 70 #[v, K.v, .int .i64 pg, .int .i64 way] w fun e w' => e = .returned (.int .i64 (faultF l K pg way)) ∧ Below w.heap.size w w' := by
  obtain ⟨t0, d0, t1, d1, t2, d2, t3, d3⟩ := K
  obtain ⟨A, n, c, rfl, hz, hn⟩ := h
  have HP := Lib.hid (fun r key tg sd W => page_any r key tg sd ⟨t0, d0, t1, d1, t2, d2, t3, d3⟩ way W)
  simp only [Key4.v] at HP ⊢
  have HF := Lib.hid (find_any A n c l pg (w.alloc (.cells #[.bool t0, .int .i64 d0, .bool t1, .int .i64 d1, .bool t2, .int .i64 d2, .bool t3, .int .i64 d3] 28)) w.heap.size (hz.below (below1 _ _)) (by simp) (by omega))
  have HB1 := Lib.hid (below1 w (.cells #[.bool t0, .int .i64 d0, .bool t1, .int .i64 d1, .bool t2, .int .i64 d2, .bool t3, .int .i64 d3] 28))
  have HX1 : Hid (Bx (w.alloc (.cells #[.bool t0, .int .i64 d0, .bool t1, .int .i64 d1, .bool t2, .int .i64 d2, .bool t3, .int .i64 d3] 28)) w.heap.size 28 #[.bool t0, .int .i64 d0, .bool t1, .int .i64 d1, .bool t2, .int .i64 d2, .bool t3, .int .i64 d3]) := Lib.hid (Bx.new _ _ _)
  have HR := Lib.hid (show faultF l ⟨t0, d0, t1, d1, t2, d2, t3, d3⟩ pg way = (match at? l pg with | none => 1 | some a => pageF a.r a.k ⟨t0, d0, t1, d1, t2, d2, t3, d3⟩ way) from rfl)
  clear hz
  unfold FindP at HF
  cases ha : at? l pg with
  | none =>
    rw [ha] at HF HR
    have HR2 : Hid (faultF l ⟨t0, d0, t1, d1, t2, d2, t3, d3⟩ pg way = 1) := Lib.hid HR.out
    clear HR HP
    generalize faultF l ⟨t0, d0, t1, d1, t2, d2, t3, d3⟩ pg way = r at *
    simp only [Option.getD, Option.isSome] at HF
    unfold zA at HF
    go_enter Try.func70, Try.ntmps70
    go_wp2_with (first
      | (go_at_call 20
         refine HF.out.mono ?_
         rintro e w4 ⟨rfl, hb4⟩
         have K4 := Lib.hid (HB1.out.trans (hb4.mono HB1.out.size))
         clear hb4))
    go_ret
    exact ⟨ret_i HR2.out.symm, K4.out.trans ((below1 _ _).mono K4.out.size)⟩
  | some a =>
    obtain ⟨ar, ak, ag, as_⟩ := a
    rw [ha] at HF HR
    have HR2 : Hid (faultF l ⟨t0, d0, t1, d1, t2, d2, t3, d3⟩ pg way = pageF ar ak ⟨t0, d0, t1, d1, t2, d2, t3, d3⟩ way) := Lib.hid HR.out
    clear HR
    simp only [Option.getD, Option.isSome] at HF
    generalize faultF l ⟨t0, d0, t1, d1, t2, d2, t3, d3⟩ pg way = r at *
    go_enter Try.func70, Try.ntmps70
    go_wp2_with (first
      | (go_at_call 20
         refine HF.out.mono ?_
         rintro e w4 ⟨rfl, hb4⟩
         have K4 := Lib.hid (HB1.out.trans (hb4.mono HB1.out.size))
         have X4 := Lib.hid (HX1.out.below hb4)
         have hz4 : w.heap.size < w4.heap.size := X4.out.lt
         clear hb4)
      | ((with_reducible refine ldB Try.underlying28 rfl infoKs w.heap.size 0 #[.bool t0, .int .i64 d0, .bool t1, .int .i64 d1, .bool t2, .int .i64 d2, .bool t3, .int .i64 d3] ?_ ?_ (X4.out.below (below1 _ _)) (Sub.all _) rfl ?_); rfl; rfl)
      | (go_at_call 77
         refine (HP.out ar ak ag as_ _).mono ?_
         rintro e w5 ⟨rfl, hw5⟩
         have hb5 := below2_of hw5
         clear hw5))
    go_ret
    exact ⟨ret_i HR2.out.symm, (K4.out.trans ((below1 _ _).mono K4.out.size)).trans (hb5.mono (by simp; omega))⟩
set_option maxHeartbeats 4000000 in
theorem fright_any (o : Fop) (ho : o.fits) (w : World) :
    Calls Try.prog 53 #[o.v] w fun e w' => e = .returned (.bool (rightF_ o)) ∧ Below w.heap.size w w' := by
  obtain ⟨k, pr, pg, cn, ri, ke, tgd, dr, ad, sz, va, ta⟩ := o
  unfold Fop.fits I64 at ho
  simp only at ho
  obtain ⟨fk, fp, fpg, fc, fri, fke, fdr, fad, fsz, fva, fta⟩ := ho
  simp only [Fop.v]
  have HB1 := Lib.hid (below1 w (.cells #[.int .i64 k, .int .i64 pr, .int .i64 pg, .int .i64 cn, .int .i64 ri, .int .i64 ke, .bool tgd, .int .i64 dr, .int .i64 ad, .int .i64 sz, .int .i64 va, .int .i64 ta] 43))
  have HS := Lib.hid (show rightF_ ⟨k, pr, pg, cn, ri, ke, tgd, dr, ad, sz, va, ta⟩ = (if ta < 0 ∨ 15 < ta then false
    else if k = 13 then decide (ad % 16 = 0) && decide (1 ≤ cn) && decide (cn ≤ 256) && bytesF ad (cn * 16)
    else decide (1 ≤ sz) && decide (sz ≤ 4) && bytesF ad sz) from rfl)
  generalize rightF_ ⟨k, pr, pg, cn, ri, ke, tgd, dr, ad, sz, va, ta⟩ = r at *
  by_cases c1 : ta < 0
  · have HR : Hid (r = false) := Lib.hid (by rw [HS.out, if_pos (.inl c1)])
    clear HS
    go_enter Try.func53, Try.ntmps53
    go_wp2
    go_ret
    exact ⟨ret_b HR.out.symm, HB1.out⟩
  by_cases c2 : 15 < ta
  · have HR : Hid (r = false) := Lib.hid (by rw [HS.out, if_pos (.inr c2)])
    clear HS
    go_enter Try.func53, Try.ntmps53
    go_wp2
    go_ret
    exact ⟨ret_b HR.out.symm, HB1.out⟩
  by_cases c3 : k = 13
  · have HR : Hid (r = (decide (ad % 16 = 0) && decide (1 ≤ cn) && decide (cn ≤ 256) && bytesF ad (cn * 16))) := Lib.hid (by rw [HS.out, if_neg (by omega), if_pos c3])
    subst c3
    clear HS
    have ht : (Int.tmod ad 16 == 0) = decide (ad % 16 = 0) := by
      have : Int.tmod ad 16 = 0 ↔ ad % 16 = 0 := by
        rw [← Int.dvd_iff_tmod_eq_zero, ← Int.dvd_iff_emod_eq_zero]
      by_cases e : ad % 16 = 0
      · rw [decide_eq_true e, this.2 e]; rfl
      · rw [decide_eq_false e, beq_eq_false_iff_ne]; exact fun h => e (this.1 h)
    by_cases c4 : ad % 16 = 0
    · rw [decide_eq_true c4] at ht HR
      by_cases c5 : 1 ≤ cn
      · by_cases c6 : cn ≤ 256
        · have HBY := Lib.hid (fun W => bytes_any ad (cn * 16) fad (by unfold I64; omega) W)
          have HR2 : Hid (r = bytesF ad (cn * 16)) := Lib.hid (by rw [HR.out, decide_eq_true c5, decide_eq_true c6]; rfl)
          clear HR c4
          generalize bytesF ad (cn * 16) = q at *
          go_enter Try.func53, Try.ntmps53
          go_wp2_with (go_at_call 69; refine (HBY.out _).mono ?_; rintro e w' ⟨rfl, rfl⟩)
          go_ret
          exact ⟨ret_b HR2.out.symm, HB1.out⟩
        · have HR2 : Hid (r = false) := Lib.hid (by rw [HR.out, decide_eq_false c6]; simp)
          clear HR c4
          go_enter Try.func53, Try.ntmps53
          go_wp2
          go_ret
          exact ⟨ret_b HR2.out.symm, HB1.out⟩
      · have HR2 : Hid (r = false) := Lib.hid (by rw [HR.out, decide_eq_false c5]; simp)
        clear HR c4
        go_enter Try.func53, Try.ntmps53
        go_wp2
        go_ret
        exact ⟨ret_b HR2.out.symm, HB1.out⟩
    · rw [decide_eq_false c4] at ht HR
      have HR2 : Hid (r = false) := Lib.hid (by rw [HR.out]; simp)
      clear HR c4
      go_enter Try.func53, Try.ntmps53
      go_wp2
      go_ret
      exact ⟨ret_b HR2.out.symm, HB1.out⟩
  · have HR : Hid (r = (decide (1 ≤ sz) && decide (sz ≤ 4) && bytesF ad sz)) := Lib.hid (by rw [HS.out, if_neg (by omega), if_neg c3])
    clear HS
    have hk : (k == 13) = false := by rw [beq_eq_false_iff_ne]; exact c3
    by_cases c5 : 1 ≤ sz
    · by_cases c6 : sz ≤ 4
      · have HBY := Lib.hid (fun W => bytes_any ad sz fad fsz W)
        have HR2 : Hid (r = bytesF ad sz) := Lib.hid (by rw [HR.out, decide_eq_true c5, decide_eq_true c6]; rfl)
        clear HR
        generalize bytesF ad sz = q at *
        go_enter Try.func53, Try.ntmps53
        go_wp2_with (go_at_call 69; refine (HBY.out _).mono ?_; rintro e w' ⟨rfl, rfl⟩)
        go_ret
        exact ⟨ret_b HR2.out.symm, HB1.out⟩
      · have HR2 : Hid (r = false) := Lib.hid (by rw [HR.out, decide_eq_false c6]; simp)
        clear HR
        go_enter Try.func53, Try.ntmps53
        go_wp2
        go_ret
        exact ⟨ret_b HR2.out.symm, HB1.out⟩
    · have HR2 : Hid (r = false) := Lib.hid (by rw [HR.out, decide_eq_false c5]; simp)
      clear HR
      go_enter Try.func53, Try.ntmps53
      go_wp2
      go_ret
      exact ⟨ret_b HR2.out.symm, HB1.out⟩
end Go.Proofs.Ytglnnplijienbaa
