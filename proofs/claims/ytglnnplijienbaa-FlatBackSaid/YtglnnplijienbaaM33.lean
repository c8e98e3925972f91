/- Several texts in one: Flk, Flm, Fln. -/
import Derived.Test.YtglnnplijienbaaM32
import Derived.Test.YtglnnplijienbaaM22
import Derived.Test.YtglnnplijienbaaCRen
/- flat: child. -/
namespace Go.Proofs.Ytglnnplijienbaa
open Go.ChangeShapes Go.WideShapes Go.ChangeAt Go.RowKit Go.Joins
set_option linter.unusedVariables false
set_option linter.unusedSimpArgs false
set_option maxRecDepth 100000
theorem child1_any (g : Nat) (b : Bool) (w : World) (hg : g < w.heap.size) (hc : w.cell? ⟨g, 0, none⟩ = some (.bool b)) :
    Calls Try.prog 68 #[.pointer (some ⟨g, 0, none⟩)] w fun e w' => e = .returned (.bool (!b)) ∧ w' = w := by
  go_enter Try.func68, Try.ntmps68
  go_wp2
  go_ret
  exact ⟨ret_b rfl, rfl⟩
def childI (W : Fw) : Int := if (W 0).live = false then 0 else if (W 1).live = false then 1 else if (W 2).live = false then 2 else if (W 3).live = false then 3 else -1
theorem childI_is (W : Fw) : childI W = if childF W = 4 then -1 else (childF W : Int) := by
  unfold childI childF
  cases (W 0).live <;> cases (W 1).live <;> cases (W 2).live <;> cases (W 3).live <;> rfl
theorem Ws.cells {w : World} {gw : Nat} {gs : Nat → Nat} {W : Fw} (h : Ws w gw gs W) {k : Nat} (hk : k < 4) : w.cell? ⟨gs k, 0, none⟩ = some (.bool (W k).live) := by
  obtain ⟨cs, h1, h2⟩ := h.each k hk
  rw [h1.cell]; exact h2.live
set_option maxHeartbeats 4000000 in
theorem child_row {w : World} {gw : Nat} {gs : Nat → Nat} {W : Fw} (h : Ws w gw gs W) :
    Calls Try.prog 67 #[.slice (some ⟨gw, 0, none⟩) 4 4, .func (.func 68) #[] #[]] w fun e w' => e = .returned (.int .i64 (childI W)) ∧ w' = w := by
  have c0 : w.cell? ⟨gw, 0, none⟩ = some (.pointer (some ⟨gs 0, 0, none⟩)) := by rw [h.top.cell]; rfl
  have c1 : w.cell? ⟨gw, 1, none⟩ = some (.pointer (some ⟨gs 1, 0, none⟩)) := by rw [h.top.cell]; rfl
  have c2 : w.cell? ⟨gw, 2, none⟩ = some (.pointer (some ⟨gs 2, 0, none⟩)) := by rw [h.top.cell]; rfl
  have c3 : w.cell? ⟨gw, 3, none⟩ = some (.pointer (some ⟨gs 3, 0, none⟩)) := by rw [h.top.cell]; rfl
  have hlt := h.top.lt
  obtain ⟨_, _, _, l0⟩ := h.rgn (k := 0) (by decide)
  obtain ⟨_, _, _, l1⟩ := h.rgn (k := 1) (by decide)
  obtain ⟨_, _, _, l2⟩ := h.rgn (k := 2) (by decide)
  obtain ⟨_, _, _, l3⟩ := h.rgn (k := 3) (by decide)
  have H0 := Lib.hid (child1_any (gs 0) _ w l0 (h.cells (k := 0) (by decide)))
  have H1 := Lib.hid (child1_any (gs 1) _ w l1 (h.cells (k := 1) (by decide)))
  have H2 := Lib.hid (child1_any (gs 2) _ w l2 (h.cells (k := 2) (by decide)))
  have H3 := Lib.hid (child1_any (gs 3) _ w l3 (h.cells (k := 3) (by decide)))
  have HI : Hid (childI W = if (W 0).live = false then 0 else if (W 1).live = false then 1 else if (W 2).live = false then 2 else if (W 3).live = false then 3 else -1) := Lib.hid rfl
  clear h
  generalize childI W = r at *
  generalize (W 0).live = b0 at *
  generalize (W 1).live = b1 at *
  generalize (W 2).live = b2 at *
  generalize (W 3).live = b3 at *
  generalize gs 0 = g0 at *
  generalize gs 1 = g1 at *
  generalize gs 2 = g2 at *
  generalize gs 3 = g3 at *
  cases b0 with
  | false =>
    have HR : Hid (r = 0) := Lib.hid (by rw [HI.out]; rfl)
    go_enter Try.func67, Try.ntmps67
    go_wp2
    refine wp_loop_rounds 5 ?_
    rw [rounds_succ]
    go_wp2_with (go_at_call 68; refine H0.out.mono ?_; rintro e w' ⟨rfl, rfl⟩)
    go_ret
    exact ⟨ret_i HR.out.symm, rfl⟩
  | true =>
    cases b1 with
    | false =>
      have HR : Hid (r = 1) := Lib.hid (by rw [HI.out]; rfl)
      go_enter Try.func67, Try.ntmps67
      go_wp2
      refine wp_loop_rounds 5 ?_
      rw [rounds_succ]
      go_wp2_with (go_at_call 68; refine H0.out.mono ?_; rintro e w' ⟨rfl, rfl⟩)
      rw [rounds_succ]
      go_wp2_with (go_at_call 68; refine H1.out.mono ?_; rintro e w' ⟨rfl, rfl⟩)
      go_ret
      exact ⟨ret_i HR.out.symm, rfl⟩
    | true =>
      cases b2 with
      | false =>
        have HR : Hid (r = 2) := Lib.hid (by rw [HI.out]; rfl)
        go_enter Try.func67, Try.ntmps67
        go_wp2
        refine wp_loop_rounds 5 ?_
        rw [rounds_succ]
        go_wp2_with (go_at_call 68; refine H0.out.mono ?_; rintro e w' ⟨rfl, rfl⟩)
        rw [rounds_succ]
        go_wp2_with (go_at_call 68; refine H1.out.mono ?_; rintro e w' ⟨rfl, rfl⟩)
        rw [rounds_succ]
        go_wp2_with (go_at_call 68; refine H2.out.mono ?_; rintro e w' ⟨rfl, rfl⟩)
        go_ret
        exact ⟨ret_i HR.out.symm, rfl⟩
      | true =>
        cases b3 with
        | false =>
          have HR : Hid (r = 3) := Lib.hid (by rw [HI.out]; rfl)
          go_enter Try.func67, Try.ntmps67
          go_wp2
          refine wp_loop_rounds 5 ?_
          rw [rounds_succ]
          go_wp2_with (go_at_call 68; refine H0.out.mono ?_; rintro e w' ⟨rfl, rfl⟩)
          rw [rounds_succ]
          go_wp2_with (go_at_call 68; refine H1.out.mono ?_; rintro e w' ⟨rfl, rfl⟩)
          rw [rounds_succ]
          go_wp2_with (go_at_call 68; refine H2.out.mono ?_; rintro e w' ⟨rfl, rfl⟩)
          rw [rounds_succ]
          go_wp2_with (go_at_call 68; refine H3.out.mono ?_; rintro e w' ⟨rfl, rfl⟩)
          go_ret
          exact ⟨ret_i HR.out.symm, rfl⟩
        | true =>
          have HR : Hid (r = -1) := Lib.hid (by rw [HI.out]; rfl)
          go_enter Try.func67, Try.ntmps67
          go_wp2
          refine wp_loop_rounds 5 ?_
          rw [rounds_succ]
          go_wp2_with (go_at_call 68; refine H0.out.mono ?_; rintro e w' ⟨rfl, rfl⟩)
          rw [rounds_succ]
          go_wp2_with (go_at_call 68; refine H1.out.mono ?_; rintro e w' ⟨rfl, rfl⟩)
          rw [rounds_succ]
          go_wp2_with (go_at_call 68; refine H2.out.mono ?_; rintro e w' ⟨rfl, rfl⟩)
          rw [rounds_succ]
          go_wp2_with (go_at_call 68; refine H3.out.mono ?_; rintro e w' ⟨rfl, rfl⟩)
          rw [rounds_succ]
          go_wp2
          go_ret
          exact ⟨ret_i HR.out.symm, rfl⟩
theorem child_any {w : World} {gw : Nat} {gs : Nat → Nat} {W : Fw} (h : Ws w gw gs W) :
    Calls Try.prog 52 #[.pointer (some ⟨gw, 0, none⟩)] w fun e w' => e = .returned (.int .i64 (childI W)) ∧ w' = w := by
  have HC := Lib.hid (child_row h)
  have hlt := h.top.lt
  clear h
  generalize childI W = r at *
  go_enter Try.func52, Try.ntmps52
  go_wp2_with (go_at_call 67; refine HC.out.mono ?_; rintro e w' ⟨rfl, rfl⟩)
  go_ret
  exact ⟨ret_i rfl, rfl⟩
end Go.Proofs.Ytglnnplijienbaa

/- flat: clean. -/
namespace Go.Proofs.Ytglnnplijienbaa
open Go.ChangeShapes Go.WideShapes Go.ChangeAt Go.RowKit Go.Joins
set_option linter.unusedVariables false
set_option linter.unusedSimpArgs false
set_option maxRecDepth 100000
theorem Pv.congr {w : World} {cs : Array Value} {p q : Fp} (h : Pv w cs p) (h1 : p.live = q.live) (h2 : p.rg = q.rg) (h3 : p.ks = q.ks) (h4 : ∀ n i, n < 64 → i < 64 → p.bt n i = q.bt n i) (h5 : ∀ n i, n < 64 → i < 4 → p.tg n i = q.tg n i) : Pv w cs q :=
  ⟨h.size, h.one, by rw [← h1]; exact h.live, by rw [← h2]; exact h.rg, by rw [← h3]; exact h.ks, fun n i hn hi => by rw [← h4 n i hn hi]; exact h.bt n i hn hi, fun n i hn hi => by rw [← h5 n i hn hi]; exact h.tg n i hn hi⟩
/-- The cells of a page. -/
def pgA (b : Nat → Int) (t : Nat → Int) : List Value := (List.range 64).map (fun i => Value.int .u8 (b i)) ++ (List.range 4).map (fun i => Value.int .i64 (t i))
theorem pgA_len (b t) : (pgA b t).length = 68 := by simp [pgA]
theorem pgA_b (b t) {i : Nat} (h : i < 64) : (pgA b t)[i]? = some (.int .u8 (b i)) := by
  unfold pgA
  rw [List.getElem?_append_left (by simpa using h)]
  simp [h]
theorem pgA_t (b t) {i : Nat} (h : i < 4) : (pgA b t)[64 + i]? = some (.int .i64 (t i)) := by
  unfold pgA
  rw [List.getElem?_append_right (by simp)]
  simp [h]
theorem pgA_one (b t) : ∀ u ∈ pgA b t, u.oneCell' = true := by
  intro u hu
  unfold pgA at hu
  rcases List.mem_append.1 hu with h | h <;> (obtain ⟨i, _, rfl⟩ := List.mem_map.1 h; rfl)
theorem all_setMany : ∀ (vs : List Value) (o : Nat) (cs : Array Value), cs.all (·.oneCell') = true → (∀ u ∈ vs, u.oneCell' = true) → (Go.Sort.setMany cs o vs).all (·.oneCell') = true
  | [], o, cs, h, _ => h
  | v :: r, o, cs, h, hv => by
    unfold Go.Sort.setMany
    refine all_setMany r (o + 1) _ ?_ fun u hu => hv u (List.mem_cons_of_mem _ hu)
    rw [Array.all_eq_true_iff_forall_mem] at h ⊢
    intro x hx
    rcases Array.mem_or_eq_of_mem_setIfInBounds hx with hx | rfl
    · exact h x hx
    · exact hv _ List.mem_cons_self
/-- A page is laid into a process's cells. -/
theorem Pv.page {w : World} {cs : Array Value} {p : Fp} (h : Pv w cs p) {k : Nat} (hk : k < 64) (b t : Nat → Int) : Pv w (Go.Sort.setMany cs (10 + k * 68) (pgA b t)) { p with bt := fun n i => if n = k then b i else p.bt n i, tg := fun n i => if n = k then t i else p.tg n i } := by
  have hs := h.size
  have hb : 10 + k * 68 + (pgA b t).length ≤ cs.size := by rw [pgA_len, hs]; omega
  have hget : ∀ j, j < 10 ∨ 10 + k * 68 + 68 ≤ j → (Go.Sort.setMany cs (10 + k * 68) (pgA b t))[j]? = cs[j]? := fun j hj => by
    rw [setMany_get? _ _ _ _ hb, if_neg (by rw [pgA_len]; omega)]
  refine ⟨by rw [Go.Sort.size_setMany]; exact hs, all_setMany _ _ _ h.one (pgA_one b t), by rw [hget 0 (by omega)]; exact h.live, ?_, fun i v hv => ?_, fun n i hn hi => ?_, fun n i hn hi => ?_⟩
  · obtain ⟨v, h1, h2⟩ := h.rg
    exact ⟨v, by rw [hget 1 (by omega)]; exact h1, h2⟩
  · have hi : i < 8 := by
      have := (Array.getElem?_eq_some_iff.1 hv).1
      simpa [kA] using this
    rw [hget _ (by omega)]; exact h.ks i v hv
  · by_cases e : n = k
    · subst e
      rw [setMany_get? _ _ _ _ hb, if_pos (by rw [pgA_len]; omega), show 10 + n * 68 + i - (10 + n * 68) = i by omega, pgA_b _ _ hi]
      simp
    · rw [setMany_get? _ _ _ _ hb, if_neg (by rw [pgA_len]; omega), h.bt n i hn hi]
      simp [e]
  · by_cases e : n = k
    · subst e
      rw [setMany_get? _ _ _ _ hb, if_pos (by rw [pgA_len]; omega), show 10 + n * 68 + 64 + i - (10 + n * 68) = 64 + i by omega, pgA_t _ _ hi]
      simp
    · rw [setMany_get? _ _ _ _ hb, if_neg (by rw [pgA_len]; omega), h.tg n i hn hi]
      simp [e]
theorem Keep.cells {S : Nat → Prop} {a : World} {g : Nat} (hg : S g ∨ a.heap.size ≤ g) : ∀ (vs : List Value) (o : Nat) (b : World), Keep S a b → Keep S a (b.setCells g o vs)
  | [], _, _, h => h
  | v :: r, o, b, h => by unfold World.setCells; exact Keep.cells hg r (o + 1) _ (h.cell hg o v)
theorem Bx.many {w : World} {g : Nat} {T : TypeId} {cs : Array Value} (h : Bx w g T cs) (vs : List Value) (o : Nat) : Bx (w.setCells g o vs) g T (Go.Sort.setMany cs o vs) := setCells_blk vs o w cs h
theorem Rt.cells {v : Value} {l : List Rgn} {g : Nat} {T : TypeId} (ht : 40 ≠ T) : ∀ (vs : List Value) (o : Nat) (w : World) (cs : Array Value), Bx w g T cs → Rt w v l → Rt (w.setCells g o vs) v l
  | [], _, _, _, _, h => h
  | u :: r, o, w, cs, hx, h => by unfold World.setCells; exact Rt.cells ht r (o + 1) _ _ (hx.set o u) (h.cell hx ht o u)
theorem Pv.rt {w w' : World} {cs : Array Value} {p : Fp} (h : Pv w cs p) (hk : ∀ v, Rt w v p.rg → Rt w' v p.rg) : Pv w' cs p :=
  ⟨h.size, h.one, h.live, by obtain ⟨v, h1, h2⟩ := h.rg; exact ⟨v, h1, hk v h2⟩, h.ks, h.bt, h.tg⟩
theorem infoPg : (Try.prog.info? 75).map (·.size) = some 68 := by kernel_rfl
/-- So many pages are clean. -/
def cleanK (p : Fp) (k : Nat) : Fp := { p with bt := fun n i => if n < k ∧ (at? p.rg n).isNone = true then 0 else p.bt n i, tg := fun n i => if n < k ∧ (at? p.rg n).isNone = true then 0 else p.tg n i }
theorem find_rt {w : World} {v : Value} {l : List Rgn} (h : Rt w v l) (pg : Int) : Calls Try.prog 20 #[v, .int .i64 pg] w (FindP (at? l pg) w) := by
  obtain ⟨A, n, c, rfl, hz, hn⟩ := h.rv
  exact find_any A n c l pg w w.heap.size hz (Nat.le_refl _) (by omega)
/-- A process in memory, of which only its block may have changed. -/
def PvK (g : Nat) (p : Fp) (w w' : World) : Prop := ∃ cs, Bx w' g 78 cs ∧ Pv w' cs p ∧ Keep (fun b => b = g) w w'
theorem cleanK_no {p : Fp} {k : Nat} (h : (at? p.rg k).isNone = true) : ∀ (w : World) (cs : Array Value), Pv w cs (cleanK p k) → k < 64 → Pv w (Go.Sort.setMany cs (10 + k * 68) (pgA (fun _ => 0) fun _ => 0)) (cleanK p (k + 1)) := fun w cs hp hk =>
  (hp.page hk (fun _ => 0) fun _ => 0).congr rfl rfl rfl
    (fun n i hn hi => by
      show (if n = k then 0 else if n < k ∧ (at? p.rg n).isNone = true then 0 else p.bt n i) = (if n < k + 1 ∧ (at? p.rg n).isNone = true then 0 else p.bt n i)
      by_cases e : n = k
      · subst e; rw [if_pos rfl, if_pos ⟨by omega, h⟩]
      · rw [if_neg e]
        by_cases e2 : n < k
        · simp [e2, show n < k + 1 by omega]
        · rw [if_neg (by omega), if_neg (by omega)])
    (fun n i hn hi => by
      show (if n = k then 0 else if n < k ∧ (at? p.rg n).isNone = true then 0 else p.tg n i) = (if n < k + 1 ∧ (at? p.rg n).isNone = true then 0 else p.tg n i)
      by_cases e : n = k
      · subst e; rw [if_pos rfl, if_pos ⟨by omega, h⟩]
      · rw [if_neg e]
        by_cases e2 : n < k
        · simp [e2, show n < k + 1 by omega]
        · rw [if_neg (by omega), if_neg (by omega)])
theorem cleanK_yes {p : Fp} {k : Nat} (h : (at? p.rg k).isNone = false) : cleanK p (k + 1) = cleanK p k := by
  have e : ∀ n, (n < k + 1 ∧ (at? p.rg n).isNone = true) ↔ (n < k ∧ (at? p.rg n).isNone = true) := fun n => by
    constructor
    · rintro ⟨h1, h2⟩
      refine ⟨?_, h2⟩
      by_cases e : n = k
      · subst e; rw [h] at h2; cases h2
      · omega
    · rintro ⟨h1, h2⟩; exact ⟨by omega, h2⟩
  unfold cleanK
  simp only [e]
theorem cleanK_all {w : World} {cs : Array Value} {p : Fp} (h : Pv w cs (cleanK p 64)) : Pv w cs (cleanF p) :=
  h.congr rfl rfl rfl (fun n i hn hi => by simp [cleanK, cleanF, hn]) (fun n i hn hi => by simp [cleanK, cleanF, hn])
theorem pgA_zero : (pgA (fun _ => 0) fun _ => 0) = List.replicate 64 (Value.int .u8 0) ++ List.replicate 4 (Value.int .i64 0) := by
  unfold pgA; simp [List.map_const']
theorem pgA_zero2 : (pgA (fun _ => 0) fun _ => 0).toArray = #[.int .u8 0, .int .u8 0, .int .u8 0, .int .u8 0, .int .u8 0, .int .u8 0, .int .u8 0, .int .u8 0, .int .u8 0, .int .u8 0, .int .u8 0, .int .u8 0, .int .u8 0, .int .u8 0, .int .u8 0, .int .u8 0, .int .u8 0, .int .u8 0, .int .u8 0, .int .u8 0, .int .u8 0, .int .u8 0, .int .u8 0, .int .u8 0, .int .u8 0, .int .u8 0, .int .u8 0, .int .u8 0, .int .u8 0, .int .u8 0, .int .u8 0, .int .u8 0, .int .u8 0, .int .u8 0, .int .u8 0, .int .u8 0, .int .u8 0, .int .u8 0, .int .u8 0, .int .u8 0, .int .u8 0, .int .u8 0, .int .u8 0, .int .u8 0, .int .u8 0, .int .u8 0, .int .u8 0, .int .u8 0, .int .u8 0, .int .u8 0, .int .u8 0, .int .u8 0, .int .u8 0, .int .u8 0, .int .u8 0, .int .u8 0, .int .u8 0, .int .u8 0, .int .u8 0, .int .u8 0, .int .u8 0, .int .u8 0, .int .u8 0, .int .u8 0, .int .i64 0, .int .i64 0, .int .i64 0, .int .i64 0] := by rw [pgA_zero]; rfl
theorem st_page {ops : Array Oper} {rest : List Oper} {dst : Option Tmp} {x y : Operand} {type : TypeId} {pos : String} {after : Array Edge} {a : Act} {w : World} {Q : Exit → Act → World → Prop} {z : Array Value} (g k : Nat) (b t : Nat → Int) (hz : Bx w g 78 z) (hs : Hid (z.size = 4362)) (hk : k < 64)
    (hx : a.eval x = .pointer (some ⟨g, 10 + k * 68, none⟩)) (hy : a.eval y = .agg (pgA b t).toArray) (h : wpList Try.prog ops Q rest (a.put dst undef) (w.setCells g (10 + k * 68) (pgA b t))) : wpList Try.prog ops Q (⟨dst, .store 75 x y, type, pos, after, none⟩ :: rest) a w := by
  have := stM (P := Try.prog) (ops := ops) (rest := rest) (dst := dst) (x := x) (y := y) (type := type) (pos := pos) (after := after) (a := a) (w := w) (Q := Q) infoPg g (10 + k * 68) (pgA b t).toArray hx hy hz (by rw [hs.out]; omega) (by simp [pgA_len]) (all_oneCell_toArray (pgA_one b t))
  exact this (by simpa using h)
set_option maxHeartbeats 4000000 in
theorem clean_any {w : World} {g : Nat} {cs : Array Value} {p : Fp} (hx : Bx w g 78 cs) (hp : Pv w cs p) :
    Calls Try.prog 35 #[.pointer (some ⟨g, 0, none⟩)] w fun e w' => e = .returned (.tuple #[]) ∧ PvK g (cleanF p) w w' := by
  have hlt := hx.lt
  go_enter Try.func35, Try.ntmps35
  go_wp2
  go_loopw [5] (fun i wr => ∃ (k : Nat), k ≤ 64 ∧ i = .int .i64 k ∧ Hid (PvK g (cleanK p k) w wr)) (fun i _ => 64 - (intOf i).toNat)
  case atStart => exact ⟨0, by omega, rfl, Lib.hid ⟨cs, hx, hp.congr rfl rfl rfl (fun n i _ _ => by simp [cleanK]) (fun n i _ _ => by simp [cleanK]), Keep.refl _ _⟩⟩
  case round =>
    obtain ⟨k, hk, rfl, HP⟩ := hrel
    by_cases hlt2 : k < 64
    · obtain ⟨cs2, hx2, hp2, hk2⟩ := HP.out
      obtain ⟨v, hv, hr⟩ := hp2.rg
      have hl2 : g < wr.heap.size := hx2.lt
      have c1 : wr.cell? ⟨g, 1, none⟩ = some v := by rw [hx2.cell]; exact hv
      have HF := Lib.hid (find_rt (l := p.rg) hr k)
      unfold FindP at HF
      cases ha : at? p.rg k with
      | none =>
        rw [ha] at HF
        have HNO : Hid ((at? p.rg k).isNone = true) := Lib.hid (by rw [ha]; rfl)
        have HX := Lib.hid hx2
        have HV := Lib.hid hp2
        have HK := Lib.hid hk2
        have HSZ := Lib.hid hp2.size
        clear hx2 hp2 hk2 hr hv ha HP
        simp only [Option.getD, Option.isSome] at HF
        unfold zA at HF
        go_wp2_with (first
          | (go_at_call 20
             refine HF.out.mono ?_
             rintro e w2 ⟨rfl, hb2⟩
             have HX2 := Lib.hid (HX.out.below hb2)
             have HV2 := Lib.hid (HV.out.below hb2)
             have HK2 := Lib.hid (HK.out.more hb2)
             have l2 : g < w2.heap.size := HX2.out.lt
             clear hb2)
          | ((with_reducible refine st_page g k (fun _ => 0) (fun _ => 0) (HX2.out.below (below1 _ _)) HSZ hlt2 ?_ ?_ ?_); rfl; rw [pgA_zero2]; rfl))
        go_roundw
        case rel =>
          refine ⟨k + 1, by omega, by go_num, Lib.hid ⟨_, (HX2.out.below (below1 _ _)).many _ _, ?_, ?_⟩⟩
          · exact (cleanK_no HNO.out _ _ (HV2.out.below (below1 _ _)) hlt2).rt fun v h => Rt.cells (by decide) _ _ _ _ (HX2.out.below (below1 _ _)) h
          · exact Keep.cells (S := fun b => b = g) (.inl rfl) _ _ _ (HK2.out.more (below1 _ _))
        case measure => simp [intOf]; omega
      | some a =>
        obtain ⟨ar, ak, ag, as_⟩ := a
        rw [ha] at HF
        have HE : Hid (cleanK p (k + 1) = cleanK p k) := Lib.hid (cleanK_yes (by rw [ha]; rfl))
        have HX := Lib.hid hx2
        have HV := Lib.hid hp2
        have HK := Lib.hid hk2
        clear hx2 hp2 hk2 hr hv ha HP
        simp only [Option.getD, Option.isSome] at HF
        go_wp2_with (first
          | (go_at_call 20
             refine HF.out.mono ?_
             rintro e w2 ⟨rfl, hb2⟩
             have HX2 := Lib.hid (HX.out.below hb2)
             have HV2 := Lib.hid (HV.out.below hb2)
             have HK2 := Lib.hid (HK.out.more hb2)
             have l2 : g < w2.heap.size := HX2.out.lt
             clear hb2))
        go_roundw
        case rel => exact ⟨k + 1, by omega, by go_num, Lib.hid ⟨_, HX2.out.below (below1 _ _), by rw [HE.out]; exact HV2.out.below (below1 _ _), HK2.out.more (below1 _ _)⟩⟩
        case measure => simp [intOf]; omega
    · have hk64 : k = 64 := by omega
      have HP2 : Hid (PvK g (cleanF p) w wr) := Lib.hid (by
        obtain ⟨cs2, hx2, hp2, hk2⟩ := HP.out
        rw [hk64] at hp2
        exact ⟨cs2, hx2, cleanK_all hp2, hk2⟩)
      clear HP hk64
      go_wp2
      go_end0
      exact ⟨rfl, HP2.out⟩
end Go.Proofs.Ytglnnplijienbaa

/- flat: stop. -/
namespace Go.Proofs.Ytglnnplijienbaa
open Go.ChangeShapes Go.WideShapes Go.ChangeAt Go.RowKit Go.Joins Go.Sort
set_option linter.unusedVariables false
set_option linter.unusedSimpArgs false
set_option maxRecDepth 100000
abbrev Tch.v (t : Tch) : Value := .agg #[.int .i64 t.p, .int .i64 t.f, .int .i64 t.t]
theorem becomes_known {o : Oper} {a : Act} {w : World} {f : FuncId} {args : Array Value} {v : Value} {k : Nat} (h : (execOp a.eval o).run Try.prog w = .ok (.enter f args) w) (hc : Calls Try.prog f args w fun e w' => e = .returned v ∧ Below w.heap.size w w') : becomes Try.prog o a w fun u w' => (Sp.call k v).shape u ∧ (Sp.call k v).fact u w' :=
  becomes_call h (hc.mono fun e w' h => ⟨v, h.1, h.2, rfl, trivial⟩)
/-- A nil check of an address. -/
theorem rel_nil {ops : Array Oper} {T : List (List Nat)} {S : List Sp} {w0 : World} {V : Nat → Value} {Q : Act → World → Prop} {rest : List Oper} {k : Nat} {G : List (Nat × (World → Prop))} {a : Act} {x : Operand} (A : Addr) {dst : Option Tmp} {type : TypeId} {pos : String} {after : Array Edge} {guard : Option (Nat × Bool)} (hw : Region.wanted ⟨dst, .nilCheck x, type, pos, after, guard⟩ (yielded ops a.tmps) = true) (hk : spOf S k = none) (hx : a.eval x = .pointer (some A))
    (h : wpQuiet Try.prog ops (fun w' => ∃ p : Regrown, w' = grow (redrawn w0 p.d) p.os) (fun a' => wpRel Try.prog ops T S w0 V Q rest (k + 1) G a') [⟨dst, .move (.const (.pointer (some A))), type, pos, after, none⟩] a) : wpRel Try.prog ops T S w0 V Q (⟨dst, .nilCheck x, type, pos, after, guard⟩ :: rest) k G a :=
  rel_fact (.pointer (some A)) hw hk (fun w hb hf => by simp [execOp, hx]) h
/-- A variable that is made. -/
def Sp.box (k : Nat) (T : TypeId) (cs : Array Value) (B : Nat) : Sp := ⟨k, fun u => ∃ b, u = .pointer (some ⟨b, 0, none⟩), fun u w => ∃ b, u = .pointer (some ⟨b, 0, none⟩) ∧ B ≤ b ∧ Bx w b T cs, ⟨.pointer (some ⟨0, 0, none⟩), 0, rfl⟩, fun v w w' h hb => by
  obtain ⟨b, e, hB, hx⟩ := h; exact ⟨b, e, hB, hx.below hb⟩⟩
theorem ex_sl4 {dst : Option Tmp} {x lo hi : Operand} {type : TypeId} {pos : String} {after : Array Edge} {guard : Option (Nat × Bool)} {a : Act} {w : World} (g o : Nat) (l h : Int) (hx : a.eval x = .pointer (some ⟨g, o, none⟩)) (hlo : a.eval lo = .int .i64 l) (hhi : a.eval hi = .int .i64 h) (h0 : 0 ≤ l) (h1 : l < 4) (h2 : l ≤ h) (h3 : h ≤ 4) :
    (execOp a.eval ⟨dst, .slice 73 x (some lo) (some hi) none, type, pos, after, guard⟩).run Try.prog w = .ok (.value (.slice (some ⟨g, o + l.toNat, none⟩) (h.toNat - l.toNat) (4 - l.toNat))) w := by
  have hu : (underlying 73).run Try.prog w = .ok (.array 4 3) w := run_underlying Try.underlying73 w
  have hs : (sizeOf 3).run Try.prog w = .ok 1 w := by kernel_rfl
  have hb1 := run_sliceBound (P := Try.prog) w .i64 h 4 .sliceAlen (by omega) h3
  have hb2 := run_sliceBound (P := Try.prog) w .i64 l h.toNat .sliceB h0 (by omega)
  have hadd : (Addr.add ⟨g, o, none⟩ l.toNat) = ⟨g, o + l.toNat, none⟩ := addr_add g o l.toNat
  have hif : (if 4 = l.toNat then (⟨g, o, none⟩ : Addr) else Addr.add ⟨g, o, none⟩ l.toNat) = ⟨g, o + l.toNat, none⟩ := by rw [if_neg (by omega), hadd]
  simp [execOp, Instr.sliceAt, Instr.sureAddr, Instr.sliceBounds, Sem.run_bind, hu, hs, hb1, hb2, hx, hlo, hhi, hif]
theorem tagsK_range (tg : Bool) (way : Int) (zs : List Int) (tag : Int) : 0 ≤ tagsK tg way zs tag ∧ (tagsK tg way zs tag = 0 ∨ tagsK tg way zs tag < zs.length) := by
  unfold tagsK
  split
  · omega
  · refine ⟨by omega, ?_⟩
    unfold unlike
    cases h : zs.findIdx? (fun z => z != tag) with
    | none => left; rfl
    | some k =>
      right
      have := (List.findIdx?_eq_some_iff_findIdx_eq.1 h).1
      simp; omega
theorem infoAt : (Try.prog.info? 38).map (·.size) = some 4 := by kernel_rfl
theorem grains_row {w : World} {cs : Array Value} {g : Nat} {p : Fp} (hx : Bx w g 78 cs) (hp : Pv w cs p) (t : Tch) (h0 : 0 ≤ t.p) (h1 : t.p < 64) (h2 : 0 ≤ t.f) (h3 : t.f < t.t) (h4 : t.t ≤ 64) :
    Row .i64 w w.heap.size (some ⟨g, 10 + t.p.toNat * 68 + 64 + (t.f / 16).toNat, none⟩) ((t.t - 1) / 16 + 1 - t.f / 16).toNat (grains p t) := by
  refine ⟨by simp [grains], by unfold maxLen; omega, fun hn => ⟨_, _, rfl, hx.lt, fun i hi => ?_⟩⟩
  rw [hx.cell, show 10 + t.p.toNat * 68 + 64 + (t.f / 16).toNat + i = 10 + t.p.toNat * 68 + 64 + ((t.f / 16).toNat + i) by omega, hp.tg _ _ (by omega) (by omega)]
  unfold grains
  rw [List.getD_eq_getElem?_getD, List.getElem?_map, List.getElem?_range (by omega)]
  rfl
set_option maxHeartbeats 16000000 in
theorem stop_any {w : World} {g : Nat} {cs : Array Value} {p : Fp} (hx : Bx w g 78 cs) (hp : Pv w cs p) (o : Fop) (ho : o.fits) (t : Tch) (h0 : 0 ≤ t.p) (h1 : t.p < 64) (h2 : 0 ≤ t.f) (h3 : t.f < t.t) (h4 : t.t ≤ 64) :
    Calls Try.prog 55 #[.pointer (some ⟨g, 0, none⟩), o.v, t.v] w fun e w' => e = .returned (.tuple #[.int .i64 (stopF p o t).1, .int .i64 (stopF p o t).2]) ∧ Below w.heap.size w w' := by
  have hlt := hx.lt
  obtain ⟨k, pr, pg, cn, ri, ke, tgd, dr, ad, sz, va, ta⟩ := o
  obtain ⟨tp, tf, tt⟩ := t
  unfold Fop.fits I64 at ho
  simp only at ho h0 h1 h2 h3 h4
  obtain ⟨fk, fp, fpg, fc, fri, fke, fdr, fad, fsz, fva, fta⟩ := ho
  simp only [Fop.v, Tch.v]
  have hB2 : Below w.heap.size w ((w.alloc (.cells #[.int .i64 k, .int .i64 pr, .int .i64 pg, .int .i64 cn, .int .i64 ri, .int .i64 ke, .bool tgd, .int .i64 dr, .int .i64 ad, .int .i64 sz, .int .i64 va, .int .i64 ta] 43)).alloc (.cells #[.int .i64 tp, .int .i64 tf, .int .i64 tt] 114)) := (below1 _ _).alloc (by simp) _
  have hO2 : Bx ((w.alloc (.cells #[.int .i64 k, .int .i64 pr, .int .i64 pg, .int .i64 cn, .int .i64 ri, .int .i64 ke, .bool tgd, .int .i64 dr, .int .i64 ad, .int .i64 sz, .int .i64 va, .int .i64 ta] 43)).alloc (.cells #[.int .i64 tp, .int .i64 tf, .int .i64 tt] 114)) w.heap.size 43 #[.int .i64 k, .int .i64 pr, .int .i64 pg, .int .i64 cn, .int .i64 ri, .int .i64 ke, .bool tgd, .int .i64 dr, .int .i64 ad, .int .i64 sz, .int .i64 va, .int .i64 ta] := (Bx.new _ _ _).below (below1 _ _)
  have hT2 : Bx ((w.alloc (.cells #[.int .i64 k, .int .i64 pr, .int .i64 pg, .int .i64 cn, .int .i64 ri, .int .i64 ke, .bool tgd, .int .i64 dr, .int .i64 ad, .int .i64 sz, .int .i64 va, .int .i64 ta] 43)).alloc (.cells #[.int .i64 tp, .int .i64 tf, .int .i64 tt] 114)) (w.heap.size + 1) 114 #[.int .i64 tp, .int .i64 tf, .int .i64 tt] := by
    have := Bx.new (w.alloc (.cells #[.int .i64 k, .int .i64 pr, .int .i64 pg, .int .i64 cn, .int .i64 ri, .int .i64 ke, .bool tgd, .int .i64 dr, .int .i64 ad, .int .i64 sz, .int .i64 va, .int .i64 ta] 43)) 114 #[.int .i64 tp, .int .i64 tf, .int .i64 tt]
    rwa [World.size_alloc] at this
  have HST : Hid (stopF p ⟨k, pr, pg, cn, ri, ke, tgd, dr, ad, sz, va, ta⟩ ⟨tp, tf, tt⟩ = (if faultF p.rg p.ks tp (wayF k) ≠ 0 then (faultF p.rg p.ks tp (wayF k), tp * 64 + tf)
    else if k = 13 then (if ((at? p.rg tp).getD zA).g = false then (4, tp * 64 + tf) else (0, 0))
    else if tagsF ((at? p.rg tp).getD zA).g (wayF k) (grains p ⟨tp, tf, tt⟩) ta ≠ 0 then (tagsF ((at? p.rg tp).getD zA).g (wayF k) (grains p ⟨tp, tf, tt⟩) ta, max (tp * 64 + tf) (tp * 64 + (tf / 16 + tagsK ((at? p.rg tp).getD zA).g (wayF k) (grains p ⟨tp, tf, tt⟩) ta) * 16))
    else (0, 0))) := Lib.hid rfl
  obtain ⟨v, hv, hr⟩ := hp.rg
  have HFA := Lib.hid (fun (W : World) (hb : Below w.heap.size w W) => fault_any (hr.rv.below hb) p.ks tp (wayF k))
  have HFI := Lib.hid (fun (W : World) (hb : Below w.heap.size w W) => find_rt (hr.below hb) tp)
  have HKS := Lib.hid hp.ks
  have HG := Lib.hid (grains_row hx hp ⟨tp, tf, tt⟩ h0 h1 h2 h3 h4)
  have HFZ : Hid (faultF p.rg p.ks tp (wayF k) = 0 → ∃ a, at? p.rg tp = some a ∧ pageF a.r a.k p.ks (wayF k) = 0) := Lib.hid fault_zero
  have HWY := Lib.hid (fun (W : World) => (way_any k W))
  have HV := Lib.hid hv
  clear hr hv hp
  generalize stopF p ⟨k, pr, pg, cn, ri, ke, tgd, dr, ad, sz, va, ta⟩ ⟨tp, tf, tt⟩ = rs at *
  generalize wayF k = wy at *
  generalize grains p ⟨tp, tf, tt⟩ = zs at *
  generalize p.ks = K at *
  generalize faultF p.rg K tp wy = ft at *
  generalize at? p.rg tp = at_ at *
  go_enter Try.func55, Try.ntmps55
  go_wp2
  obtain ⟨w2, hw2⟩ : ∃ w2, w2 = ((w.alloc (.cells #[.int .i64 k, .int .i64 pr, .int .i64 pg, .int .i64 cn, .int .i64 ri, .int .i64 ke, .bool tgd, .int .i64 dr, .int .i64 ad, .int .i64 sz, .int .i64 va, .int .i64 ta] 43)).alloc (.cells #[.int .i64 tp, .int .i64 tf, .int .i64 tt] 114)) := ⟨_, rfl⟩
  rw [← hw2] at hB2 hO2 hT2 ⊢
  clear hw2
  have X2 := Lib.hid (hx.below hB2)
  have O2 := Lib.hid hO2
  have T2 := Lib.hid hT2
  have K2 := Lib.hid hB2
  have l1 : g < w2.heap.size := X2.out.lt
  have l2 : w.heap.size < w2.heap.size := O2.out.lt
  have l3 : w.heap.size + 1 < w2.heap.size := T2.out.lt
  clear hB2 hO2 hT2 hx
  have c1 : w2.cell? ⟨g, 1, none⟩ = some v := by rw [X2.out.cell]; exact HV.out
  have o0 : w2.cell? ⟨w.heap.size, 0, none⟩ = some (.int .i64 k) := by rw [O2.out.cell]; rfl
  have t0 : w2.cell? ⟨w.heap.size + 1, 0, none⟩ = some (.int .i64 tp) := by rw [T2.out.cell]; rfl
  have gc : ∀ (d : Nat) (os : Array Obj) (b o : Nat), b < w2.heap.size → (grow (redrawn w2 d) os).cell? ⟨b, o, none⟩ = w2.cell? ⟨b, o, none⟩ := fun d os b o h => (below_regrown _ d os).cell (p := ⟨b, o, none⟩) h
  refine wp_region_rel1 [Sp.call 12 (.int .i64 wy), Sp.call 13 (.int .i64 ft)] (by kernel_rfl) (by kernel_rfl) ?_
  intro V hV
  have e12 : V 12 = .int .i64 wy := hV 12
  have e13 : V 13 = .int .i64 ft := hV 13
  repeat (first | (refine rel_quiet rfl rfl ?_; go_big_quiet_step (fail); refine wpQuiet_nil ?_) | (refine rel_nil ⟨g, 0, none⟩ (by kernel_rfl) rfl rfl ?_; go_big_quiet_step (fail); refine wpQuiet_nil ?_))
  refine rel_fact (.agg (kA K)) (by kernel_rfl) rfl (fun w' hb hf => ex_ld rfl (run_ld Try.underlying28 rfl infoKs (X2.out.below hb) HKS.out rfl)) ?_
  go_big_quiet_step (fail)
  refine wpQuiet_nil ?_
  repeat (first | (refine rel_quiet rfl rfl ?_; go_big_quiet_step (fail); refine wpQuiet_nil ?_) | (refine rel_nil ⟨g, 0, none⟩ (by kernel_rfl) rfl rfl ?_; go_big_quiet_step (fail); refine wpQuiet_nil ?_))
  refine rel_special (Sp.call 12 (.int .i64 wy)) (by kernel_rfl) rfl (fun w' hb hf => ?_) ?_
  · refine becomes_known (f := 71) (args := #[.int .i64 k]) ?_ ((HWY.out w').mono fun e w'' h => ⟨h.1, by rw [h.2]; exact Below.refl _ _⟩)
    go_simp
  go_big_quiet_step (fail)
  refine wpQuiet_nil ?_
  simp only [e12]
  refine rel_special (Sp.call 13 (.int .i64 ft)) (by kernel_rfl) rfl (fun w' hb hf => ?_) ?_
  · refine becomes_known (f := 70) (args := #[v, .agg (kA K), .int .i64 tp, .int .i64 wy]) ?_ (HFA.out w' (K2.out.trans (hb.mono K2.out.size)))
    go_simp
  go_big_quiet_step (fail)
  refine wpQuiet_nil ?_
  simp only [e13]
  repeat (first | (refine rel_quiet rfl rfl ?_; go_big_quiet_step (fail); refine wpQuiet_nil ?_) | (refine rel_nil ⟨g, 0, none⟩ (by kernel_rfl) rfl rfl ?_; go_big_quiet_step (fail); refine wpQuiet_nil ?_))
  intro w3 hb3 hf
  clear hf gc o0 t0 c1 l1 l2 l3 e12 e13 hV
  have X3 := Lib.hid (X2.out.below hb3)
  have O3 := Lib.hid (O2.out.below hb3)
  have T3 := Lib.hid (T2.out.below hb3)
  have K3 := Lib.hid (K2.out.trans (hb3.mono K2.out.size))
  have l1 : g < w3.heap.size := X3.out.lt
  have l2 : w.heap.size < w3.heap.size := O3.out.lt
  have l3 : w.heap.size + 1 < w3.heap.size := T3.out.lt
  have c1 : w3.cell? ⟨g, 1, none⟩ = some v := by rw [X3.out.cell]; exact HV.out
  have o0 : w3.cell? ⟨w.heap.size, 0, none⟩ = some (.int .i64 k) := by rw [O3.out.cell]; rfl
  have o11 : w3.cell? ⟨w.heap.size, 11, none⟩ = some (.int .i64 ta) := by rw [O3.out.cell]; rfl
  have t0 : w3.cell? ⟨w.heap.size + 1, 0, none⟩ = some (.int .i64 tp) := by rw [T3.out.cell]; rfl
  have t1 : w3.cell? ⟨w.heap.size + 1, 1, none⟩ = some (.int .i64 tf) := by rw [T3.out.cell]; rfl
  have t2 : w3.cell? ⟨w.heap.size + 1, 2, none⟩ = some (.int .i64 tt) := by rw [T3.out.cell]; rfl
  clear hb3
  by_cases cf : ft = 0
  · obtain ⟨⟨ar, ak, ag, as_⟩, ha, _⟩ := HFZ.out cf
    subst cf ha
    have HST2 := Lib.hid (HST.out.trans (if_neg (by simp)))
    simp only [Option.getD] at HST2
    have HF2 := Lib.hid (fun (W : World) (hb : Below w3.heap.size w3 W) => HFI.out W (K3.out.trans (hb.mono K3.out.size)))
    unfold FindP at HF2
    simp only [Option.getD, Option.isSome] at HF2
    clear HST HFZ HFI HFA
    go_wp2
    have gc : ∀ (d : Nat) (os : Array Obj) (b o : Nat), b < w3.heap.size → (grow (redrawn w3 d) os).cell? ⟨b, o, none⟩ = w3.cell? ⟨b, o, none⟩ := fun d os b o h => (below_regrown _ d os).cell (p := ⟨b, o, none⟩) h
    have hL : ∀ cs', (38, cs') ∈ [((38 : TypeId), (#[.int .i64 ar, .int .i64 ak, .bool ag, .bool as_] : Array Value))] → cs' = #[.int .i64 ar, .int .i64 ak, .bool ag, .bool as_] := fun cs' h => by simp at h; exact h
    refine wp_region_rel1M (Fresh w3.heap.size [(38, #[.int .i64 ar, .int .i64 ak, .bool ag, .bool as_])]) [SpM.call 6 (.tuple #[.agg #[.int .i64 ar, .int .i64 ak, .bool ag, .bool as_], .bool true]), SpM.box 10 38 4 (fun cs' h => by rw [hL cs' h]; rfl), SpM.st 11 10 38 #[.int .i64 ar, .int .i64 ak, .bool ag, .bool as_] hL] (by kernel_rfl) (fresh_kind (Nat.le_refl _)) (by kernel_rfl) (by kernel_rfl) ?_
    intro V hV
    have e6 : V 6 = (.tuple #[.agg #[.int .i64 ar, .int .i64 ak, .bool ag, .bool as_], .bool true]) := hV 6
    have e11 : V 11 = undef := hV 11
    obtain ⟨ab, e10⟩ : ∃ b, V 10 = .pointer (some ⟨b, 0, none⟩) := hV 10
    repeat (first | (refine rel_quietM rfl rfl ?_; go_big_quiet_step (fail); refine wpQuiet_nil ?_) | (refine rel_nilM ⟨g, 0, none⟩ (by kernel_rfl) rfl rfl ?_; go_big_quiet_step (fail); refine wpQuiet_nil ?_))
    refine rel_specialM (SpM.call 6 _) (by kernel_rfl) rfl (fun w' hb hf => ?_) ?_
    · refine becomes_knownM (f := 20) (args := #[v, .int .i64 tp]) ?_ (HF2.out w' hb)
      go_simp
    go_big_quiet_step (fail)
    refine wpQuiet_nil ?_
    simp only [e6]
    repeat (refine rel_quietM rfl rfl ?_; go_big_quiet_step (fail); refine wpQuiet_nil ?_)
    refine rel_specialM (SpM.box 10 38 4 (fun cs' h => by rw [hL cs' h]; rfl)) (by kernel_rfl) rfl (fun w' hb hf => ?_) ?_
    · refine becomesM_value (w' := w'.alloc (.cells #[.int .i64 0, .int .i64 0, .bool false, .bool false] 38)) (v := .pointer (some ⟨w'.heap.size, 0, none⟩)) ?_ (.inl (below1 _ _)) ⟨⟨_, rfl⟩, _, _, rfl, hb.size, Bx.new _ _ _, rfl⟩
      go_simp
    go_big_quiet_step (fail)
    refine wpQuiet_nil ?_
    simp only [e10]
    refine rel_specialM (SpM.st 11 10 38 #[.int .i64 ar, .int .i64 ak, .bool ag, .bool as_] hL) (by kernel_rfl) rfl (fun w' hb hf => ?_) ?_
    · obtain ⟨ab2, z, hab, hag, BA, hz⟩ : ∃ b z, Value.pointer (some ⟨ab, 0, none⟩) = .pointer (some ⟨b, 0, none⟩) ∧ w3.heap.size ≤ b ∧ Bx w' b 38 z ∧ z.size = 4 := hf _ (List.Mem.head _) (by kernel_rfl)
      cases hab
      exact becomesM_store infoAt ab #[.int .i64 ar, .int .i64 ak, .bool ag, .bool as_] rfl rfl BA hz rfl (by simp [Value.oneCell']) (.inr ⟨ab, _, #[.int .i64 ar, .int .i64 ak, .bool ag, .bool as_], z, List.mem_cons_self, hag, BA, hz, rfl⟩) ⟨rfl, ab, e10, BA.row _⟩
    go_big_quiet_step (fail)
    refine wpQuiet_nil ?_
    repeat (refine rel_quietM rfl rfl ?_; go_big_quiet_step (fail); refine wpQuiet_nil ?_)
    intro w5 hb5 hf
    obtain ⟨ab2, hab, BA⟩ : ∃ b, V 10 = .pointer (some ⟨b, 0, none⟩) ∧ Bx w5 b 38 #[.int .i64 ar, .int .i64 ak, .bool ag, .bool as_] := hf _ (List.Mem.head _)
    rw [e10] at hab
    cases hab
    clear hf gc e6 e10 e11 hV o0 t0 t1 t2 c1 o11 l1 l2 l3
    have BA5 := Lib.hid BA
    have X5 := Lib.hid (X3.out.below hb5)
    have O5 := Lib.hid (O3.out.below hb5)
    have T5 := Lib.hid (T3.out.below hb5)
    have K5 := Lib.hid (K3.out.trans (hb5.mono K3.out.size))
    clear BA hb5
    have l0 : ab < w5.heap.size := BA5.out.lt
    have l1 : g < w5.heap.size := X5.out.lt
    have l2 : w.heap.size < w5.heap.size := O5.out.lt
    have l3 : w.heap.size + 1 < w5.heap.size := T5.out.lt
    have a0 : w5.cell? ⟨ab, 0, none⟩ = some (.int .i64 ar) := by rw [BA5.out.cell]; rfl
    have a1 : w5.cell? ⟨ab, 1, none⟩ = some (.int .i64 ak) := by rw [BA5.out.cell]; rfl
    have a2 : w5.cell? ⟨ab, 2, none⟩ = some (.bool ag) := by rw [BA5.out.cell]; rfl
    have a3 : w5.cell? ⟨ab, 3, none⟩ = some (.bool as_) := by rw [BA5.out.cell]; rfl
    have o0 : w5.cell? ⟨w.heap.size, 0, none⟩ = some (.int .i64 k) := by rw [O5.out.cell]; rfl
    have o11 : w5.cell? ⟨w.heap.size, 11, none⟩ = some (.int .i64 ta) := by rw [O5.out.cell]; rfl
    have t0 : w5.cell? ⟨w.heap.size + 1, 0, none⟩ = some (.int .i64 tp) := by rw [T5.out.cell]; rfl
    have t1 : w5.cell? ⟨w.heap.size + 1, 1, none⟩ = some (.int .i64 tf) := by rw [T5.out.cell]; rfl
    have t2 : w5.cell? ⟨w.heap.size + 1, 2, none⟩ = some (.int .i64 tt) := by rw [T5.out.cell]; rfl
    have HTG := Lib.hid (fun (W : World) (hb : Below w.heap.size w W) => tags_any ar ak ag as_ wy (some ⟨g, 10 + tp.toNat * 68 + 64 + (tf / 16).toNat, none⟩) ((tt - 1) / 16 + 1 - tf / 16).toNat (4 - (tf / 16).toNat) zs ta W w.heap.size (HG.out.below hb) hb.size)
    by_cases ck : k = 13
    · have HST3 := Lib.hid (HST2.out.trans (if_pos ck))
      subst ck
      clear HST2
      cases ag with
      | false =>
        have HR : Hid (rs = (4, tp * 64 + tf)) := Lib.hid (HST3.out.trans (if_pos rfl))
        go_wp2
        go_ret2
        exact ⟨ret_ii (by rw [HR.out]) (by rw [HR.out]), K5.out⟩
      | true =>
        have HR : Hid (rs = (0, 0)) := Lib.hid (HST3.out.trans (if_neg (by simp)))
        go_wp2
        go_ret2
        exact ⟨ret_ii (by rw [HR.out]) (by rw [HR.out]), K5.out⟩
    · have HST3 := Lib.hid (HST2.out.trans (if_neg ck))
      have hk : (k == 13) = false := by rw [beq_eq_false_iff_ne]; exact ck
      clear HST2
      go_wp2
      have gc : ∀ (d : Nat) (os : Array Obj) (b o : Nat), b < w5.heap.size → (grow (redrawn w5 d) os).cell? ⟨b, o, none⟩ = w5.cell? ⟨b, o, none⟩ := fun d os b o h => (below_regrown _ d os).cell (p := ⟨b, o, none⟩) h
      have d1 : Int.tdiv tf 16 = tf / 16 := Int.tdiv_eq_ediv_of_nonneg h2
      have d2 : IntKind.i64.wrap (tt - 1) = tt - 1 := by rw [IntKind.wrap_i64]; omega
      have d3 : Int.tdiv (tt - 1) 16 = (tt - 1) / 16 := Int.tdiv_eq_ediv_of_nonneg (by omega)
      have b1 : 0 ≤ tf / 16 ∧ tf / 16 ≤ (tt - 1) / 16 ∧ (tt - 1) / 16 ≤ 3 := by omega
      refine wp_region_rel1 [] (by kernel_rfl) (by kernel_rfl) ?_
      intro V hV
      repeat (refine rel_quiet rfl rfl ?_; go_big_quiet_step (fail); refine wpQuiet_nil ?_)
      intro w6 hb6 hf
      clear hf hV gc d1 d2 d3 o0 o11 t0 t1 t2 a0 a1 a2 a3 l0 l1 l2 l3
      have BA6 := Lib.hid (BA5.out.below hb6)
      have X6 := Lib.hid (X5.out.below hb6)
      have O6 := Lib.hid (O5.out.below hb6)
      have T6 := Lib.hid (T5.out.below hb6)
      have K6 := Lib.hid (K5.out.trans (hb6.mono K5.out.size))
      clear hb6
      have l0 : ab < w6.heap.size := BA6.out.lt
      have l1 : g < w6.heap.size := X6.out.lt
      have l2 : w.heap.size < w6.heap.size := O6.out.lt
      have l3 : w.heap.size + 1 < w6.heap.size := T6.out.lt
      have o0 : w6.cell? ⟨w.heap.size, 0, none⟩ = some (.int .i64 k) := by rw [O6.out.cell]; rfl
      have o11 : w6.cell? ⟨w.heap.size, 11, none⟩ = some (.int .i64 ta) := by rw [O6.out.cell]; rfl
      have t0 : w6.cell? ⟨w.heap.size + 1, 0, none⟩ = some (.int .i64 tp) := by rw [T6.out.cell]; rfl
      obtain ⟨f1, hf1⟩ : ∃ f1, f1 = tf / 16 := ⟨_, rfl⟩
      obtain ⟨l4, hl4⟩ : ∃ l4, l4 = (tt - 1) / 16 := ⟨_, rfl⟩
      obtain ⟨tF, htF⟩ : ∃ e, e = tagsF ag wy zs ta := ⟨_, rfl⟩
      obtain ⟨tK, htK⟩ : ∃ e, e = tagsK ag wy zs ta := ⟨_, rfl⟩
      have bK : 0 ≤ tK ∧ tK ≤ 3 := by
        rw [htK]
        have := tagsK_range ag wy zs ta
        have := HG.out.1
        omega
      rw [← hf1, ← hl4] at b1 HTG
      rw [← htF, ← htK] at HST3 HTG
      rw [← hf1] at HST3
      clear htF htK HG
      obtain ⟨b1, b2, b3⟩ := b1
      go_wp2
      have gc : ∀ (d : Nat) (os : Array Obj) (b o : Nat), b < w6.heap.size → (grow (redrawn w6 d) os).cell? ⟨b, o, none⟩ = w6.cell? ⟨b, o, none⟩ := fun d os b o h => (below_regrown _ d os).cell (p := ⟨b, o, none⟩) h
      have hs1 : IntKind.i64.wrap (l4 + 1) = l4 + 1 := by rw [IntKind.wrap_i64]; omega
      refine wp_region_rel1 [Sp.call 3 (.int .i64 wy), Sp.call 17 (.tuple #[.int .i64 tF, .int .i64 tK])] (by kernel_rfl) (by kernel_rfl) ?_
      intro V hV
      have e3 : V 3 = .int .i64 wy := hV 3
      have e17 : V 17 = .tuple #[.int .i64 tF, .int .i64 tK] := hV 17
      refine rel_fact (.agg #[.int .i64 ar, .int .i64 ak, .bool ag, .bool as_]) (by kernel_rfl) rfl (fun w' hb hf => ex_ld rfl (run_ld Try.underlying38 rfl infoAt (BA6.out.below hb) (Sub.all _) rfl)) ?_
      go_big_quiet_step (fail)
      refine wpQuiet_nil ?_
      repeat (refine rel_quiet rfl rfl ?_; go_big_quiet_step (fail); refine wpQuiet_nil ?_)
      refine rel_special (Sp.call 3 (.int .i64 wy)) (by kernel_rfl) rfl (fun w' hb hf => ?_) ?_
      · refine becomes_known (f := 71) (args := #[.int .i64 k]) ?_ ((HWY.out w').mono fun e w'' h => ⟨h.1, by rw [h.2]; exact Below.refl _ _⟩)
        go_simp
      go_big_quiet_step (fail)
      refine wpQuiet_nil ?_
      simp only [e3]
      repeat (first | (refine rel_quiet rfl rfl ?_; go_big_quiet_step (fail); refine wpQuiet_nil ?_) | (refine rel_nil ⟨g, 0, none⟩ (by kernel_rfl) rfl rfl ?_; go_big_quiet_step (fail); refine wpQuiet_nil ?_))
      refine rel_fact (.slice (some ⟨g, 10 + tp.toNat * 68 + 64 + f1.toNat, none⟩) ((l4 + 1).toNat - f1.toNat) (4 - f1.toNat)) (by kernel_rfl) rfl (fun w' hb hf => ex_sl4 g (10 + tp.toNat * 68 + 64) f1 (l4 + 1) rfl (by rw [hf1]; rfl) (by rw [hl4]; rfl) b1 (by omega) (by omega) (by omega)) ?_
      go_big_quiet_step (fail)
      refine wpQuiet_nil ?_
      repeat (refine rel_quiet rfl rfl ?_; go_big_quiet_step (fail); refine wpQuiet_nil ?_)
      refine rel_special (Sp.call 17 (.tuple #[.int .i64 tF, .int .i64 tK])) (by kernel_rfl) rfl (fun w' hb hf => ?_) ?_
      · refine becomes_known (f := 72) (args := #[.agg #[.int .i64 ar, .int .i64 ak, .bool ag, .bool as_], .int .i64 wy, .slice (some ⟨g, 10 + tp.toNat * 68 + 64 + f1.toNat, none⟩) ((l4 + 1).toNat - f1.toNat) (4 - f1.toNat), .int .i64 ta]) ?_ ?_
        · go_simp
        · have := HTG.out w' (K6.out.trans (hb.mono K6.out.size))
          rwa [show (l4 + 1 - f1).toNat = (l4 + 1).toNat - f1.toNat by omega] at this
      go_big_quiet_step (fail)
      refine wpQuiet_nil ?_
      simp only [e17]
      repeat (refine rel_quiet rfl rfl ?_; go_big_quiet_step (fail); refine wpQuiet_nil ?_)
      intro w7 hb7 hf
      clear hf hV gc o0 o11 t0 l0 l1 l2 l3 e3 e17 hs1
      have T7 := Lib.hid (T6.out.below hb7)
      have K7 := Lib.hid (K6.out.trans (hb7.mono K6.out.size))
      clear hb7
      have l3 : w.heap.size + 1 < w7.heap.size := T7.out.lt
      have t0 : w7.cell? ⟨w.heap.size + 1, 0, none⟩ = some (.int .i64 tp) := by rw [T7.out.cell]; rfl
      by_cases cz : tF = 0
      · have HR : Hid (rs = (0, 0)) := Lib.hid (HST3.out.trans (if_neg (by simp [cz])))
        subst cz
        clear HST3
        go_wp2
        go_ret2
        exact ⟨ret_ii (by rw [HR.out]) (by rw [HR.out]), K7.out⟩
      · have HR : Hid (rs = (tF, max (tp * 64 + tf) (tp * 64 + (f1 + tK) * 16))) := Lib.hid (HST3.out.trans (if_pos cz))
        have hne : (tF != 0) = true := by rw [bne_iff_ne]; exact cz
        clear HST3
        go_wp2
        have gc : ∀ (d : Nat) (os : Array Obj) (b o : Nat), b < w7.heap.size → (grow (redrawn w7 d) os).cell? ⟨b, o, none⟩ = w7.cell? ⟨b, o, none⟩ := fun d os b o h => (below_regrown _ d os).cell (p := ⟨b, o, none⟩) h
        obtain ⟨bk1, bk2⟩ := bK
        have q1 : IntKind.i64.wrap (tp * 64) = tp * 64 := by rw [IntKind.wrap_i64]; omega
        have q2 : IntKind.i64.wrap (tf / 16 + tK) = f1 + tK := by rw [IntKind.wrap_i64]; omega
        have q3 : IntKind.i64.wrap ((f1 + tK) * 16) = (f1 + tK) * 16 := by rw [IntKind.wrap_i64]; omega
        have q4 : IntKind.i64.wrap (tp * 64 + (f1 + tK) * 16) = tp * 64 + (f1 + tK) * 16 := by rw [IntKind.wrap_i64]; omega
        refine wp_region_rel1 [] (by kernel_rfl) (by kernel_rfl) ?_
        intro V hV
        repeat (refine rel_quiet rfl rfl ?_; go_big_quiet_step (fail); refine wpQuiet_nil ?_)
        intro w8 hb8 hf
        clear hf hV gc q1 q2 q3 q4
        go_wp2
        go_ret2
        exact ⟨ret_ii (by rw [HR.out]) (by rw [HR.out, ← hf1]; simp only; omega), K7.out.trans (hb8.mono K7.out.size)⟩
  · have HR : Hid (rs = (ft, tp * 64 + tf)) := Lib.hid (by rw [HST.out, if_pos cf])
    have hne : (ft != 0) = true := by rw [bne_iff_ne]; exact cf
    go_wp2
    go_ret2
    exact ⟨ret_ii (by rw [HR.out]) (by rw [HR.out]), K3.out⟩
end Go.Proofs.Ytglnnplijienbaa
