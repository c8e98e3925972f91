/- Several texts in one: Srx, Sry, Rgg. -/
import Derived.Shelf.SlSortCmp.NoneTotal
import Derived.Test.YtglnnplijienbaaCSrw
import Derived.Test.YtglnnplijienbaaCSrt
import Derived.Test.YtglnnplijienbaaM20
import Derived.Test.YtglnnplijienbaaM16
import Derived.Test.YtglnnplijienbaaCSwn
import Derived.Test.YtglnnplijienbaaM21
/- slices.SortFunc at regions. -/
namespace Go.Proofs.Ytglnnplijienbaa
open Go.Shelf Go.ChangeShapes Go.WideShapes Go.ChangeAt Go.RowKit Go.Joins Go.Sort
set_option linter.unusedVariables false
def RgB : Type := {x : Rgn // 0 ≤ x.f ∧ x.f ≤ 64}
instance : Inhabited RgB := ⟨⟨default, by decide, by decide⟩⟩
def valB (y : RgB) : Rgn := y.1
def encB (y : RgB) : List Value := fR y.1
def cfB (x y : RgB) : Int := x.1.f - y.1.f
theorem ltB (x y : RgB) : ltOf cfB x y = decide (x.1.f < y.1.f) := by
  unfold ltOf cfB; exact decide_eq_decide.2 (by omega)
theorem swoB : SWO (ltOf cfB) where
  irrefl x := by rw [ltB]; simp
  trans x y z h1 h2 := by rw [ltB] at *; simp at *; omega
  ntrans x y z h1 h2 := by rw [ltB] at *; simp at *; omega
theorem cmp_R (x y : Rgn) (hx : 0 ≤ x.f ∧ x.f ≤ 64) (hy : 0 ≤ y.f ∧ y.f ≤ 64) (W : World) : Calls Try.prog 75 #[.agg #[.int .i64 x.f, .int .i64 x.t, .int .i64 x.a.r, .int .i64 x.a.k, .bool x.a.g, .bool x.a.s], .agg #[.int .i64 y.f, .int .i64 y.t, .int .i64 y.a.r, .int .i64 y.a.k, .bool y.a.g, .bool y.a.s]] W fun e w' => e = .returned (.int .i64 (x.f - y.f)) ∧ ∃ q os', w' = grow (W.drewN q) os' := by
  obtain ⟨h1, h2⟩ := hx
  obtain ⟨h3, h4⟩ := hy
  go_enter Try.func75, Try.ntmps75
  go_wp2
  go_ret
  exact ⟨ret_i (by first | rfl | (unfold wrap64; omega)), 0, _, by rw [alloc_eq_grow, alloc_eq_grow, grow_grow]; rfl⟩
theorem cmpB (blk off size : Nat) (w : World) : CmpLays Try.prog 75 #[] encB 6 cfB blk off size w :=
  fun _ _ _ _ x y => cmp_R x.1 y.1 x.2 y.2 _
set_option maxHeartbeats 1000000 in
theorem sort_R (v : Value) (xs : List Rgn) (w : World) (base : Nat) (h : Os fR 6 40 w base v xs) (hx : ∀ x ∈ xs, 0 ≤ x.f ∧ x.f ≤ 64) (hn : xs.length ≤ 1000000) (hb : base ≤ w.heap.size) :
    Calls Try.prog 74 #[v, .func (.func 75) #[] #[]] w fun e w' => e = .returned (.tuple #[]) ∧ ∃ ys, ys.Perm xs ∧ SortedR ys ∧ Os fR 6 40 w' base v ys ∧ Go.RowKit.Below base w w' := by
  have hh := h
  obtain ⟨h1, ⟨rfl, h0⟩ | ⟨g, cap, cur, rfl, hg, hgh, _⟩⟩ := h
  · refine (AnyF.slices_SortFunc_none sortR none 0 _ w).mono ?_
    rintro e w' ⟨rfl, rfl⟩
    exact ⟨rfl, xs, List.Perm.refl _, by rw [List.eq_nil_of_length_eq_zero h0]; exact List.Pairwise.nil, hh, Go.RowKit.Below.refl _ _⟩
  · obtain ⟨d, hd⟩ : ∃ d : Array RgB, d.toList.map valB = xs := ⟨(xs.attachWith (fun x => 0 ≤ x.f ∧ x.f ≤ 64) hx).toArray, List.attachWith_map_subtype_val hx⟩
    have hds : d.size = xs.length := by rw [← hd]; simp
    have hH := os_holds (β := RgB) (enc := encB) fR_len (by decide) valB (fun _ => rfl) hh d hd
    have hc := AnyQ.slices_SortFunc (α := RgB) sortR 6 Try.isAgg40 Try.sizeOf40 encB (fun _ => rfl) (fun x => fR_one1 x.1) cfB swoB 75 #[] g 0 cap d w (enters_of Try.func75 (by kernel_rfl) rfl) (cmpB _ _ _ w) hH (blk_lt hgh) (by rw [hds]; omega)
    rw [hds] at hc
    refine Calls.mono hc ?_
    rintro e w' ⟨rfl, d', n, os, hp, hs, rfl⟩
    have hsz : d'.size = xs.length := by rw [← hds]; exact hp.1
    have hso := os_sorted (β := RgB) (enc := encB) fR_len (by decide) valB (fun _ => rfl) hh d' hsz n os
    refine ⟨rfl, d'.toList.map valB, ?_, ?_, hso.1, hso.2⟩
    · have := (perm_list (by rw [hds]; exact hp)).map valB
      rwa [hd] at this
    · have hs2 := sorted_list (d := d') (by rw [hsz]; exact hs)
      unfold SortedR
      rw [List.pairwise_map]
      refine hs2.imp fun {a b} h => ?_
      rw [ltB] at h
      simp at h; exact h
end Go.Proofs.Ytglnnplijienbaa

/- region.joined. -/
namespace Go.Proofs.Ytglnnplijienbaa
open Go.ChangeShapes Go.WideShapes Go.ChangeAt Go.RowKit Go.Joins
set_option linter.unusedVariables false
theorem append_B {ops : Array Oper} {rest : List Oper} {o : Oper} {a : Act} {Q : Exit → Act → World → Prop} (hgd : o.guard = none) (s x : Operand) (ho : o.op = .call { callee := .builtin .append, args := #[s, x], argTypes := #[25, 25] })
    (base : Nat) (v : Value) (t : List Rgn) (W : World) (c : Rgn) (gx : Nat) (hs : a.eval s = v) (hx : a.eval x = .slice (some ⟨gx, 0, none⟩) 1 1) (hgx : gx = W.heap.size) (hos : Os fR 6 40 W base v t) (hb : base ≤ W.heap.size) (hlen : t.length + 1 ≤ 1000000)
    (hK : ∀ g' c' w', Os fR 6 40 w' base (.slice (some ⟨g', 0, none⟩) (t.length + 1) c') (t ++ [c]) → Below base W w' → base ≤ g' → t.length + 1 ≤ c' → c' ≤ maxLen → wpList Try.prog ops Q rest (a.put o.dst (.slice (some ⟨g', 0, none⟩) (t.length + 1) c')) w') :
    wpList Try.prog ops Q (o :: rest) a (W.alloc (.cells #[.int .i64 c.f, .int .i64 c.t, .int .i64 c.a.r, .int .i64 c.a.k, .bool c.a.g, .bool c.a.s] 40)) :=
  append_one Try.underlying25 info_R rfl (by decide) fR_len fR_one1 hgd s x ho base v t W c gx hs hx hgx hos hb (by unfold maxLen; omega) (by omega) hK
theorem os_ne {α : Type} {f : α → List Value} {sz : Nat} {T : TypeId} {w : World} {base n c : Nat} {A : Option Addr} {xs : List α} (h : Os f sz T w base (.slice A n c) xs) (hn : 0 < xs.length) : ∃ g, A = some ⟨g, 0, none⟩ := by
  obtain ⟨_, ⟨e, h0⟩ | ⟨g, cap, cur, e, _⟩⟩ := h
  · omega
  · injection e with e _ _; exact ⟨g, e⟩

theorem wrap_n {m n : Nat} (h : m + 1 ≤ n) (hn : n ≤ 1000) : wrap64 (m : Int) = (m : Int) ∧ IntKind.i64.wrap (m : Int) = (m : Int) := ⟨by unfold wrap64; omega, by rw [IntKind.wrap_i64]; omega⟩
theorem last_split {jk : List Rgn} (h : jk ≠ []) : ∃ m p, jk.length = m + 1 ∧ jk[m]? = some p ∧ (∀ x : Rgn, (p.t == x.f && eqA p.a x.a) = false → stepJ jk x = jk ++ [x]) ∧ (∀ x : Rgn, (p.t == x.f && eqA p.a x.a) = true → stepJ jk x = jk.set m ⟨p.f, x.t, p.a⟩) := by
  rcases List.eq_nil_or_concat jk with rfl | ⟨q, p, rfl⟩
  · exact absurd rfl h
  · rw [List.concat_eq_append]
    exact ⟨q.length, p, by simp, by simp, fun x hx => stepJ_no hx, fun x hx => by rw [stepJ_yes hx]; simp⟩

set_option maxHeartbeats 4000000 in
set_option maxRecDepth 100000 in
theorem joined_any (v : Value) (xs : List Rgn) (w : World) (base : Nat) (h : Os fR 6 40 w base v xs) (hx : ∀ x ∈ xs, 0 ≤ x.f ∧ x.f ≤ 64) (hn : xs.length ≤ 1000) (hb : base ≤ w.heap.size) :
    Calls Try.prog 60 #[v] w fun e w' => ∃ ys v', e = .returned v' ∧ ys.Perm xs ∧ SortedR ys ∧ Os fR 6 40 w' w.heap.size v' (joinL ys) ∧ Below base w w' := by
  have hsort := sort_R v xs w base h hx (by omega) hb
  obtain ⟨A, c, rfl, hc1, hc2⟩ := h.form
  clear h hx hc1 hc2
  go_enter Try.func60, Try.ntmps60
  go_wp2_with (go_at_call 74; refine hsort.mono ?_; rintro e w1 ⟨rfl, ys, hp, hsr, ho, hb1⟩)
  have hys : ys.length = xs.length := hp.length_eq
  have hw1 : w.heap.size ≤ w1.heap.size := hb1.size
  have FIN := Lib.hid (fun (v' : Value) (w' : World) (h1 : Os fR 6 40 w' w1.heap.size v' (joinL ys)) (h2 : Below w1.heap.size w1 w') => (⟨ys, v', rfl, hp, hsr, h1.rebase hw1, hb1.trans (h2.mono (Nat.le_trans hb hw1))⟩ : ∃ ys v'', Ending.returned v' = .returned v'' ∧ ys.Perm xs ∧ SortedR ys ∧ Os fR 6 40 w' w.heap.size v'' (joinL ys) ∧ Below base w w'))
  obtain ⟨A1, c1, e1, hz1, hz2, hrw⟩ := ho.row fR_len
  clear hz1 hz2
  injection e1 with e1 e2 e3
  subst e1 e3
  clear e2
  rw [hys] at hrw
  have HX := Lib.hid (fun (i : Nat) (hi : i < xs.length) => (⟨ys[i]'(by omega), List.getElem?_eq_getElem _⟩ : ∃ x, ys[i]? = some x))
  have HZ := Lib.hid hrw
  have HJS := Lib.hid (fun (k : Nat) (x : Rgn) (h : ys[k]? = some x) => (congrArg joinL (take_snocR h)).trans (joinL_snoc (ys.take k) x))
  have HJL := Lib.hid (fun (k : Nat) (hk : k ≤ xs.length) => (show (joinL (ys.take k)).length ≤ xs.length from Nat.le_trans (joinL_len _) (by rw [List.length_take]; omega)))
  have HJN : Hid (joinL (ys.take xs.length) = joinL ys) := Lib.hid (by rw [List.take_of_length_le (by omega)])
  have HJ0 : Hid (joinL (ys.take 0) = []) := Lib.hid rfl
  have HA : Hid (0 < xs.length → ∃ b off, A = some ⟨b, off, none⟩ ∧ b < w1.heap.size) := Lib.hid (fun h => HZ.out.open h)
  obtain ⟨fj, hfj⟩ : ∃ f : Nat → List Rgn, f = fun k => joinL (ys.take k) := ⟨_, rfl⟩
  have FJS : Hid (∀ k x, ys[k]? = some x → fj (k + 1) = stepJ (fj k) x) := Lib.hid (by rw [hfj]; exact HJS.out)
  have FJL : Hid (∀ k, k ≤ xs.length → (fj k).length ≤ xs.length) := Lib.hid (by rw [hfj]; exact HJL.out)
  have FJN : Hid (fj xs.length = joinL ys) := Lib.hid (by rw [hfj]; exact HJN.out)
  have FJ0 : Hid (fj 0 = []) := Lib.hid (by rw [hfj]; exact HJ0.out)
  generalize joinL ys = jl at *
  generalize xs.length = n at *
  clear hfj HJS HJL HJN HJ0 ho hrw hp hsr hb1 hsort hys
  go_loopw [3, 6, 11] (fun v3 v6 i wr => ∃ k : Nat, k ≤ n ∧ i = .int .i64 k ∧ Hid (Os fR 6 40 wr w1.heap.size v3 (fj k)) ∧ Hid (Below w1.heap.size w1 wr)) (fun _ _ i _ => n - (intOf i).toNat)
  case atStart => exact ⟨0, by omega, rfl, Lib.hid (by rw [FJ0.out]; exact Os.nil), Lib.hid (Below.refl _ _)⟩
  case round =>
    obtain ⟨k, hk, rfl, HO, HB⟩ := hrel
    have hsz := HB.out.size
    by_cases hlt : k < n
    · obtain ⟨x, hx⟩ := HX.out k hlt
      obtain ⟨b, off, hAe, hbb⟩ := HA.out (by omega)
      subst hAe
      have hcs := (HZ.out.below HB.out).at_ fR_len hx
      have xc0 : wr.cell? ⟨b, off + k * 6, none⟩ = some (.int .i64 x.f) := hcs 0 _ rfl
      have xc1 : wr.cell? ⟨b, off + k * 6 + 1, none⟩ = some (.int .i64 x.t) := hcs 1 _ rfl
      have xc2 : wr.cell? ⟨b, off + k * 6 + 2, none⟩ = some (.int .i64 x.a.r) := hcs 2 _ rfl
      have xc3 : wr.cell? ⟨b, off + k * 6 + 3, none⟩ = some (.int .i64 x.a.k) := hcs 3 _ rfl
      have xc4 : wr.cell? ⟨b, off + k * 6 + 4, none⟩ = some (.bool x.a.g) := hcs 4 _ rfl
      have xc5 : wr.cell? ⟨b, off + k * 6 + 5, none⟩ = some (.bool x.a.s) := hcs 5 _ rfl
      have HJK := Lib.hid (FJS.out k x hx)
      have hjl := FJL.out k hk
      clear hcs hx
      have HO1 : Hid (Os fR 6 40 (wr.alloc (.cells #[.int .i64 x.f, .int .i64 x.t, .int .i64 x.a.r, .int .i64 x.a.k, .bool x.a.g, .bool x.a.s] 40)) w1.heap.size u3 (fj k)) := Lib.hid (HO.out.below ((Below.refl wr.heap.size wr).alloc (Nat.le_refl _) _) (Nat.le_refl _))
      generalize fj k = jk at *
      rcases Nat.eq_zero_or_pos jk.length with he | he
      · obtain rfl := List.eq_nil_of_length_eq_zero he
        obtain ⟨A3, c3, hu3, hz1, hz2⟩ := HO1.out.form
        clear hz1 hz2
        rw [List.length_nil] at hu3
        subst hu3
        clear he
        have HJ : Hid (fj (k + 1) = [x]) := HJK
        --[A
        go_wp2
        go_quiet (fail)
        go_wp2_with (at_builtin; refine append_B rfl _ _ rfl w1.heap.size (.slice A3 0 c3) [] ((wr.alloc (.cells #[.int .i64 x.f, .int .i64 x.t, .int .i64 x.a.r, .int .i64 x.a.k, .bool x.a.g, .bool x.a.s] 40)).drewN _) x (wr.heap.size + 1) rfl rfl (by simp) (HO1.out.below (below_drewN _ _ _) (Nat.le_refl _)) (by simp; omega) (by have := List.length_nil (α := Rgn); omega) ?_; intro g' c' w' ho2 hb2 hbg hcc hmx)
        have HO2 := Lib.hid ho2
        have HB3 := Lib.hid (((HB.out.alloc hsz (.cells #[.int .i64 x.f, .int .i64 x.t, .int .i64 x.a.r, .int .i64 x.a.k, .bool x.a.g, .bool x.a.s] 40)).trans (below_drewN _ _ _)).trans hb2)
        clear ho2 hb2
        go_wp2
        go_roundw
        case rel => exact ⟨k + 1, by omega, by go_num, Lib.hid (by rw [HJ.out]; exact HO2.out), Lib.hid (by exact HB3.out)⟩
        case measure => simp [intOf]; omega
        --]A
      · obtain ⟨m, p, hml, hp0, hno, hyes⟩ := last_split (jk := jk) (fun e => by rw [e] at he; simp at he)
        obtain ⟨A3, c3, hu3, hz1, hz2⟩ := HO1.out.form
        clear hz1 hz2
        rw [hml] at hu3
        subst hu3
        obtain ⟨g, rfl⟩ := os_ne HO1.out he
        rw [hml] at hjl
        have HML := Lib.hid hml
        have HNO := Lib.hid hno
        have HYES := Lib.hid hyes
        have hps := HO.out.cells fR_len hp0
        obtain ⟨hgl, hgb, hz1, hz2, hz3⟩ := HO.out.blk_lt_
        clear hz1 hz2 hz3
        have HSET := Lib.hid (fun (W' : World) (hb : Below wr.heap.size wr W') => (HO.out.below hb (Nat.le_refl _)).set_cell (y := ⟨p.f, x.t, p.a⟩) (u := .int .i64 x.t) fR_len (by decide) 1 hp0 rfl (fun mm vv hm hv => by
          match mm, hm, hv with
          | 0, _, hv => exact hv
          | 2, _, hv => exact hv
          | 3, _, hv => exact hv
          | 4, _, hv => exact hv
          | 5, _, hv => exact hv
          | (mm + 6), _, hv => simp [fR] at hv))
        have hfz : wr.frozen? ⟨g, m * 6 + 1, none⟩ = false := (hps 1 _ rfl).2
        have pc0 : wr.cell? ⟨g, m * 6, none⟩ = some (.int .i64 p.f) := (hps 0 _ rfl).1
        have pc1 : wr.cell? ⟨g, m * 6 + 1, none⟩ = some (.int .i64 p.t) := (hps 1 _ rfl).1
        have pc2 : wr.cell? ⟨g, m * 6 + 2, none⟩ = some (.int .i64 p.a.r) := (hps 2 _ rfl).1
        have pc3 : wr.cell? ⟨g, m * 6 + 3, none⟩ = some (.int .i64 p.a.k) := (hps 3 _ rfl).1
        have pc4 : wr.cell? ⟨g, m * 6 + 4, none⟩ = some (.bool p.a.g) := (hps 4 _ rfl).1
        have pc5 : wr.cell? ⟨g, m * 6 + 5, none⟩ = some (.bool p.a.s) := (hps 5 _ rfl).1
        have hm0 : (0 : Int) ≤ (m : Int) := by omega
        have hm1 : (m : Int) < (m : Int) + 1 := by omega
        have hm2 : m < m + 1 := by omega
        have hmw : wrap64 (m : Int) = (m : Int) := (wrap_n hjl hn).1
        have hmv : IntKind.i64.wrap (m : Int) = (m : Int) := (wrap_n hjl hn).2
        clear hps hp0 hml hno hyes he
        cases h5 : (p.t == x.f) with
        | false =>
          have HJ : Hid (fj (k + 1) = jk ++ [x]) := Lib.hid (by rw [HJK.out, HNO.out x (by rw [h5]; rfl)])
          --[B
          go_wp2
          go_quiet (fail)
          go_wp2_with (at_builtin; refine append_B rfl _ _ rfl w1.heap.size (.slice (some ⟨g, 0, none⟩) (m + 1) c3) jk ((wr.alloc (.cells #[.int .i64 x.f, .int .i64 x.t, .int .i64 x.a.r, .int .i64 x.a.k, .bool x.a.g, .bool x.a.s] 40)).drewN _) x (wr.heap.size + 1) rfl rfl (by simp) (HO1.out.below (below_drewN _ _ _) (Nat.le_refl _)) (by simp; omega) (by have := HML.out; omega) ?_; intro g' c' w' ho2 hb2 hbg hcc hmx)
          have HO2 := Lib.hid ho2
          have HB3 := Lib.hid (((HB.out.alloc hsz (.cells #[.int .i64 x.f, .int .i64 x.t, .int .i64 x.a.r, .int .i64 x.a.k, .bool x.a.g, .bool x.a.s] 40)).trans (below_drewN _ _ _)).trans hb2)
          clear ho2 hb2
          go_wp2
          go_roundw
          case rel => exact ⟨k + 1, by omega, by go_num, Lib.hid (by rw [HJ.out]; exact HO2.out), Lib.hid (by exact HB3.out)⟩
          case measure => simp [intOf]; omega
          --]B
        | true =>
          have hqA : ∀ w, (Op.equalIn 10000 38 (.agg #[.int .i64 p.a.r, .int .i64 p.a.k, .bool p.a.g, .bool p.a.s]) (.agg #[.int .i64 x.a.r, .int .i64 x.a.k, .bool x.a.g, .bool x.a.s])).run Try.prog w = .ok (eqA p.a x.a) w := run_eqA p.a x.a
          cases h6 : eqA p.a x.a with
          | false =>
            rw [h6] at hqA
            have HJ : Hid (fj (k + 1) = jk ++ [x]) := Lib.hid (by rw [HJK.out, HNO.out x (by rw [h5, h6]; rfl)])
            --[C
            go_wp2
            go_quiet (fail)
            go_wp2_with (at_builtin; refine append_B rfl _ _ rfl w1.heap.size (.slice (some ⟨g, 0, none⟩) (m + 1) c3) jk ((wr.alloc (.cells #[.int .i64 x.f, .int .i64 x.t, .int .i64 x.a.r, .int .i64 x.a.k, .bool x.a.g, .bool x.a.s] 40)).drewN _) x (wr.heap.size + 1) rfl rfl (by simp) (HO1.out.below (below_drewN _ _ _) (Nat.le_refl _)) (by simp; omega) (by have := HML.out; omega) ?_; intro g' c' w' ho2 hb2 hbg hcc hmx)
            have HO2 := Lib.hid ho2
            have HB3 := Lib.hid (((HB.out.alloc hsz (.cells #[.int .i64 x.f, .int .i64 x.t, .int .i64 x.a.r, .int .i64 x.a.k, .bool x.a.g, .bool x.a.s] 40)).trans (below_drewN _ _ _)).trans hb2)
            clear ho2 hb2
            go_wp2
            go_roundw
            case rel => exact ⟨k + 1, by omega, by go_num, Lib.hid (by rw [HJ.out]; exact HO2.out), Lib.hid (by exact HB3.out)⟩
            case measure => simp [intOf]; omega
            --]C
          | true =>
            rw [h6] at hqA
            have HJ : Hid (fj (k + 1) = jk.set m ⟨p.f, x.t, p.a⟩) := Lib.hid (by rw [HJK.out, HYES.out x (by rw [h5, h6]; rfl)])
            --[D
            go_wp2
            go_quiet (fail)
            go_wp2
            go_roundw
            case rel => exact ⟨k + 1, by omega, by go_num, Lib.hid (by rw [HJ.out]; exact HSET.out _ (((Below.refl wr.heap.size wr).alloc (Nat.le_refl _) _).trans (below_drewN _ _ _))), Lib.hid (((HB.out.alloc hsz _).trans (below_drewN _ _ _)).setCell (p := ⟨g, m * 6 + 1, none⟩) hgb _)⟩
            case measure => simp [intOf]; omega
            --]D
    · have hkn : k = n := by omega
      subst hkn
      have HO2 := HO.out
      rw [FJN.out] at HO2
      go_wp2
      go_ret
      exact FIN.out _ _ HO2 HB.out
end Go.Proofs.Ytglnnplijienbaa

/- region.Add, Cut. -/
namespace Go.Proofs.Ytglnnplijienbaa
open Go.ChangeShapes Go.WideShapes Go.ChangeAt Go.RowKit Go.Joins
set_option linter.unusedVariables false
theorem span_any (a b : Int) (w : World) : Calls Try.prog 58 #[.int .i64 a, .int .i64 b] w fun e w' => e = .returned (.bool (spanB a b)) ∧ w' = w := by
  by_cases h1 : 0 ≤ a
  · by_cases h2 : a < b
    · by_cases h3 : b ≤ 64
      · have HS : Hid (spanB a b = true) := Lib.hid (span_iff.2 ⟨h1, h2, h3⟩)
        go_enter Try.func58, Try.ntmps58
        go_wp2
        go_ret
        exact ⟨ret_b (by rw [HS.out]), rfl⟩
      · have HS : Hid (spanB a b = false) := Lib.hid (by unfold spanB; simp; omega)
        have h3' : 64 < b := by omega
        go_enter Try.func58, Try.ntmps58
        go_wp2
        go_ret
        exact ⟨ret_b (by rw [HS.out]), rfl⟩
    · have HS : Hid (spanB a b = false) := Lib.hid (by unfold spanB; simp; omega)
      have h2' : b ≤ a := by omega
      go_enter Try.func58, Try.ntmps58
      go_wp2
      go_ret
      exact ⟨ret_b (by rw [HS.out]), rfl⟩
  · have HS : Hid (spanB a b = false) := Lib.hid (by unfold spanB; simp; omega)
    have h1' : a < 0 := by omega
    go_enter Try.func58, Try.ntmps58
    go_wp2
    go_ret
    exact ⟨ret_b (by rw [HS.out]), rfl⟩
theorem joined_norm (v : Value) (xs : List Rgn) (w : World) (base : Nat) (h : Os fR 6 40 w base v xs) (hg : Good xs) (hn : xs.length ≤ 1000) (hb : base ≤ w.heap.size) :
    Calls Try.prog 60 #[v] w fun e w' => ∃ v', e = .returned v' ∧ Os fR 6 40 w' w.heap.size v' (norm xs) ∧ Below base w w' :=
  (joined_any v xs w base h (fun x hx => by have := hg.ok x hx; omega) hn hb).mono fun e w' ⟨ys, v', he, hp, hs, ho, hb'⟩ => ⟨v', he, by rw [← norm_of hg hp hs]; exact ho, hb'⟩
def TR (l : List Rgn) (E : Int) (w : World) (e : Ending) (w' : World) : Prop := ∃ v, e = .returned (.tuple #[v, .int .i64 E]) ∧ Os fR 6 40 w' w.heap.size v l ∧ Below w.heap.size w w'
theorem TR.nil {E : Int} {w w' : World} (h : Below w.heap.size w w') : TR [] E w (.returned (.tuple #[.slice none 0 0, .int .i64 E])) w' := ⟨_, rfl, Os.nil, h⟩

set_option maxHeartbeats 2000000 in
theorem rcut_any (A : Option Addr) (n c : Nat) (xs : List Rgn) (a b : Int) (w : World) (B : Nat) (hz : Rw fR 6 w B A n xs) (hB : B ≤ w.heap.size) (hbig : n ≤ 140737488355328) :
    Calls Try.prog 46 #[.slice A n c, .int .i64 a, .int .i64 b] w (TR (cutL xs a b) (cutE xs a b) w) := by
  have hright := right_any A n c xs w B hz hB hbig
  have NO : Hid (∀ E : Int, cutE xs a b = E → E ≠ 0 → ∀ w', Below w.heap.size w w' → TR (cutL xs a b) (cutE xs a b) w (.returned (.tuple #[.slice none 0 0, .int .i64 E])) w') := Lib.hid (fun E h h0 w' hb => by
    unfold cutL; rw [h, if_neg h0]; exact TR.nil hb)
  cases hr : rightL xs with
  | false =>
    rw [hr] at hright
    have NO2 := Lib.hid (NO.out 1 (by unfold cutE; rw [if_pos hr]) (by decide))
    clear hz NO hr
    go_enter Try.func46, Try.ntmps46
    go_wp2_with (go_at_call 10; refine hright.mono ?_; rintro e w1 ⟨rfl, hb1⟩)
    go_ret2
    exact NO2.out _ hb1
  | true =>
    rw [hr] at hright
    have hspan := span_any a b
    cases hs : spanB a b with
    | false =>
      rw [hs] at hspan
      have NO2 := Lib.hid (NO.out 2 (by unfold cutE; rw [if_neg (by rw [hr]; simp), if_pos hs]) (by decide))
      clear hz NO hr hs
      go_enter Try.func46, Try.ntmps46
      go_wp2_with (first
        | (go_at_call 10; refine hright.mono ?_; rintro e w1 ⟨rfl, hb1⟩)
        | (go_at_call 58; refine (hspan w1).mono ?_; rintro e w2 ⟨rfl, hw2⟩; rw [hw2]; clear hw2))
      go_ret2
      exact NO2.out _ hb1
    | true =>
      rw [hs] at hspan
      have hE : cutE xs a b = 0 := by unfold cutE; rw [if_neg (by rw [hr]; simp), if_neg (by rw [hs]; simp)]
      have hL : cutL xs a b = norm (outL a b xs) := by unfold cutL; rw [if_pos hE]
      rw [hE, hL]
      obtain ⟨s1, s2, s3⟩ := span_iff.1 hs
      have hg := good_out (right_good hr) (a := a) (b := b) (by omega)
      have hol := outL_len a b xs
      have hxl := rightL_len hr
      have hn64 : n ≤ 64 := by rw [← hz.1]; exact hxl
      have HC := Lib.hid (fun w1 (h1 : Below w.heap.size w w1) => cut_any A n c xs a b w1 B (hz.below (h1.mono hB)) (Nat.le_trans hB h1.size) (by omega))
      have HJ := Lib.hid (fun v w2 base (h : Os fR 6 40 w2 base v (outL a b xs)) (hb : base ≤ w2.heap.size) => joined_norm v (outL a b xs) w2 base h hg (by omega) hb)
      clear hz NO hE hL hr hg hs hol hxl s1 s2 s3
      generalize norm (outL a b xs) = nl at *
      generalize outL a b xs = ol at *
      generalize inL a b xs = il at *
      go_enter Try.func46, Try.ntmps46
      go_wp2_with (first
        | (go_at_call 10; refine hright.mono ?_; rintro e w1 ⟨rfl, hb1⟩)
        | (go_at_call 58; refine (hspan w1).mono ?_; rintro e w2 ⟨rfl, hw2⟩; rw [hw2]; clear hw2)
        | (go_at_call 59; refine (HC.out w1 hb1).mono ?_; rintro e w2 ⟨vo, vi, rfl, ho, hi, hap, hb2⟩)
        | (go_at_call 60; refine (HJ.out vo w2 _ ho hb2.size).mono ?_; rintro e w3 ⟨v3, rfl, ho3, hb3⟩))
      go_ret2
      exact ⟨_, rfl, ho3.rebase (Nat.le_trans hb1.size hb2.size), (hb1.trans (hb2.mono hb1.size)).trans (hb3.mono hb1.size)⟩

set_option maxHeartbeats 4000000 in
set_option maxRecDepth 100000 in
theorem add_any (A : Option Addr) (n c : Nat) (xs : List Rgn) (x : Rgn) (w : World) (B : Nat) (hz : Rw fR 6 w B A n xs) (hB : B ≤ w.heap.size) (hbig : n ≤ 140737488355328) :
    Calls Try.prog 41 #[.slice A n c, .agg #[.int .i64 x.f, .int .i64 x.t, .int .i64 x.a.r, .int .i64 x.a.k, .bool x.a.g, .bool x.a.s]] w (TR (addL xs x) (addE xs x) w) := by
  have HW0 := Lib.hid ((Below.refl w.heap.size w).alloc (Nat.le_refl _) (.cells #[.int .i64 x.f, .int .i64 x.t, .int .i64 x.a.r, .int .i64 x.a.k, .bool x.a.g, .bool x.a.s] 40))
  have hright := right_any A n c xs (w.alloc (.cells #[.int .i64 x.f, .int .i64 x.t, .int .i64 x.a.r, .int .i64 x.a.k, .bool x.a.g, .bool x.a.s] 40)) B (hz.below (HW0.out.mono hB)) (by simp; omega) hbig
  have NO : Hid (∀ E : Int, addE xs x = E → E ≠ 0 → ∀ w', Below w.heap.size w w' → TR (addL xs x) (addE xs x) w (.returned (.tuple #[.slice none 0 0, .int .i64 E])) w') := Lib.hid (fun E h h0 w' hb => by
    unfold addL; rw [h, if_neg h0]; exact TR.nil hb)
  cases hr : rightL xs with
  | false =>
    rw [hr] at hright
    have NO2 := Lib.hid (NO.out 1 (by unfold addE; rw [if_pos hr]) (by decide))
    clear hz NO hr
    go_enter Try.func41, Try.ntmps41
    go_wp2_with (go_at_call 10; refine hright.mono ?_; rintro e w1 ⟨rfl, hb1⟩)
    go_ret2
    exact NO2.out _ (HW0.out.trans (hb1.mono (by simp)))
  | true =>
    rw [hr] at hright
    have hspan := span_any x.f x.t
    have hbox : ∀ w1, Below (w.alloc (.cells #[.int .i64 x.f, .int .i64 x.t, .int .i64 x.a.r, .int .i64 x.a.k, .bool x.a.g, .bool x.a.s] 40)).heap.size (w.alloc (.cells #[.int .i64 x.f, .int .i64 x.t, .int .i64 x.a.r, .int .i64 x.a.k, .bool x.a.g, .bool x.a.s] 40)) w1 → ∀ j u, (fR x)[j]? = some u → w1.cell? ⟨w.heap.size, j, none⟩ = some u := fun w1 hb1 j u hj => by
      have := alloc_cells (W := w) (T := 40) j u hj
      rw [addr_add, Nat.zero_add] at this
      exact (hb1.cell (p := ⟨w.heap.size, j, none⟩) (by simp)).trans this
    have HBOX := Lib.hid hbox
    have hw1s : ∀ w1, Below (w.alloc (.cells #[.int .i64 x.f, .int .i64 x.t, .int .i64 x.a.r, .int .i64 x.a.k, .bool x.a.g, .bool x.a.s] 40)).heap.size (w.alloc (.cells #[.int .i64 x.f, .int .i64 x.t, .int .i64 x.a.r, .int .i64 x.a.k, .bool x.a.g, .bool x.a.s] 40)) w1 → w.heap.size < w1.heap.size := fun w1 hb1 => by have := hb1.size; simp at this; omega
    have HSZ := Lib.hid hw1s
    have HBW := Lib.hid (fun w1 (hb1 : Below (w.alloc (.cells #[.int .i64 x.f, .int .i64 x.t, .int .i64 x.a.r, .int .i64 x.a.k, .bool x.a.g, .bool x.a.s] 40)).heap.size (w.alloc (.cells #[.int .i64 x.f, .int .i64 x.t, .int .i64 x.a.r, .int .i64 x.a.k, .bool x.a.g, .bool x.a.s] 40)) w1) => HW0.out.trans (hb1.mono (by simp)))
    clear hbox hw1s
    cases hs : spanB x.f x.t with
    | false =>
      rw [hs] at hspan
      have NO2 := Lib.hid (NO.out 2 (by unfold addE; rw [if_neg (by rw [hr]; simp), if_pos hs]) (by decide))
      clear hz NO hr hs
      go_enter Try.func41, Try.ntmps41
      go_wp2_with (first
        | (go_at_call 10; refine hright.mono ?_; rintro e w1 ⟨rfl, hb1⟩; have bc0 := HBOX.out w1 hb1 0 _ rfl; have bc1 := HBOX.out w1 hb1 1 _ rfl; have hsz := HSZ.out w1 hb1; have HB := Lib.hid (HBW.out w1 hb1); have HB1 := Lib.hid hb1; clear hb1)
        | (go_at_call 58; refine (hspan w1).mono ?_; rintro e w2 ⟨rfl, hw2⟩; rw [hw2]; clear hw2))
      go_ret2
      exact NO2.out _ HB.out
    | true =>
      rw [hs] at hspan
      obtain ⟨s1, s2, s3⟩ := span_iff.1 hs
      have hol := outL_len x.f x.t xs
      have hxl := rightL_len hr
      have hn64 : n ≤ 64 := by rw [← hz.1]; exact hxl
      have HC := Lib.hid (fun w1 (h1 : Below w.heap.size w w1) => cut_any A n c xs x.f x.t w1 B (hz.below (h1.mono hB)) (Nat.le_trans hB h1.size) (by omega))
      by_cases hi0 : inL x.f x.t xs = []
      · have hE : addE xs x = 0 := by unfold addE; rw [if_neg (by rw [hr]; simp), if_neg (by rw [hs]; simp), if_pos hi0]
        have hL : addL xs x = norm (outL x.f x.t xs ++ [x]) := by unfold addL; rw [if_pos hE]
        rw [hE, hL]
        have hg := good_add (right_good hr) s1 s2 s3
        have HJ := Lib.hid (fun v w2 base (h : Os fR 6 40 w2 base v (outL x.f x.t xs ++ [x])) (hb : base ≤ w2.heap.size) => joined_norm v (outL x.f x.t xs ++ [x]) w2 base h hg (by simp; omega) hb)
        rw [hi0] at HC
        have hol2 : (outL x.f x.t xs).length ≤ 128 := by omega
        clear hz NO hE hL hr hg hs hxl hi0 s1 s2 s3 hol
        generalize norm (outL x.f x.t xs ++ [x]) = nl at *
        generalize outL x.f x.t xs = ol at *
        go_enter Try.func41, Try.ntmps41
        go_wp2_with (first
          | (go_at_call 10; refine hright.mono ?_; rintro e w1 ⟨rfl, hb1⟩; have bc0 := HBOX.out w1 hb1 0 _ rfl; have bc1 := HBOX.out w1 hb1 1 _ rfl; have hsz := HSZ.out w1 hb1; have HB := Lib.hid (HBW.out w1 hb1); have HB1 := Lib.hid hb1; clear hb1)
          | (go_at_call 58; refine (hspan w1).mono ?_; rintro e w2 ⟨rfl, hw2⟩; rw [hw2]; clear hw2)
          | (go_at_call 59; refine (HC.out w1 HB.out).mono ?_; rintro e w2 ⟨vo, vi, rfl, ho, hi, hap, hb2⟩; obtain ⟨A2, c2, rfl, hz1, hz2⟩ := hi.form; clear hz1 hz2; obtain ⟨A3, c3, rfl, hz1, hz2⟩ := ho.form; clear hz1 hz2; have HW2 := Lib.hid (HB1.out.trans (hb2.mono HB1.out.size)); have dc0 := HBOX.out w2 HW2.out 0 _ rfl; have dc1 := HBOX.out w2 HW2.out 1 _ rfl; have dc2 := HBOX.out w2 HW2.out 2 _ rfl; have dc3 := HBOX.out w2 HW2.out 3 _ rfl; have dc4 := HBOX.out w2 HW2.out 4 _ rfl; have dc5 := HBOX.out w2 HW2.out 5 _ rfl; have hsz2 := HSZ.out w2 HW2.out; have hs12 := hb2.size; have HO := Lib.hid ho; have HB2 := Lib.hid hb2; clear ho hi hap hb2 bc0 bc1)
          | (at_builtin; refine append_B rfl _ _ rfl w1.heap.size (.slice A3 ol.length c3) ol w2 x w2.heap.size rfl rfl rfl HO.out hs12 (by omega) ?_; intro g' c' w3 ho3 hb3 hbg hcc hmx))
        have hj := HJ.out _ w3 w1.heap.size ho3 (Nat.le_trans hs12 hb3.size)
        have HB3 := Lib.hid hb3
        have hs13 := hb3.size
        clear ho3 hb3 hmx hcc
        go_wp2_with (go_at_call 60; refine hj.mono ?_; rintro e w4 ⟨v4, rfl, ho4, hb4⟩)
        go_ret2
        exact ⟨_, rfl, ho4.rebase (by omega), ((HB.out.trans (HB2.out.mono (by omega))).trans (HB3.out.mono (by omega))).trans (hb4.mono (by omega))⟩
      · have NO2 := Lib.hid (NO.out 7 (by unfold addE; rw [if_neg (by rw [hr]; simp), if_neg (by rw [hs]; simp), if_neg hi0]) (by decide))
        have hil : 0 < (inL x.f x.t xs).length := List.length_pos_iff.2 hi0
        clear hz NO hr hs hxl hi0 s1 s2 s3 hol
        generalize inL x.f x.t xs = il at *
        go_enter Try.func41, Try.ntmps41
        go_wp2_with (first
          | (go_at_call 10; refine hright.mono ?_; rintro e w1 ⟨rfl, hb1⟩; have bc0 := HBOX.out w1 hb1 0 _ rfl; have bc1 := HBOX.out w1 hb1 1 _ rfl; have hsz := HSZ.out w1 hb1; have HB := Lib.hid (HBW.out w1 hb1); have HB1 := Lib.hid hb1; clear hb1)
          | (go_at_call 58; refine (hspan w1).mono ?_; rintro e w2 ⟨rfl, hw2⟩; rw [hw2]; clear hw2)
          | (go_at_call 59; refine (HC.out w1 HB.out).mono ?_; rintro e w2 ⟨vo, vi, rfl, ho, hi, hap, hb2⟩; obtain ⟨A2, c2, rfl, hz1, hz2⟩ := hi.form; clear hz1 hz2))
        go_ret2
        exact NO2.out _ (HB.out.trans (hb2.mono (by omega)))
end Go.Proofs.Ytglnnplijienbaa
