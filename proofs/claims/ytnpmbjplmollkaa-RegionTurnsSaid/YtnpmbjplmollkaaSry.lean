/- region.joined. -/
import Derived.Test.YtnpmbjplmollkaaSrx
import Derived.Test.YtnpmbjplmollkaaJnl
import Derived.Test.YtnpmbjplmollkaaSwn
namespace Go.Proofs.Ytnpmbjplmollkaa
open Go.ChangeShapes Go.WideShapes Go.ChangeAt Go.RowKit Go.Joins
set_option linter.unusedVariables false
theorem append_B {ops : Array Oper} {rest : List Oper} {o : Oper} {a : Act} {Q : Exit → Act → World → Prop} (hgd : o.guard = none) (s x : Operand) (ho : o.op = .call { callee := .builtin .append, args := #[s, x], argTypes := #[22, 22] })
    (base : Nat) (v : Value) (t : List Rgn) (W : World) (c : Rgn) (gx : Nat) (hs : a.eval s = v) (hx : a.eval x = .slice (some ⟨gx, 0, none⟩) 1 1) (hgx : gx = W.heap.size) (hos : Os fR 6 26 W base v t) (hb : base ≤ W.heap.size) (hlen : t.length + 1 ≤ 1000000)
    (hK : ∀ g' c' w', Os fR 6 26 w' base (.slice (some ⟨g', 0, none⟩) (t.length + 1) c') (t ++ [c]) → Below base W w' → base ≤ g' → t.length + 1 ≤ c' → c' ≤ maxLen → wpList Try.prog ops Q rest (a.put o.dst (.slice (some ⟨g', 0, none⟩) (t.length + 1) c')) w') :
    wpList Try.prog ops Q (o :: rest) a (W.alloc (.cells #[.int .i64 c.f, .int .i64 c.t, .int .i64 c.a.r, .int .i64 c.a.k, .bool c.a.g, .bool c.a.s] 26)) :=
  append_one Try.underlying22 info_R rfl (by decide) fR_len fR_one1 hgd s x ho base v t W c gx hs hx hgx hos hb (by unfold maxLen; omega) (by omega) hK
theorem os_ne {α : Type} {f : α → List Value} {sz : Nat} {T : TypeId} {w : World} {base n c : Nat} {A : Option Addr} {xs : List α} (h : Os f sz T w base (.slice A n c) xs) (hn : 0 < xs.length) : ∃ g, A = some ⟨g, 0, none⟩ := by
  obtain ⟨_, ⟨e, h0⟩ | ⟨g, cap, cur, e, _⟩⟩ := h
  · omega
  · injection e with e _ _; exact ⟨g, e⟩

theorem wrap_n {m n : Nat} (h : m + 1 ≤ n) (hn : n ≤ 1000) : wrap64 (m : Int) = (m : Int) ∧ IntKind.i64.wrap (m : Int) = (m : Int) := ⟨by unfold wrap64; omega, by rw [IntKind.wrap_i64]; omega⟩
theorem last_split {jk : List Rgn} (h : jk ≠ []) : ∃ m p, jk.length = m + 1 ∧ jk[m]? = some p ∧ (∀ x : Rgn, (p.t == x.f && eqA p.a x.a) = false → stepJ jk x = jk ++ [x]) ∧ (∀ x : Rgn, (p.t == x.f && eqA p.a x.a) = true → stepJ jk x = jk.set m ⟨p.f, x.t, p.a⟩) := by
  rcases List.eq_nil_or_concat jk with rfl | ⟨q, p, rfl⟩
  · exact absurd rfl h
  · rw [List.concat_eq_append]
    exact ⟨q.length, p, by simp, by simp, fun x hx => stepJ_no hx, fun x hx => by rw [stepJ_yes hx]; simp⟩

set_option maxHeartbeats 4000000 in
set_option maxRecDepth 100000 in
theorem joined_any (v : Value) (xs : List Rgn) (w : World) (base : Nat) (h : Os fR 6 26 w base v xs) (hx : ∀ x ∈ xs, 0 ≤ x.f ∧ x.f ≤ 64) (hn : xs.length ≤ 1000) (hb : base ≤ w.heap.size) :
    Calls Try.prog 38 #[v] w fun e w' => ∃ ys v', e = .returned v' ∧ ys.Perm xs ∧ SortedR ys ∧ Os fR 6 26 w' w.heap.size v' (joinL ys) ∧ Below base w w' := by
  have hsort := sort_R v xs w base h hx (by omega) hb
  obtain ⟨A, c, rfl, hc1, hc2⟩ := h.form
  clear h hx hc1 hc2
  go_enter Try.func38, Try.ntmps38
  go_wp2_with (go_at_call 48; refine hsort.mono ?_; rintro e w1 ⟨rfl, ys, hp, hsr, ho, hb1⟩)
  have hys : ys.length = xs.length := hp.length_eq
  have hw1 : w.heap.size ≤ w1.heap.size := hb1.size
  have FIN := Lib.hid (fun (v' : Value) (w' : World) (h1 : Os fR 6 26 w' w1.heap.size v' (joinL ys)) (h2 : Below w1.heap.size w1 w') => (⟨ys, v', rfl, hp, hsr, h1.rebase hw1, hb1.trans (h2.mono (Nat.le_trans hb hw1))⟩ : ∃ ys v'', Ending.returned v' = .returned v'' ∧ ys.Perm xs ∧ SortedR ys ∧ Os fR 6 26 w' w.heap.size v'' (joinL ys) ∧ Below base w w'))
  obtain ⟨A1, c1, e1, hz1, hz2, hrw⟩ := ho.row fR_len
  clear hz1 hz2
  injection e1 with e1 e2 e3
  subst e1 e3
  clear e2
  rw [hys] at hrw
  have HX := Lib.hid (fun (i : Nat) (hi : i < xs.length) => (⟨ys[i]'(by omega), List.getElem?_eq_getElem _⟩ : ∃ x, ys[i]? = some x))
  have HZ := Lib.hid hrw
  have HJS := Lib.hid (fun (k : Nat) (x : Rgn) (h : ys[k]? = some x) => (congrArg joinL (take_snocR h)).trans (joinL_snoc (ys.take k) x))
  have HJL := Lib.hid (fun (k : Nat) (hk : k ≤ xs.length) => (show (joinL (ys.take k)).length ≤ xs.length from Nat.le_trans (joinL_len _) (by rw [List.length_take]; omega)))
  have HJN : Hid (joinL (ys.take xs.length) = joinL ys) := Lib.hid (by rw [List.take_of_length_le (by omega)])
  have HJ0 : Hid (joinL (ys.take 0) = []) := Lib.hid rfl
  have HA : Hid (0 < xs.length → ∃ b off, A = some ⟨b, off, none⟩ ∧ b < w1.heap.size) := Lib.hid (fun h => HZ.out.open h)
  obtain ⟨fj, hfj⟩ : ∃ f : Nat → List Rgn, f = fun k => joinL (ys.take k) := ⟨_, rfl⟩
  have FJS : Hid (∀ k x, ys[k]? = some x → fj (k + 1) = stepJ (fj k) x) := Lib.hid (by rw [hfj]; exact HJS.out)
  have FJL : Hid (∀ k, k ≤ xs.length → (fj k).length ≤ xs.length) := Lib.hid (by rw [hfj]; exact HJL.out)
  have FJN : Hid (fj xs.length = joinL ys) := Lib.hid (by rw [hfj]; exact HJN.out)
  have FJ0 : Hid (fj 0 = []) := Lib.hid (by rw [hfj]; exact HJ0.out)
  generalize joinL ys = jl at *
  generalize xs.length = n at *
  clear hfj HJS HJL HJN HJ0 ho hrw hp hsr hb1 hsort hys
  go_loopw [3, 6, 11] (fun v3 v6 i wr => ∃ k : Nat, k ≤ n ∧ i = .int .i64 k ∧ Hid (Os fR 6 26 wr w1.heap.size v3 (fj k)) ∧ Hid (Below w1.heap.size w1 wr)) (fun _ _ i _ => n - (intOf i).toNat)
  case atStart => exact ⟨0, by omega, rfl, Lib.hid (by rw [FJ0.out]; exact Os.nil), Lib.hid (Below.refl _ _)⟩
  case round =>
    obtain ⟨k, hk, rfl, HO, HB⟩ := hrel
    have hsz := HB.out.size
    by_cases hlt : k < n
    · obtain ⟨x, hx⟩ := HX.out k hlt
      obtain ⟨b, off, hAe, hbb⟩ := HA.out (by omega)
      subst hAe
      have hcs := (HZ.out.below HB.out).at_ fR_len hx
      have xc0 : wr.cell? ⟨b, off + k * 6, none⟩ = some (.int .i64 x.f) := hcs 0 _ rfl
      have xc1 : wr.cell? ⟨b, off + k * 6 + 1, none⟩ = some (.int .i64 x.t) := hcs 1 _ rfl
      have xc2 : wr.cell? ⟨b, off + k * 6 + 2, none⟩ = some (.int .i64 x.a.r) := hcs 2 _ rfl
      have xc3 : wr.cell? ⟨b, off + k * 6 + 3, none⟩ = some (.int .i64 x.a.k) := hcs 3 _ rfl
      have xc4 : wr.cell? ⟨b, off + k * 6 + 4, none⟩ = some (.bool x.a.g) := hcs 4 _ rfl
      have xc5 : wr.cell? ⟨b, off + k * 6 + 5, none⟩ = some (.bool x.a.s) := hcs 5 _ rfl
      have HJK := Lib.hid (FJS.out k x hx)
      have hjl := FJL.out k hk
      clear hcs hx
      have HO1 : Hid (Os fR 6 26 (wr.alloc (.cells #[.int .i64 x.f, .int .i64 x.t, .int .i64 x.a.r, .int .i64 x.a.k, .bool x.a.g, .bool x.a.s] 26)) w1.heap.size u3 (fj k)) := Lib.hid (HO.out.below ((Below.refl wr.heap.size wr).alloc (Nat.le_refl _) _) (Nat.le_refl _))
      generalize fj k = jk at *
      rcases Nat.eq_zero_or_pos jk.length with he | he
      · obtain rfl := List.eq_nil_of_length_eq_zero he
        obtain ⟨A3, c3, hu3, hz1, hz2⟩ := HO1.out.form
        clear hz1 hz2
        rw [List.length_nil] at hu3
        subst hu3
        clear he
        have HJ : Hid (fj (k + 1) = [x]) := HJK
        --[A
        go_wp2
        go_quiet (fail)
        go_wp2_with (at_builtin; refine append_B rfl _ _ rfl w1.heap.size (.slice A3 0 c3) [] ((wr.alloc (.cells #[.int .i64 x.f, .int .i64 x.t, .int .i64 x.a.r, .int .i64 x.a.k, .bool x.a.g, .bool x.a.s] 26)).drewN _) x (wr.heap.size + 1) rfl rfl (by simp) (HO1.out.below (below_drewN _ _ _) (Nat.le_refl _)) (by simp; omega) (by have := List.length_nil (α := Rgn); omega) ?_; intro g' c' w' ho2 hb2 hbg hcc hmx)
        have HO2 := Lib.hid ho2
        have HB3 := Lib.hid (((HB.out.alloc hsz (.cells #[.int .i64 x.f, .int .i64 x.t, .int .i64 x.a.r, .int .i64 x.a.k, .bool x.a.g, .bool x.a.s] 26)).trans (below_drewN _ _ _)).trans hb2)
        clear ho2 hb2
        go_wp2
        go_roundw
        case rel => exact ⟨k + 1, by omega, by go_num, Lib.hid (by rw [HJ.out]; exact HO2.out), Lib.hid (by exact HB3.out)⟩
        case measure => simp [intOf]; omega
        --]A
      · obtain ⟨m, p, hml, hp0, hno, hyes⟩ := last_split (jk := jk) (fun e => by rw [e] at he; simp at he)
        obtain ⟨A3, c3, hu3, hz1, hz2⟩ := HO1.out.form
        clear hz1 hz2
        rw [hml] at hu3
        subst hu3
        obtain ⟨g, rfl⟩ := os_ne HO1.out he
        rw [hml] at hjl
        have HML := Lib.hid hml
        have HNO := Lib.hid hno
        have HYES := Lib.hid hyes
        have hps := HO.out.cells fR_len hp0
        obtain ⟨hgl, hgb, hz1, hz2, hz3⟩ := HO.out.blk_lt_
        clear hz1 hz2 hz3
        have HSET := Lib.hid (fun (W' : World) (hb : Below wr.heap.size wr W') => (HO.out.below hb (Nat.le_refl _)).set_cell (y := ⟨p.f, x.t, p.a⟩) (u := .int .i64 x.t) fR_len (by decide) 1 hp0 rfl (fun mm vv hm hv => by
          match mm, hm, hv with
          | 0, _, hv => exact hv
          | 2, _, hv => exact hv
          | 3, _, hv => exact hv
          | 4, _, hv => exact hv
          | 5, _, hv => exact hv
          | (mm + 6), _, hv => simp [fR] at hv))
        have hfz : wr.frozen? ⟨g, m * 6 + 1, none⟩ = false := (hps 1 _ rfl).2
        have pc0 : wr.cell? ⟨g, m * 6, none⟩ = some (.int .i64 p.f) := (hps 0 _ rfl).1
        have pc1 : wr.cell? ⟨g, m * 6 + 1, none⟩ = some (.int .i64 p.t) := (hps 1 _ rfl).1
        have pc2 : wr.cell? ⟨g, m * 6 + 2, none⟩ = some (.int .i64 p.a.r) := (hps 2 _ rfl).1
        have pc3 : wr.cell? ⟨g, m * 6 + 3, none⟩ = some (.int .i64 p.a.k) := (hps 3 _ rfl).1
        have pc4 : wr.cell? ⟨g, m * 6 + 4, none⟩ = some (.bool p.a.g) := (hps 4 _ rfl).1
        have pc5 : wr.cell? ⟨g, m * 6 + 5, none⟩ = some (.bool p.a.s) := (hps 5 _ rfl).1
        have hm0 : (0 : Int) ≤ (m : Int) := by omega
        have hm1 : (m : Int) < (m : Int) + 1 := by omega
        have hm2 : m < m + 1 := by omega
        have hmw : wrap64 (m : Int) = (m : Int) := (wrap_n hjl hn).1
        have hmv : IntKind.i64.wrap (m : Int) = (m : Int) := (wrap_n hjl hn).2
        clear hps hp0 hml hno hyes he
        cases h5 : (p.t == x.f) with
        | false =>
          have HJ : Hid (fj (k + 1) = jk ++ [x]) := Lib.hid (by rw [HJK.out, HNO.out x (by rw [h5]; rfl)])
          --[B
          go_wp2
          go_quiet (fail)
          go_wp2_with (at_builtin; refine append_B rfl _ _ rfl w1.heap.size (.slice (some ⟨g, 0, none⟩) (m + 1) c3) jk ((wr.alloc (.cells #[.int .i64 x.f, .int .i64 x.t, .int .i64 x.a.r, .int .i64 x.a.k, .bool x.a.g, .bool x.a.s] 26)).drewN _) x (wr.heap.size + 1) rfl rfl (by simp) (HO1.out.below (below_drewN _ _ _) (Nat.le_refl _)) (by simp; omega) (by have := HML.out; omega) ?_; intro g' c' w' ho2 hb2 hbg hcc hmx)
          have HO2 := Lib.hid ho2
          have HB3 := Lib.hid (((HB.out.alloc hsz (.cells #[.int .i64 x.f, .int .i64 x.t, .int .i64 x.a.r, .int .i64 x.a.k, .bool x.a.g, .bool x.a.s] 26)).trans (below_drewN _ _ _)).trans hb2)
          clear ho2 hb2
          go_wp2
          go_roundw
          case rel => exact ⟨k + 1, by omega, by go_num, Lib.hid (by rw [HJ.out]; exact HO2.out), Lib.hid (by exact HB3.out)⟩
          case measure => simp [intOf]; omega
          --]B
        | true =>
          have hqA : ∀ w, (Op.equalIn 10000 24 (.agg #[.int .i64 p.a.r, .int .i64 p.a.k, .bool p.a.g, .bool p.a.s]) (.agg #[.int .i64 x.a.r, .int .i64 x.a.k, .bool x.a.g, .bool x.a.s])).run Try.prog w = .ok (eqA p.a x.a) w := run_eqA p.a x.a
          cases h6 : eqA p.a x.a with
          | false =>
            rw [h6] at hqA
            have HJ : Hid (fj (k + 1) = jk ++ [x]) := Lib.hid (by rw [HJK.out, HNO.out x (by rw [h5, h6]; rfl)])
            --[C
            go_wp2
            go_quiet (fail)
            go_wp2_with (at_builtin; refine append_B rfl _ _ rfl w1.heap.size (.slice (some ⟨g, 0, none⟩) (m + 1) c3) jk ((wr.alloc (.cells #[.int .i64 x.f, .int .i64 x.t, .int .i64 x.a.r, .int .i64 x.a.k, .bool x.a.g, .bool x.a.s] 26)).drewN _) x (wr.heap.size + 1) rfl rfl (by simp) (HO1.out.below (below_drewN _ _ _) (Nat.le_refl _)) (by simp; omega) (by have := HML.out; omega) ?_; intro g' c' w' ho2 hb2 hbg hcc hmx)
            have HO2 := Lib.hid ho2
            have HB3 := Lib.hid (((HB.out.alloc hsz (.cells #[.int .i64 x.f, .int .i64 x.t, .int .i64 x.a.r, .int .i64 x.a.k, .bool x.a.g, .bool x.a.s] 26)).trans (below_drewN _ _ _)).trans hb2)
            clear ho2 hb2
            go_wp2
            go_roundw
            case rel => exact ⟨k + 1, by omega, by go_num, Lib.hid (by rw [HJ.out]; exact HO2.out), Lib.hid (by exact HB3.out)⟩
            case measure => simp [intOf]; omega
            --]C
          | true =>
            rw [h6] at hqA
            have HJ : Hid (fj (k + 1) = jk.set m ⟨p.f, x.t, p.a⟩) := Lib.hid (by rw [HJK.out, HYES.out x (by rw [h5, h6]; rfl)])
            --[D
            go_wp2
            go_quiet (fail)
            go_wp2
            go_roundw
            case rel => exact ⟨k + 1, by omega, by go_num, Lib.hid (by rw [HJ.out]; exact HSET.out _ (((Below.refl wr.heap.size wr).alloc (Nat.le_refl _) _).trans (below_drewN _ _ _))), Lib.hid (((HB.out.alloc hsz _).trans (below_drewN _ _ _)).setCell (p := ⟨g, m * 6 + 1, none⟩) hgb _)⟩
            case measure => simp [intOf]; omega
            --]D
    · have hkn : k = n := by omega
      subst hkn
      have HO2 := HO.out
      rw [FJN.out] at HO2
      go_wp2
      go_ret
      exact FIN.out _ _ HO2 HB.out
end Go.Proofs.Ytnpmbjplmollkaa
