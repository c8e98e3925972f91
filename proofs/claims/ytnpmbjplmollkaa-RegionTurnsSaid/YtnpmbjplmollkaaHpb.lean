/- Arrays of pages; HRegions. -/
import Derived.Test.YtnpmbjplmollkaaHpa
import Derived.Test.YtnpmbjplmollkaaPlc
import Derived.Deep.WholeRow
import Derived.Deep.MidRow
namespace Go.Proofs.Ytnpmbjplmollkaa
open Go.ChangeShapes Go.WideShapes Go.ChangeAt Go.RowKit Go.Joins
set_option linter.unusedVariables false
def fA (a : Att) : List Value := [.int .i64 a.r, .int .i64 a.k, .bool a.g, .bool a.s]
/-- A value that points at what is said, into a block of which P holds, or nowhere. -/
def PtA (w : World) (P : Nat → Prop) (v : Value) : Option Att → Prop
  | none => v = .pointer none
  | some a => ∃ b off, v = .pointer (some ⟨b, off, none⟩) ∧ b < w.heap.size ∧ P b ∧ ∀ (j : Nat) (u : Value), (fA a)[j]? = some u → w.cell? ⟨b, off + j, none⟩ = some u
theorem PtA.one {w : World} {P : Nat → Prop} {v : Value} : ∀ {o : Option Att}, PtA w P v o → v.oneCell' = true
  | none, h => by rw [h]; rfl
  | some a, ⟨b, off, h, _⟩ => by rw [h]; rfl
theorem PtA.frame {w w' : World} {P : Nat → Prop} {v : Value} (hs : w.heap.size ≤ w'.heap.size) (hb : ∀ k, k < w.heap.size → P k → w'.heap[k]? = w.heap[k]?) : ∀ {o : Option Att}, PtA w P v o → PtA w' P v o
  | none, h => h
  | some a, ⟨b, off, h, h1, h2, h3⟩ => ⟨b, off, h, Nat.lt_of_lt_of_le h1 hs, h2, fun j u hj => (World.cell?_of_block (w := w) (hb b h1 h2)).trans (h3 j u hj)⟩
theorem PtA.away {w : World} {P P' : Nat → Prop} {v : Value} (hP : ∀ b, b < w.heap.size → P b → P' b) : ∀ {o : Option Att}, PtA w P v o → PtA w P' v o
  | none, h => h
  | some a, ⟨b, off, h, h1, h2, h3⟩ => ⟨b, off, h, h1, hP b h1 h2, h3⟩
structure Pages (w : World) (P : Nat → Prop) (c : Array Value) (G : Nat → Option Att) : Prop where
  size : c.size = 64
  at_ : ∀ i, i < 64 → ∃ v, c[i]? = some v ∧ PtA w P v (G i)
theorem Pages.one {w : World} {P : Nat → Prop} {c : Array Value} {G : Nat → Option Att} (h : Pages w P c G) : c.all (·.oneCell') = true := by
  rw [Array.all_eq_true]
  intro i hi
  obtain ⟨v, hv, hp⟩ := h.at_ i (by rw [← h.size]; exact hi)
  rw [Array.getElem?_eq_getElem hi] at hv
  cases hv; exact hp.one
theorem Pages.frame {w w' : World} {P : Nat → Prop} {c : Array Value} {G : Nat → Option Att} (h : Pages w P c G) (hs : w.heap.size ≤ w'.heap.size) (hb : ∀ k, k < w.heap.size → P k → w'.heap[k]? = w.heap[k]?) : Pages w' P c G :=
  ⟨h.size, fun i hi => by obtain ⟨v, hv, hp⟩ := h.at_ i hi; exact ⟨v, hv, hp.frame hs hb⟩⟩
theorem Pages.on {w w' : World} {P : Nat → Prop} {c : Array Value} {G : Nat → Option Att} (h : Pages w P c G) (hb : Below w.heap.size w w') : Pages w' P c G := h.frame hb.size fun k hk _ => hb.block k hk
theorem Pages.away {w : World} {P P' : Nat → Prop} {c : Array Value} {G : Nat → Option Att} (h : Pages w P c G) (hP : ∀ b, b < w.heap.size → P b → P' b) : Pages w P' c G := ⟨h.size, fun i hi => by obtain ⟨v, hv, hp⟩ := h.at_ i hi; exact ⟨v, hv, hp.away hP⟩⟩
theorem Pages.any {w : World} {P : Nat → Prop} {c : Array Value} {G : Nat → Option Att} (h : Pages w P c G) : Pages w (fun _ => True) c G := h.away fun _ _ _ => trivial
theorem Pages.congr {w : World} {P : Nat → Prop} {c : Array Value} {G G' : Nat → Option Att} (h : Pages w P c G) (e : ∀ i, i < 64 → G i = G' i) : Pages w P c G' := ⟨h.size, fun i hi => by rw [← e i hi]; exact h.at_ i hi⟩
theorem Pages.put {w : World} {P : Nat → Prop} {c : Array Value} {G : Nat → Option Att} (h : Pages w P c G) {i : Nat} (hi : i < 64) {v : Value} {o : Option Att} (hv : PtA w P v o) : Pages w P (c.setIfInBounds i v) (fun j => if j = i then o else G j) :=
  ⟨by rw [Array.size_setIfInBounds]; exact h.size, fun j hj => by
    by_cases e : j = i
    · subst e
      exact ⟨v, by rw [Array.getElem?_setIfInBounds_self_of_lt (by rw [h.size]; exact hj)], by simpa using hv⟩
    · obtain ⟨u, hu, hp⟩ := h.at_ j hj
      exact ⟨u, by rw [Array.getElem?_setIfInBounds_ne (fun x => e x.symm)]; exact hu, by simpa [e] using hp⟩⟩
theorem info60 : (Try.prog.info? 60).map (·.size) = some 64 := by kernel_rfl
theorem ld60 {ops : Array Oper} {rest : List Oper} {dst : Option Tmp} {x : Operand} {type : TypeId} {pos : String} {after : Array Edge} {a : Act} {w : World} {Q : Exit → Act → World → Prop} (b : Nat) (cs : Array Value) (hx : a.eval x = .pointer (some ⟨b, 0, none⟩)) (hc : w.rangeAt b 0 cs.toList) (hn : cs.size = 64)
    (h : wpList Try.prog ops Q rest (a.put dst (.agg cs)) w) : wpList Try.prog ops Q (⟨dst, .load 60 x, type, pos, after, none⟩ :: rest) a w :=
  wpList_load_mid rfl 60 x rfl b 0 hx cs.toList _ hc Try.underlying60 rfl (by rw [info60, Array.length_toList, hn]) (by simpa using h)
theorem st60 {ops : Array Oper} {rest : List Oper} {dst : Option Tmp} {x y : Operand} {type : TypeId} {pos : String} {after : Array Edge} {a : Act} {W : World} {c : Array Value} {Q : Exit → Act → World → Prop} (cs : Array Value) (hx : a.eval x = .pointer (some ⟨W.heap.size, 0, none⟩)) (hy : a.eval y = .agg cs) (hc : c.size = 64) (hn : cs.size = 64) (h1 : cs.all (·.oneCell') = true)
    (h : wpList Try.prog ops Q rest (a.put dst undef) (W.alloc (.cells cs 60))) : wpList Try.prog ops Q (⟨dst, .store 60 x y, type, pos, after, none⟩ :: rest) a (W.alloc (.cells c 60)) := by
  refine wpList_plain rfl fun K hK => ?_
  unfold Oper.wp execOp
  simp only [hx, hy, run_storeAt_new W 60 c cs (by rw [info60, hn]) (by rw [hc, hn]) h1, Sem.run_bind, Sem.run_pure, Result.andThen_ok]
  exact hK _ _ h
theorem run_idx60 {arr : Array Value} {v : Value} {k : Nat} (hk : k < 64) (hv : arr[k]? = some v) (w : World) : (Instr.index 60 (.agg arr) (.int .i64 (k : Int))).run Try.prog w = .ok v w := by
  have ha := Try.isAgg31
  have hz := Try.sizeOf31
  unfold Instr.index
  simp [go_sem, ha, hz, part, hv]
  intro h; omega
theorem range_new {w : World} {cs : Array Value} {T : TypeId} : (w.alloc (.cells cs T)).rangeAt w.heap.size 0 cs.toList := fun j v hv => by
  simp only [World.cell?, World.alloc, Array.getElem?_push_size, Nat.zero_add]
  simpa using hv
theorem range_of {w : World} {g : Nat} {cs : Array Value} {T : TypeId} (h : w.heap[g]? = some (.cells cs T (0, 0))) : w.rangeAt g 0 cs.toList := fun j v hv => by
  simp only [World.cell?, h, Nat.zero_add]
  simpa using hv
set_option maxHeartbeats 8000000 in
set_option maxRecDepth 100000 in
theorem hregions_any (arr : Array Value) (G : Nat → Option Att) (w : World) (h : Pages w (fun _ => True) arr G) :
    Calls Try.prog 41 #[.agg arr] w (Gives fR 6 26 w.heap.size w (regs G 64)) := by
  have HP := Lib.hid (fun wr (hb : Below w.heap.size w wr) => (h.on hb).at_)
  have hsize := h.size
  obtain ⟨fj, hfj⟩ : ∃ f : Nat → List Rgn, f = fun k => regs G k := ⟨_, rfl⟩
  have FJS : Hid (∀ k a, G k = some a → fj (k + 1) = stepJ (fj k) ⟨k, k + 1, a⟩) := Lib.hid (by rw [hfj]; exact fun k a h => regs_some h)
  have FJO : Hid (∀ k, G k = none → fj (k + 1) = fj k) := Lib.hid (by rw [hfj]; exact fun k h => regs_none h)
  have FJL : Hid (∀ k, (fj k).length ≤ k) := Lib.hid (by rw [hfj]; exact fun k => regs_len G k)
  have FJN : Hid (fj 64 = regs G 64) := Lib.hid (by rw [hfj])
  have FJ0 : Hid (fj 0 = []) := Lib.hid (by rw [hfj]; rfl)
  generalize regs G 64 = jl at *
  clear hfj h
  go_enter Try.func41, Try.ntmps41
  go_wp2_with ((with_reducible (refine ld60 w.heap.size arr ?_ ?_ hsize ?_)); rfl; exact range_new)
  go_loopw [3, 4, 5, 6, 8] (fun v3 _ _ _ i wr => ∃ k : Nat, k ≤ 64 ∧ i = .int .i64 k ∧ Hid (Os fR 6 26 wr w.heap.size v3 (fj k)) ∧ Hid (Below w.heap.size w wr)) (fun _ _ _ _ i _ => 64 - (intOf i).toNat)
  case atStart => exact ⟨0, by omega, rfl, Lib.hid (by rw [FJ0.out]; exact Os.nil), Lib.hid ((Below.refl _ _).alloc (Nat.le_refl _) _)⟩
  case round =>
    obtain ⟨k, hk, rfl, HO, HB⟩ := hrel
    have hsz := HB.out.size
    by_cases hlt : k < 64
    · obtain ⟨v, hv, hp⟩ := HP.out wr HB.out k hlt
      have hjl := FJL.out k
      have hidx := run_idx60 hlt hv
      clear hv
      have hk0 : (0 : Int) ≤ (k : Int) := by omega
      have hk64 : (k : Int) < 64 := by omega
      have hkw : wrap64 ((k : Int) + 1) = (k : Int) + 1 := (wrap_small _ (by omega) (by omega)).1
      have hkv : IntKind.i64.wrap ((k : Int) + 1) = (k : Int) + 1 := (wrap_small _ (by omega) (by omega)).2
      cases hg : G k with
      | none =>
        rw [hg] at hp
        have hp2 : v = .pointer none := hp
        subst hp2
        have HJ := Lib.hid (FJO.out k hg)
        clear hp hg
        go_wp2
        go_roundw
        case rel => exact ⟨k + 1, by omega, by go_num, Lib.hid (by rw [HJ.out]; exact HO.out), HB⟩
        case measure => simp [intOf]; omega
      | some a =>
        rw [hg] at hp
        obtain ⟨b, off, hp2, hb1, hb2, hcs⟩ := hp
        subst hp2
        have ac0 : wr.cell? ⟨b, off, none⟩ = some (.int .i64 a.r) := hcs 0 _ rfl
        have ac1 : wr.cell? ⟨b, off + 1, none⟩ = some (.int .i64 a.k) := hcs 1 _ rfl
        have ac2 : wr.cell? ⟨b, off + 2, none⟩ = some (.bool a.g) := hcs 2 _ rfl
        have ac3 : wr.cell? ⟨b, off + 3, none⟩ = some (.bool a.s) := hcs 3 _ rfl
        have HJK := Lib.hid (FJS.out k a hg)
        clear hcs hg
        have HO1 := HO
        generalize fj k = jk at *
        rcases Nat.eq_zero_or_pos jk.length with he | he
        · obtain rfl := List.eq_nil_of_length_eq_zero he
          obtain ⟨A3, c3, hu3, hz1, hz2⟩ := HO1.out.form
          clear hz1 hz2
          rw [List.length_nil] at hu3
          subst hu3
          clear he
          have HJ : Hid (fj (k + 1) = [] ++ [⟨(k : Int), (k : Int) + 1, a⟩]) := HJK
          go_wp2
          go_quiet (fail)
          go_wp2_with (at_builtin; refine append_B rfl _ _ rfl w.heap.size (.slice A3 0 c3) [] (wr.drewN _) ⟨(k : Int), (k : Int) + 1, a⟩ wr.heap.size rfl rfl (by simp) (HO1.out.below (below_drewN _ _ _) (Nat.le_refl _)) (by simp; omega) (by have := List.length_nil (α := Rgn); omega) ?_; intro g' c' w' ho2 hb2 hbg hcc hmx)
          have HO2 := Lib.hid ho2
          have HB3 := Lib.hid ((HB.out.trans (below_drewN _ _ _)).trans hb2)
          clear ho2 hb2
          go_wp2
          go_roundw
          case rel => exact ⟨k + 1, by omega, by go_num, Lib.hid (by rw [HJ.out]; exact HO2.out), HB3⟩
          case measure => simp [intOf]; omega
        · obtain ⟨m, p, hml, hp0, hno, hyes⟩ := last_split (jk := jk) (fun e => by rw [e] at he; simp at he)
          obtain ⟨A3, c3, hu3, hz1, hz2⟩ := HO1.out.form
          clear hz1 hz2
          rw [hml] at hu3
          subst hu3
          obtain ⟨g, rfl⟩ := os_ne HO1.out he
          rw [hml] at hjl
          have HML := Lib.hid hml
          have hm0 : (0 : Int) ≤ (m : Int) := by omega
          have hm1 : (m : Int) < (m : Int) + 1 := by omega
          have hm2 : m < m + 1 := by omega
          have hmw : wrap64 (m : Int) = (m : Int) := (wrap_small _ (by omega) (by omega)).1
          have hmv : IntKind.i64.wrap (m : Int) = (m : Int) := (wrap_small _ (by omega) (by omega)).2
          have hps := HO.out.cells fR_len hp0
          obtain ⟨hgl, hgb, hz1, hz2, hz3⟩ := HO.out.blk_lt_
          clear hz1 hz2 hz3
          have HSET := Lib.hid (fun (W' : World) (hb : Below wr.heap.size wr W') => (HO.out.below hb (Nat.le_refl _)).set_cell (y := ⟨p.f, (k : Int) + 1, p.a⟩) (u := .int .i64 ((k : Int) + 1)) fR_len (by decide) 1 hp0 rfl (fun mm vv hm hv => by
            match mm, hm, hv with
            | 0, _, hv => exact hv
            | 2, _, hv => exact hv
            | 3, _, hv => exact hv
            | 4, _, hv => exact hv
            | 5, _, hv => exact hv
            | (mm + 6), _, hv => simp [fR] at hv))
          have hfz : wr.frozen? ⟨g, m * 6 + 1, none⟩ = false := (hps 1 _ rfl).2
          obtain ⟨pf, pt, pa⟩ := p
          by_cases h5 : pt = (k : Int)
          · subst h5
            have pc0 : wr.cell? ⟨g, m * 6, none⟩ = some (.int .i64 pf) := (hps 0 _ rfl).1
            have pc1 : wr.cell? ⟨g, m * 6 + 1, none⟩ = some (.int .i64 (k : Int)) := (hps 1 _ rfl).1
            have pc2 : wr.cell? ⟨g, m * 6 + 2, none⟩ = some (.int .i64 pa.r) := (hps 2 _ rfl).1
            have pc3 : wr.cell? ⟨g, m * 6 + 3, none⟩ = some (.int .i64 pa.k) := (hps 3 _ rfl).1
            have pc4 : wr.cell? ⟨g, m * 6 + 4, none⟩ = some (.bool pa.g) := (hps 4 _ rfl).1
            have pc5 : wr.cell? ⟨g, m * 6 + 5, none⟩ = some (.bool pa.s) := (hps 5 _ rfl).1
            have hqA : ∀ w, (Op.equalIn 10000 24 (.agg #[.int .i64 pa.r, .int .i64 pa.k, .bool pa.g, .bool pa.s]) (.agg #[.int .i64 a.r, .int .i64 a.k, .bool a.g, .bool a.s])).run Try.prog w = .ok (eqA pa a) w := run_eqA pa a
            cases h6 : eqA pa a with
            | false =>
              rw [h6] at hqA
              have HJ : Hid (fj (k + 1) = jk ++ [⟨(k : Int), (k : Int) + 1, a⟩]) := Lib.hid (by rw [HJK.out, hno ⟨(k : Int), (k : Int) + 1, a⟩ (by simp [h6])])
              clear hps hp0 hml hno hyes he
              go_wp2
              go_quiet (fail)
              go_wp2_with (at_builtin; refine append_B rfl _ _ rfl w.heap.size (.slice (some ⟨g, 0, none⟩) (m + 1) c3) jk (wr.drewN _) ⟨(k : Int), (k : Int) + 1, a⟩ wr.heap.size rfl rfl (by simp) (HO1.out.below (below_drewN _ _ _) (Nat.le_refl _)) (by simp; omega) (by have := HML.out; omega) ?_; intro g' c' w' ho2 hb2 hbg hcc hmx)
              have HO2 := Lib.hid ho2
              have HB3 := Lib.hid ((HB.out.trans (below_drewN _ _ _)).trans hb2)
              clear ho2 hb2
              go_wp2
              go_roundw
              case rel => exact ⟨k + 1, by omega, by go_num, Lib.hid (by rw [HJ.out]; exact HO2.out), HB3⟩
              case measure => simp [intOf]; omega
            | true =>
              rw [h6] at hqA
              have HJ : Hid (fj (k + 1) = jk.set m ⟨pf, (k : Int) + 1, pa⟩) := Lib.hid (by rw [HJK.out, hyes ⟨(k : Int), (k : Int) + 1, a⟩ (by simp [h6])])
              clear hps hp0 hml hno hyes he
              go_wp2
              go_quiet (fail)
              go_wp2
              go_roundw
              case rel => exact ⟨k + 1, by omega, by go_num, Lib.hid (by rw [HJ.out]; exact HSET.out _ (below_drewN _ _ _)), Lib.hid ((HB.out.trans (below_drewN _ _ _)).setCell (p := ⟨g, m * 6 + 1, none⟩) hgb _)⟩
              case measure => simp [intOf]; omega
          · have h5b : (pt == (k : Int)) = false := by rw [beq_eq_false_iff_ne]; exact h5
            have pc0 : wr.cell? ⟨g, m * 6, none⟩ = some (.int .i64 pf) := (hps 0 _ rfl).1
            have pc1 : wr.cell? ⟨g, m * 6 + 1, none⟩ = some (.int .i64 pt) := (hps 1 _ rfl).1
            have pc2 : wr.cell? ⟨g, m * 6 + 2, none⟩ = some (.int .i64 pa.r) := (hps 2 _ rfl).1
            have pc3 : wr.cell? ⟨g, m * 6 + 3, none⟩ = some (.int .i64 pa.k) := (hps 3 _ rfl).1
            have pc4 : wr.cell? ⟨g, m * 6 + 4, none⟩ = some (.bool pa.g) := (hps 4 _ rfl).1
            have pc5 : wr.cell? ⟨g, m * 6 + 5, none⟩ = some (.bool pa.s) := (hps 5 _ rfl).1
            have HJ : Hid (fj (k + 1) = jk ++ [⟨(k : Int), (k : Int) + 1, a⟩]) := Lib.hid (by rw [HJK.out, hno ⟨(k : Int), (k : Int) + 1, a⟩ (by simp [h5])])
            clear hps hp0 hml hno hyes he h5
            go_wp2
            go_quiet (fail)
            go_wp2_with (at_builtin; refine append_B rfl _ _ rfl w.heap.size (.slice (some ⟨g, 0, none⟩) (m + 1) c3) jk (wr.drewN _) ⟨(k : Int), (k : Int) + 1, a⟩ wr.heap.size rfl rfl (by simp) (HO1.out.below (below_drewN _ _ _) (Nat.le_refl _)) (by simp; omega) (by have := HML.out; omega) ?_; intro g' c' w' ho2 hb2 hbg hcc hmx)
            have HO2 := Lib.hid ho2
            have HB3 := Lib.hid ((HB.out.trans (below_drewN _ _ _)).trans hb2)
            clear ho2 hb2
            go_wp2
            go_roundw
            case rel => exact ⟨k + 1, by omega, by go_num, Lib.hid (by rw [HJ.out]; exact HO2.out), HB3⟩
            case measure => simp [intOf]; omega
    · have hkn : k = 64 := by omega
      subst hkn
      have HO2 := HO.out
      rw [FJN.out] at HO2
      go_wp2
      go_ret
      exact ⟨_, rfl, HO2, HB.out⟩
end Go.Proofs.Ytnpmbjplmollkaa
