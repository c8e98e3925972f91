/- SameProc, at processes that are the same. -/
import Derived.Test.YtglnnplijienbaaCFmi
import Derived.Test.YtglnnplijienbaaM11
import Derived.Test.YtglnnplijienbaaM3
import Derived.Test.YtglnnplijienbaaCCvr
namespace Go.Proofs.Ytglnnplijienbaa
open Go.ChangeShapes Go.WideShapes Go.ChangeAt Go.RowKit Go.Joins
set_option linter.unusedVariables false
set_option linter.unusedSimpArgs false
set_option maxRecDepth 100000
attribute [local go_sem] Oper.quiet Oper.quietAt Oper.quietUpon
set_option maxHeartbeats 4000000 in
theorem pgSame_any {w : World} {x y : PgV} {p : Fp} {n : Nat} (hx : PgOk w p x n) (hy : PgOk w p y n) :
    Calls Try.prog 27 #[.agg #[.int .i64 x.n, x.b, x.t], .agg #[.int .i64 y.n, y.b, y.t]] w fun e w' => e = .returned (.bool true) ∧ Below w.heap.size w w' := by
  obtain ⟨xn, xb, xt⟩ := x
  obtain ⟨yn, yb, yt⟩ := y
  obtain ⟨e1, h2, h3⟩ := hx
  obtain ⟨e4, h5, h6⟩ := hy
  simp only at e1 e4 h2 h3 h5 h6
  subst e1 e4
  obtain ⟨A1, c1, rfl, r1⟩ := h2.row
  obtain ⟨A2, c2, rfl, r2⟩ := h3.row
  obtain ⟨A3, c3, rfl, r3⟩ := h5.row
  obtain ⟨A4, c4, rfl, r4⟩ := h6.row
  have HL2 : Hid ((tagL p n).length = 4) := Lib.hid (by simp [tagL])
  generalize byteL p n = zb at *
  generalize tagL p n = zt at *
  have hb2 : Below w.heap.size w ((w.alloc (.cells #[.int .i64 (n : Int), .slice A1 zb.length c1, .slice A2 zt.length c2] 53)).alloc (.cells #[.int .i64 (n : Int), .slice A3 zb.length c3, .slice A4 zt.length c4] 53)) := (below1 _ _).alloc (by simp) _
  have R1 := Lib.hid (r1.below hb2)
  have R2 := Lib.hid (r2.below hb2)
  have R3 := Lib.hid (r3.below hb2)
  have R4 := Lib.hid (r4.below hb2)
  have HB2 := Lib.hid hb2
  have q1 := conv_row (c := c1) R1.out
  have q2 := conv_row (c := c3) R3.out
  have HEQ := Lib.hid (equalI_same A2 A4 zt.length c2 c4 zt _ w.heap.size R2.out R4.out (by have := HL2.out; omega))
  clear r1 r2 r3 r4 hb2 h2 h3 h5 h6
  go_enter Try.func27, Try.ntmps27
  go_wp2_with (go_at_call 14; refine HEQ.out.mono ?_; rintro e w9 ⟨rfl, hb9⟩)
  go_ret
  exact ⟨ret_b rfl, HB2.out.trans (hb9.mono HB2.out.size)⟩
/-- A page's cells. -/
theorem pg_cells {w : World} {A : Option Addr} {n c base : Nat} {xs : List PgV} (h : Os fG 3 53 w base (.slice A n c) xs) : n = xs.length ∧ Rw fG 3 w w.heap.size A xs.length xs := by
  obtain ⟨A', c', e, _, _, hr⟩ := h.row fG_len
  injection e with e1 e2 e3
  subst e1 e2
  exact ⟨rfl, hr⟩
set_option maxHeartbeats 4000000 in
theorem pagesSame_any {w : World} {b1 b2 : Nat} {v1 v2 : Value} {p : Fp} {l : List Nat} (h1 : Pgs w b1 v1 p l) (h2 : Pgs w b2 v2 p l) (hlen : l.length ≤ 64) :
    Calls Try.prog 26 #[v1, v2, .func (.func 27) #[] #[]] w fun e w' => e = .returned (.bool true) ∧ Below w.heap.size w w' := by
  obtain ⟨A1, n1, c1, rfl⟩ := h1.slice
  obtain ⟨A2, n2, c2, rfl⟩ := h2.slice
  have HP1 := Lib.hid h1
  have HP2 := Lib.hid h2
  have hl1 : n1 = l.length := by obtain ⟨xs, ho, hl, _⟩ := h1; rw [← hl]; exact (pg_cells ho).1
  have hl2 : n2 = l.length := by obtain ⟨xs, ho, hl, _⟩ := h2; rw [← hl]; exact (pg_cells ho).1
  subst hl1 hl2
  obtain ⟨n, hn⟩ : ∃ n, n = l.length := ⟨_, rfl⟩
  have HN := Lib.hid hn
  rw [← hn] at HP1 HP2 hlen ⊢
  have HA : Hid (∀ k, k < n → ∃ x y m o1 f1 o2 f2, A1 = some ⟨o1, f1, none⟩ ∧ A2 = some ⟨o2, f2, none⟩ ∧ l[k]? = some m ∧ ∀ w', Below w.heap.size w w' → PgOk w' p x m ∧ PgOk w' p y m ∧ (∀ j u, (fG x)[j]? = some u → w'.cell? ⟨o1, f1 + k * 3 + j, none⟩ = some u) ∧ (∀ j u, (fG y)[j]? = some u → w'.cell? ⟨o2, f2 + k * 3 + j, none⟩ = some u)) := Lib.hid (fun k hk => by
    obtain ⟨xs, ho, hl, hx⟩ := h1
    obtain ⟨ys, po, pl, hy⟩ := h2
    obtain ⟨x, hxk⟩ : ∃ x, xs[k]? = some x := ⟨_, List.getElem?_eq_getElem (by omega)⟩
    obtain ⟨y, hyk⟩ : ∃ y, ys[k]? = some y := ⟨_, List.getElem?_eq_getElem (by omega)⟩
    obtain ⟨m, hmk⟩ : ∃ m, l[k]? = some m := ⟨_, List.getElem?_eq_getElem (by omega)⟩
    have r1 := (pg_cells ho).2
    have r2 := (pg_cells po).2
    obtain ⟨b1, f1, e1, _⟩ := r1.open (by omega)
    obtain ⟨b2, f2, e2, _⟩ := r2.open (by omega)
    subst e1 e2
    refine ⟨x, y, m, b1, f1, b2, f2, rfl, rfl, hmk, fun w' hb => ?_⟩
    have k1 := KeepT.of (E := fun _ => True) hb
    exact ⟨(hx k x m hxk hmk).keepT k1 trivial trivial, (hy k y m hyk hmk).keepT k1 trivial trivial, (r1.on hb (Nat.le_refl _)).at_ fG_len hxk, (r2.on hb (Nat.le_refl _)).at_ fG_len hyk⟩)
  clear h1 h2 hn
  go_enter Try.func26, Try.ntmps26
  go_wp2
  go_loopw [17] (fun i wr => ∃ k : Nat, k ≤ n ∧ i = .int .i64 k ∧ Hid (Below w.heap.size w wr)) (fun i _ => n - (intOf i).toNat)
  case atStart => exact ⟨0, by omega, rfl, Lib.hid (Below.refl _ _)⟩
  case round =>
    obtain ⟨k, hk, rfl, HB⟩ := hrel
    by_cases hlt : k < n
    · obtain ⟨⟨xn, xb, xt⟩, ⟨yn, yb, yt⟩, m, o1, f1, o2, f2, rfl, rfl, _, hw⟩ := HA.out k hlt
      obtain ⟨_, _, hc1, hc2⟩ := hw wr HB.out
      have d0 : wr.cell? ⟨o1, f1 + k * 3, none⟩ = some (.int .i64 xn) := hc1 0 _ rfl
      have d1 : wr.cell? ⟨o1, f1 + k * 3 + 1, none⟩ = some xb := hc1 1 _ rfl
      have d2 : wr.cell? ⟨o1, f1 + k * 3 + 2, none⟩ = some xt := hc1 2 _ rfl
      have g0 : wr.cell? ⟨o2, f2 + k * 3, none⟩ = some (.int .i64 yn) := hc2 0 _ rfl
      have g1 : wr.cell? ⟨o2, f2 + k * 3 + 1, none⟩ = some yb := hc2 1 _ rfl
      have g2 : wr.cell? ⟨o2, f2 + k * 3 + 2, none⟩ = some yt := hc2 2 _ rfl
      have l1 := lt_of_cell d0
      have l2 := lt_of_cell g0
      have HPG : Hid (∀ w', Below w.heap.size w w' → Calls Try.prog 27 #[.agg #[.int .i64 xn, xb, xt], .agg #[.int .i64 yn, yb, yt]] w' fun e w'' => e = .returned (.bool true) ∧ Below w'.heap.size w' w'') := Lib.hid (fun w' hb => by
        obtain ⟨k1, k2, _⟩ := hw w' hb
        have k3 := pgSame_any (x := ⟨xn, xb, xt⟩) (y := ⟨yn, yb, yt⟩) k1 k2
        simp only at k3
        exact k3)
      obtain ⟨⟨_, q1, q2⟩, ⟨_, q3, q4⟩, _, _⟩ := hw w (Below.refl _ _)
      obtain ⟨A4, n4, c4, e4⟩ := q1.slice
      obtain ⟨A5, n5, c5, e5⟩ := q2.slice
      obtain ⟨A6, n6, c6, e6⟩ := q3.slice
      obtain ⟨A7, n7, c7, e7⟩ := q4.slice
      simp only at e4 e5 e6 e7
      subst e4 e5 e6 e7
      clear hw hc1 hc2 q1 q2 q3 q4 HP1 HP2 HA
      have hs := HB.out.size
      have hb2 : Below w.heap.size w ((wr.alloc (.cells #[.int .i64 xn, .slice A4 n4 c4, .slice A5 n5 c5] 53)).alloc (.cells #[.int .i64 yn, .slice A6 n6 c6, .slice A7 n7 c7] 53)) := (HB.out.alloc hs _).alloc (by simp; omega) _
      have HB2 := Lib.hid hb2
      have HPC := Lib.hid (HPG.out _ hb2)
      clear hb2
      go_wp2_with (first
        | (go_at_call 27; refine HPC.out.mono ?_; rintro e w9 ⟨rfl, hb9⟩))
      go_roundw
      case rel => exact ⟨k + 1, by omega, by go_num, Lib.hid (HB2.out.trans (hb9.mono HB2.out.size))⟩
      case measure => simp [intOf]; omega
    · go_wp2
      go_ret
      exact ⟨ret_b rfl, HB.out⟩
theorem run_eqK (K : Key4) (w : World) : (binOp .eql 28 (.agg (kA K)) (.agg (kA K))).run Try.prog w = .ok (.bool true) w := by
  have := run_eq_keys K.t0 K.t1 K.t2 K.t3 K.t0 K.t1 K.t2 K.t3 K.d0 K.d1 K.d2 K.d3 K.d0 K.d1 K.d2 K.d3 w
  unfold kA
  simp [go_sem, this]
set_option maxHeartbeats 4000000 in
theorem sameProc_any {w : World} {a b : Array Value} {B1 B2 : Nat} {p : Fp} (ha : Sv w B1 a 0 p) (hb : Sv w B2 b 0 p) (hsa : a.size = 11) (hsb : b.size = 11) (hr : rightL p.rg = true) :
    Calls Try.prog 16 #[.agg a, .agg b] w fun e w' => e = .returned (.bool true) ∧ Below w.heap.size w w' := by
  have hw1 : Below w.heap.size w ((w.alloc (.cells a 31)).alloc (.cells b 31)) := (below1 _ _).alloc (by simp) _
  have X1 : Hid (Bx ((w.alloc (.cells a 31)).alloc (.cells b 31)) w.heap.size 31 a) := Lib.hid ((Bx.new _ _ _).below (below1 _ _))
  have X2 : Hid (Bx ((w.alloc (.cells a 31)).alloc (.cells b 31)) (w.heap.size + 1) 31 b) := Lib.hid (by
    have := Bx.new (w.alloc (.cells a 31)) 31 b
    rwa [World.size_alloc] at this)
  have ha2 := ha.keepT (KeepT.of hw1)
  have hb2 := hb.keepT (KeepT.of hw1)
  have HW1 := Lib.hid hw1
  obtain ⟨va, ga, oa⟩ := ha2.rg
  obtain ⟨vb, gb, ob⟩ := hb2.rg
  obtain ⟨pa, ha_, qa⟩ := ha2.pg
  obtain ⟨pb, hb_, qb⟩ := hb2.pg
  have hlen := rightL_len hr
  obtain ⟨Aa, ca, rfl, _, _, ra⟩ := oa.row fR_len
  obtain ⟨Ab, cb, rfl, _, _, rb⟩ := ob.row fR_len
  have HEQ := Lib.hid (equal_R Aa Ab p.rg.length ca p.rg.length cb p.rg p.rg _ _ ra rb (Nat.le_refl _) (by omega) (by omega))
  have HPS := Lib.hid (fun w' hb => pagesSame_any (qa.keepT (KeepT.of (w' := w') hb)) (qb.keepT (KeepT.of hb)) (pages_le p.rg))
  obtain ⟨Ap, np, cp, rfl⟩ := qa.slice
  obtain ⟨Aq, nq, cq, rfl⟩ := qb.slice
  have HRE : Hid (sameL eqR p.rg p.rg = true) := Lib.hid (sameL_refl (fun x => eqR_iff.2 rfl) p.rg)
  have HKA := Lib.hid ha2.ks
  have HKB := Lib.hid hb2.ks
  have q0 := fun W => run_eqK p.ks W
  have HKS : Hid ((kA p.ks).size = 8) := Lib.hid rfl
  obtain ⟨KK, hKK⟩ : ∃ KK, KK = kA p.ks := ⟨_, rfl⟩
  rw [← hKK] at HKA HKB HKS
  simp only [← hKK] at q0
  have c0 : ((w.alloc (.cells a 31)).alloc (.cells b 31)).cell? ⟨w.heap.size, 0, none⟩ = some (.bool p.live) := by rw [X1.out.cell]; exact ha2.live
  have c1 : ((w.alloc (.cells a 31)).alloc (.cells b 31)).cell? ⟨w.heap.size, 1, none⟩ = some (.slice Aa p.rg.length ca) := by rw [X1.out.cell]; exact ga
  have c2 : ((w.alloc (.cells a 31)).alloc (.cells b 31)).cell? ⟨w.heap.size, 10, none⟩ = some (.slice Ap np cp) := by rw [X1.out.cell]; exact ha_
  have d0 : ((w.alloc (.cells a 31)).alloc (.cells b 31)).cell? ⟨w.heap.size + 1, 0, none⟩ = some (.bool p.live) := by rw [X2.out.cell]; exact hb2.live
  have d1 : ((w.alloc (.cells a 31)).alloc (.cells b 31)).cell? ⟨w.heap.size + 1, 1, none⟩ = some (.slice Ab p.rg.length cb) := by rw [X2.out.cell]; exact gb
  have d2 : ((w.alloc (.cells a 31)).alloc (.cells b 31)).cell? ⟨w.heap.size + 1, 10, none⟩ = some (.slice Aq nq cq) := by rw [X2.out.cell]; exact hb_
  clear ha hb hsa hsb hr ha2 hb2 ga gb oa ob ha_ hb_ qa qb ra rb hw1 hKK hlen
  generalize p.live = lv at *
  generalize p.rg.length = rl at *
  simp only [Nat.zero_add] at HKA HKB
  go_enter Try.func16, Try.ntmps16
  go_wp2_with (first
    | ((with_reducible refine ldB Try.underlying28 rfl infoKs w.heap.size 2 KK ?_ ?_ X1.out HKA.out HKS.out ?_); rfl; rfl)
    | ((with_reducible refine ldB Try.underlying28 rfl infoKs (w.heap.size + 1) 2 KK ?_ ?_ X2.out HKB.out HKS.out ?_); rfl; rfl)
    | (go_at_call 13
       refine HEQ.out.mono ?_
       rintro e w5 ⟨rfl, hb5⟩
       rw [HRE.out]
       have e2 : w5.cell? ⟨w.heap.size, 10, none⟩ = some (.slice Ap np cp) := (hb5.cell (p := ⟨w.heap.size, 10, none⟩) X1.out.lt).trans c2
       have f2 : w5.cell? ⟨w.heap.size + 1, 10, none⟩ = some (.slice Aq nq cq) := (hb5.cell (p := ⟨w.heap.size + 1, 10, none⟩) X2.out.lt).trans d2
       have l1 := lt_of_cell e2
       have l2 := lt_of_cell f2
       have HB5 := Lib.hid (HW1.out.trans (hb5.mono HW1.out.size))
       have HPC := Lib.hid (HPS.out w5 hb5)
       clear hb5)
    | (go_at_call 26
       refine HPC.out.mono ?_
       rintro e w6 ⟨rfl, hb6⟩
       have HB6 := Lib.hid (HB5.out.trans (hb6.mono HB5.out.size))
       clear hb6))
  go_ret
  exact ⟨ret_b rfl, HB6.out⟩
end Go.Proofs.Ytglnnplijienbaa
