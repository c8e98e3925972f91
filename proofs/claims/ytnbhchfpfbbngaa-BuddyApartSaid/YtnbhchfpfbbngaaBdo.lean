/- BuddyApart: its walk. -/
import Derived.Test.YtnbhchfpfbbngaaBdm
namespace Go.Proofs.Ytnbhchfpfbbngaa
open Go.ChangeShapes Go.WideShapes Go.ChangeAt Go.RowKit Go.Joins Go.Sort
set_option linter.unusedVariables false
theorem djl_len {had : List Blk} (h : Djl had) (ho : ∀ x ∈ had, okB x = true) (hn : had.Pairwise fun x y => meetB x y = false) : had.length ≤ 64 := by
  have key : ∀ (l : List Blk), (∀ x ∈ l, okB x = true) → l.Pairwise (fun x y => meetB x y = false) → sumO l = cnt (covB l) 64 := by
    intro l
    induction l with
    | nil => intro _ _; exact (cnt_zero 64).symm
    | cons x l ih =>
      intro h1 h2
      rw [cnt_add (p := inBB x) (q := covB l) fun k hk => ⟨by simp [covB], ?_⟩, ← ih (fun y hy => h1 y (by simp [hy])) (List.pairwise_cons.1 h2).2, cnt_ok (h1 x (by simp))]
      · simp [sumO]
      · rw [Bool.and_eq_false_iff]
        by_cases hx : inBB x k = true
        · right
          rw [← Bool.not_eq_true, covB_iff]
          rintro ⟨y, hy, hi⟩
          exact dj_iff.1 (meetB_dj.1 ((List.pairwise_cons.1 h2).1 y hy)) _ (inBB_iff.1 hx) hi
        · left; simpa using hx
  have h1 := len_sum (l := had)
  have h2 := key had ho hn
  have h3 := cnt_le (covB had) 64
  omega
/-- What is known while blocks are taken. -/
structure ApJ (l had : List Blk) : Prop where
  ap : ApI l had
  dj : Djl had
  pw : had.Pairwise fun x y => meetB x y = false
theorem ApJ.start : ApJ newL [] := ⟨ApI.start, by simp [Djl], List.Pairwise.nil⟩
theorem ApJ.len {l had : List Blk} (h : ApJ l had) : had.length ≤ 64 := djl_len h.dj h.ap.ok h.pw
theorem ApJ.step {l had : List Blk} (h : ApJ l had) {ord : Int} (ht : (takeS l ord).2.2 = 0) : ApJ (takeS l ord).1 (had ++ [⟨(takeS l ord).2.1, ord⟩]) ∧ (∀ x ∈ had, meetB x ⟨(takeS l ord).2.1, ord⟩ = false) ∧ (giveS l ⟨(takeS l ord).2.1, ord⟩).2 = 7 ∧ okB ⟨(takeS l ord).2.1, ord⟩ = true := by
  obtain ⟨h1, h2, h3, h4⟩ := h.ap.step ht
  exact ⟨⟨h1, djl_snoc h.dj h2, List.pairwise_append.2 ⟨h.pw, by simp, fun x hx y hy => by rw [List.mem_singleton.1 hy]; exact h2 x hx⟩⟩, h2, h3, h4⟩
/-- Blocks of which each is known, the first k whole. -/
structure GvB (l had : List Blk) (k : Nat) : Prop where
  gv : GvA l had
  dj : Djl had
  whole : ∀ j x, j < k → had[j]? = some x → ∀ n, inB x n → cov l n
theorem ApJ.gvb {l had : List Blk} (h : ApJ l had) : GvB l had 0 := ⟨h.ap.gva, h.dj, fun j x hj => absurd hj (Nat.not_lt_zero _)⟩
theorem GvB.any {l had : List Blk} (h : GvB l had 0) {x : Blk} (hx : x ∈ had) : GvB (gvN l x) had 0 := ⟨(h.gv.step h.dj hx).1, h.dj, fun j x hj => absurd hj (Nat.not_lt_zero _)⟩
theorem GvB.next {l had : List Blk} {k : Nat} (h : GvB l had k) {x : Blk} (hx : had[k]? = some x) : GvB (gvN l x) had (k + 1) := by
  obtain ⟨h1, h2, h3⟩ := h.gv.step h.dj (List.mem_of_getElem? hx)
  refine ⟨h1, h.dj, fun j y hj hy n hn => ?_⟩
  by_cases e : j = k
  · subst e; rw [hx] at hy; cases hy; exact h2 n hn
  · exact h3 n (h.whole j y (by omega) hy n hn)
theorem GvB.all {l had : List Blk} {k : Nat} (h : GvB l had k) (hk : had.length ≤ k) : l = newL := h.gv.done fun x hx n hn => by
  obtain ⟨j, hj⟩ := List.getElem?_of_mem hx
  exact h.whole j x (by have := (List.getElem?_eq_some_iff.1 hj).1; omega) hj n hn
theorem giveN_ok {l : List Blk} {x : Blk} (h : (giveS l x).2 = 0) : gvN l x = (giveS l x).1 := by unfold gvN; rw [if_pos h]
theorem giveN_no {l : List Blk} {x : Blk} (h : (giveS l x).2 ≠ 0) : gvN l x = l := by unfold gvN; rw [if_neg h]
theorem bv_slice {w : World} {v : Value} {xs : List Blk} (h : Bv w v xs) : ∃ A c, v = .slice A xs.length c ∧ Rw fB 2 w w.heap.size A xs.length xs := by
  obtain ⟨A, n, c, rfl, hr, _⟩ := h
  obtain rfl := hr.1
  exact ⟨A, c, rfl, hr⟩
set_option maxHeartbeats 16000000 in
set_option maxRecDepth 100000 in
theorem apart_v {w : World} (A : Option Addr) (n c : Nat) (zs : List Int) (hz : Row .i64 w w.heap.size A n zs) (hwf : ∀ z ∈ zs, (Lit.int .i64 z).wf = true) (hn : n ≤ 140737488355328) :
    Calls Try.prog 4 #[.slice A n c] w fun e w' => e = .returned (.bool true) ∧ Below w.heap.size w w' := by
  have HAL := Lib.hid (alive2_any w)
  have HN := Lib.hid new_v
  have HZ := Lib.hid hz
  have HI := Lib.hid (fun i (hi : i < n) => (i64_of_wf (hwf _ (by
    have hl := hz.1
    show zs.getD i 0 ∈ zs
    rw [List.getD, List.getElem?_eq_getElem (by omega)]
    exact List.getElem_mem _)) : I64 (zs.getD i 0)))
  have HTK := Lib.hid (fun (W : World) (A : Option Addr) (n c : Nat) (l : List Blk) (ord : Int) (h : Rw fB 2 W W.heap.size A n l) (hl : Rp l) (ho : I64 ord) => take_any A n c l ord ho W _ h (rp_fits hl) (Nat.le_refl _) (by have := rp_len hl; have := h.1; omega))
  have HGV := Lib.hid (fun (W : World) (v : Value) (l : List Blk) (b : Blk) (h : Bv W v l) (hl : Rp l) (hb : okB b = true) => give_v h (rp_fits hl) b (okB_fits hb))
  have HEQ := Lib.hid (fun (W : World) (u v : Value) (xs : List Blk) (h1 : Bv W u xs) (h2 : Bv W v xs) => (by
    have := equal_v h1 h2
    rw [eqL_refl] at this; exact this : Calls Try.prog 13 #[u, v] W fun e w' => e = .returned (.bool true) ∧ Below W.heap.size W w'))
  clear hz hwf
  go_enter Try.func4, Try.ntmps4
  go_wp2_with (first
    | (go_at_call 16
       refine (HN.out w0).mono ?_
       rintro e w1 ⟨v1, rfl, hv1, hb1⟩
       have B1 := Lib.hid hv1
       have KB1 := Lib.hid (KB0.out.trans (hb1.mono KB0.out.size))
       clear hv1 hb1)
    | (go_at_call 10
       refine HAL.out.mono ?_
       rintro e w0 ⟨rfl, hb0⟩
       have KB0 := Lib.hid hb0
       clear hb0))
  go_loopw [3, 4, 28] (fun v3 v4 i wr => ∃ (k : Nat) (l had : List Blk), k ≤ n ∧ i = .int .i64 k ∧ Hid (ApJ l had) ∧ Hid (Bv wr v3 l) ∧ Hid (Os fB 2 30 wr w1.heap.size v4 had) ∧ Hid (Below w1.heap.size w1 wr)) (fun _ _ i _ => n - (intOf i).toNat)
  case atStart => exact ⟨0, newL, [], by omega, rfl, Lib.hid ApJ.start, B1, Lib.hid Os.nil, Lib.hid (Below.refl _ _)⟩
  case round =>
    obtain ⟨k, l, had, hk, rfl, HJ, HL, HD, HB⟩ := hrel
    have hhl := HJ.out.len
    obtain ⟨A3, c3, rfl, hr3⟩ := bv_slice HL.out
    have HR3 := Lib.hid hr3
    obtain ⟨A4, c4, rfl, hc41, hc42⟩ := HD.out.form
    have hsz := HB.out.size
    clear hr3
    by_cases hlt : k < n
    · obtain ⟨ib, ioff, rfl, hib, hic⟩ := HZ.out.at_ hlt
      have ic : wr.cell? ⟨ib, ioff + k, none⟩ = some (.int .i64 (zs.getD k 0)) := ((KB1.out.trans (HB.out.mono KB1.out.size)).cell (p := ⟨ib, ioff + k, none⟩) hib).trans hic
      have HIk := Lib.hid (HI.out k hlt)
      generalize zs.getD k 0 = ord at *
      have htk := HTK.out wr A3 l.length c3 l ord HR3.out HJ.out.ap.rp HIk.out
      obtain ⟨wo, hwo⟩ : ∃ wo, wo = wr := ⟨_, rfl⟩
      subst hwo
      clear hic
      by_cases h0 : (takeS l ord).2.2 = 0
      · obtain ⟨j1, j2, j3, j4⟩ := HJ.out.step h0
        obtain ⟨o1, o2⟩ := take_rng h0
        have HGB := Lib.hid (fun (W : World) (h : Bv W (.slice A3 l.length c3) l) => HGV.out W _ l ⟨(takeS l ord).2.1, ord⟩ h HJ.out.ap.rp j4)
        rw [j3] at HGB
        have htk' : Calls Try.prog 11 #[.slice A3 l.length c3, .int .i64 ord] wo fun e w' => ∃ v, e = .returned (.tuple #[v, .int .i64 (takeS l ord).2.1, .int .i64 0]) ∧ Os fB 2 30 w' wo.heap.size v (takeS l ord).1 ∧ Below wo.heap.size wo w' := htk.mono fun e w' ⟨v, h1, h2, h3⟩ => ⟨v, by rw [h1, h0], h2, h3⟩
        obtain ⟨m, hm⟩ : ∃ m, m = (takeS l ord).1 := ⟨_, rfl⟩
        obtain ⟨a, ha⟩ : ∃ a, a = (takeS l ord).2.1 := ⟨_, rfl⟩
        rw [← hm] at htk' j1
        rw [← ha] at htk' j1 j2 j4 HGB
        obtain ⟨q1, q2⟩ : 0 ≤ a ∧ a ≤ 64 - szO ord := by
          obtain ⟨h1, h2, _⟩ := okB_cases j4
          exact ⟨h1, h2⟩
        have HJ1 := Lib.hid j1
        have HJ2 := Lib.hid j2
        have HJ4 := Lib.hid j4
        have HMB : Hid (∀ x : Blk, meetB x ⟨a, ord⟩ = (decide (x.a < a + szO ord) && decide (a < x.a + szO x.o))) := Lib.hid (fun x => rfl)
        have hsh1 := shl_one o1 o2
        obtain ⟨s1, s2⟩ := szO_le o1 o2
        clear htk h0 hm ha j1 j2 j3 j4
        obtain ⟨s, hs⟩ : ∃ s, s = szO ord := ⟨_, rfl⟩
        rw [← hs] at q2 HMB hsh1 s1 s2
        clear hs o1 o2
        go_wp2_with (go_at_call 11; refine htk'.mono ?_; rintro e w2 ⟨vm, rfl, hom, hb2⟩)
        have HOM := Lib.hid hom
        have HB2 := Lib.hid hb2
        have KW2 : Hid (Below wo.heap.size wo (w2.alloc (.cells #[.int .i64 a, .int .i64 ord] 30))) := Lib.hid (hb2.alloc hb2.size _)
        have hz2 := hb2.size
        have HD2 := Lib.hid (HD.out.below KW2.out (Nat.le_refl _))
        have HL2 := Lib.hid (HL.out.below KW2.out)
        have HM2 : Hid (Os fB 2 30 (w2.alloc (.cells #[.int .i64 a, .int .i64 ord] 30)) wo.heap.size vm m) := Lib.hid (hom.below ((Below.refl _ _).alloc (Nat.le_refl _) _) (Nat.le_refl _))
        have d0 : (w2.alloc (.cells #[.int .i64 a, .int .i64 ord] 30)).cell? ⟨w2.heap.size, 0, none⟩ = some (.int .i64 a) := by simp [go_sem]
        have d1 : (w2.alloc (.cells #[.int .i64 a, .int .i64 ord] 30)).cell? ⟨w2.heap.size, 1, none⟩ = some (.int .i64 ord) := by simp [go_sem]
        have hdz : w2.heap.size < (w2.alloc (.cells #[.int .i64 a, .int .i64 ord] 30)).heap.size := by simp
        have D0 := Lib.hid d0
        have D1 := Lib.hid d1
        have DZ := Lib.hid hdz
        have HX := Lib.hid (fun (i : Nat) (hi : i < had.length) => (⟨had[i]'(by omega), List.getElem?_eq_getElem _⟩ : ∃ x, had[i]? = some x))
        clear hom hb2 htk' d0 d1 hdz ic
        go_loopw [46] (fun i wr => ∃ j : Nat, j ≤ had.length ∧ i = .int .i64 j ∧ Hid (Below (w2.alloc (.cells #[.int .i64 a, .int .i64 ord] 30)).heap.size (w2.alloc (.cells #[.int .i64 a, .int .i64 ord] 30)) wr)) (fun i _ => had.length - (intOf i).toNat)
        case atStart => exact ⟨0, by omega, rfl, Lib.hid (Below.refl _ _)⟩
        case round =>
          obtain ⟨j, hj, rfl, HBj⟩ := hrel
          have hzj := HBj.out.size
          have b0 : wr.cell? ⟨w2.heap.size, 0, none⟩ = some (.int .i64 a) := by rw [HBj.out.cell (p := ⟨w2.heap.size, 0, none⟩) DZ.out]; exact D0.out
          have b1 : wr.cell? ⟨w2.heap.size, 1, none⟩ = some (.int .i64 ord) := by rw [HBj.out.cell (p := ⟨w2.heap.size, 1, none⟩) DZ.out]; exact D1.out
          have hbz : w2.heap.size < wr.heap.size := by have := DZ.out; omega
          by_cases hlj : j < had.length
          · obtain ⟨x, hx⟩ := HX.out j hlj
            have hDr := Lib.hid (HD2.out.below HBj.out (Nat.le_refl _))
            obtain ⟨g, rfl⟩ := os_some hDr.out (by omega)
            have hcs := hDr.out.cells fB_len hx
            have xc0 : wr.cell? ⟨g, j * 2, none⟩ = some (.int .i64 x.a) := (hcs 0 _ rfl).1
            have xc1 : wr.cell? ⟨g, j * 2 + 1, none⟩ = some (.int .i64 x.o) := (hcs 1 _ rfl).1
            have hmx := HJ2.out x (List.mem_of_getElem? hx)
            rw [HMB.out] at hmx
            obtain ⟨x1, x2, x3, x4⟩ := okB_cases (HJ.out.ap.ok x (List.mem_of_getElem? hx))
            have xo1 : 0 ≤ x.o := by omega
            have xo2 : x.o ≤ 6 := by omega
            obtain ⟨t1, t2⟩ := szO_le xo1 xo2
            have hsh2 := shl_one xo1 xo2
            have HBA := Lib.hid (fun q => (HBj.out.alloc hzj (.cells #[.int .i64 x.a, .int .i64 x.o] 30)).trans (below_drewN _ _ q))
            obtain ⟨sx, hsx⟩ : ∃ s, s = szO x.o := ⟨_, rfl⟩
            rw [← hsx] at hmx hsh2 t1 t2 x2
            clear hsx hcs hx x3 x4 xo1 xo2
            have hgw : g < wr.heap.size := (hDr.out.blk_lt_).1
            by_cases h1 : x.a < a + s
            · have hd1 : decide (x.a < a + s) = true := decide_eq_true h1
              have hd2 : decide (a < x.a + sx) = false := by rw [hd1] at hmx; simpa using hmx
              clear hmx
              go_wp2
              go_quiet (fail)
              go_wp2
              go_roundw
              case rel => exact ⟨j + 1, by omega, by go_num, Lib.hid (HBA.out _)⟩
              case measure => simp [intOf]; omega
            · have hd1 : decide (x.a < a + s) = false := decide_eq_false h1
              clear hmx
              go_wp2
              go_quiet (fail)
              go_wp2
              go_roundw
              case rel => exact ⟨j + 1, by omega, by go_num, Lib.hid (HBA.out _)⟩
              case measure => simp [intOf]; omega
          · have hjl : j = had.length := by omega
            subst hjl
            have hgb := HGB.out wr (HL2.out.below HBj.out)
            have HSEP : Hid (Apart vm (.slice A4 had.length c4)) := Lib.hid (by
              cases hv : vm.ownBlock with
              | none => exact .inl hv
              | some k1 =>
                refine .inr ?_
                rw [hv]
                intro e
                have e1 := (HM2.out.blk_lt2 k1 hv).2
                have e2 := (HD.out.blk_lt2 k1 e.symm).1
                omega)
            obtain ⟨i0, hi, hz0, hz1, hz2⟩ := info_parts info_B
            go_wp2_with (first
              | (at_builtin
                 refine wpList_append_own _ rfl _ _ 22 rfl w1.heap.size 30 i0 (.agg #[.int .i64 0, .int .i64 0]) 2 16 Try.underlying22 hi hz0 hz1 hz2 rfl (by decide) (.slice A4 had.length c4) had.length (had.flatMap fB) rfl HD6.out ⟨w6.heap.size, 0, none⟩ 1 1 (fB ⟨a, ord⟩) rfl rfl (fun j u h => alloc_cells (vs := fB ⟨a, ord⟩) (W := w6) (T := 30) j u h) (fB_one1 _) (by unfold maxLen; omega) (by omega) HZ6.out ?_
                 intro v' w' hown hgrow hnil
                 have HON : Hid (Os fB 2 30 w' w1.heap.size v' (had ++ [(⟨a, ord⟩ : Blk)])) := Lib.hid (os_append (ys := [(⟨a, ord⟩ : Blk)]) (by simpa using hown) (by simp))
                 have HOMN := Lib.hid (HM6.out.frame hgrow HSEP.out)
                 have HBN := Lib.hid (grown_below hgrow HD6.out (Nat.le_refl _) HZ6.out)
                 clear hown hgrow hnil)
              | (go_at_call 12
                 refine hgb.mono ?_
                 rintro e w6 ⟨u6, rfl, hu6, hb6⟩
                 have K6 : Hid (Below wr.heap.size wr (w6.alloc (.cells #[.int .i64 a, .int .i64 ord] 30))) := Lib.hid (hb6.alloc hb6.size _)
                 have K2r := Lib.hid (HBj.out.trans (K6.out.mono hzj))
                 have HD6 : Hid (Os fB 2 30 (w6.alloc (.cells #[.int .i64 a, .int .i64 ord] 30)) w1.heap.size (.slice A4 had.length c4) had) := Lib.hid (HD2.out.below K2r.out (Nat.le_refl _))
                 have HM6 : Hid (Os fB 2 30 (w6.alloc (.cells #[.int .i64 a, .int .i64 ord] 30)) wo.heap.size vm m) := Lib.hid (HM2.out.below K2r.out (Nat.le_refl _))
                 have HZ6 : Hid (w1.heap.size ≤ (w6.alloc (.cells #[.int .i64 a, .int .i64 ord] 30)).heap.size) := Lib.hid (by
                   have e1 := KW2.out.size
                   have e2 := K2r.out.size
                   omega)
                 have HB6 : Hid (Below w1.heap.size w1 (w6.alloc (.cells #[.int .i64 a, .int .i64 ord] 30))) := Lib.hid (HB.out.trans ((KW2.out.trans (K2r.out.mono KW2.out.size)).mono hsz))
                 have y0 : w6.cell? ⟨w2.heap.size, 0, none⟩ = some (.int .i64 a) := by rw [hb6.cell (p := ⟨w2.heap.size, 0, none⟩) hbz]; exact b0
                 have y1 : w6.cell? ⟨w2.heap.size, 1, none⟩ = some (.int .i64 ord) := by rw [hb6.cell (p := ⟨w2.heap.size, 1, none⟩) hbz]; exact b1
                 clear hu6 hb6 hgb))
            go_roundw
            case rel => exact ⟨k + 1, m, _, by omega, by go_num, HJ1, Lib.hid (Bv.of HOMN.out (by have := rp_len HJ1.out.ap.rp; omega)), HON, Lib.hid (HB6.out.trans HBN.out)⟩
            case measure => simp [intOf]; omega
      · obtain ⟨a, ha⟩ : ∃ a, a = (takeS l ord).2.1 := ⟨_, rfl⟩
        obtain ⟨er, her⟩ : ∃ er, er = (takeS l ord).2.2 := ⟨_, rfl⟩
        have htk' : Calls Try.prog 11 #[.slice A3 l.length c3, .int .i64 ord] wo fun e w' => ∃ v, e = .returned (.tuple #[v, .int .i64 a, .int .i64 er]) ∧ Below wo.heap.size wo w' := htk.mono fun e w' ⟨v, h1, h2, h3⟩ => ⟨v, by rw [h1, ha, her], h3⟩
        rw [← her] at h0
        have hne : (er != 0) = true := by rw [bne_iff_ne]; exact h0
        clear htk ha her h0
        go_wp2_with (go_at_call 11; refine htk'.mono ?_; rintro e w2 ⟨vm, rfl, hb2⟩)
        have HB2 := Lib.hid hb2
        clear hb2 htk'
        go_roundw
        case rel => exact ⟨k + 1, l, had, by omega, by go_num, HJ, Lib.hid (HL.out.below HB2.out), Lib.hid (HD.out.below HB2.out (Nat.le_refl _)), Lib.hid (HB.out.trans (HB2.out.mono hsz))⟩
        case measure => simp [intOf]; omega
    · have hkn : k = n := by omega
      subst hkn
      have HG0 := Lib.hid HJ.out.gvb
      obtain ⟨wo, hwo⟩ : ∃ wo, wo = wr := ⟨_, rfl⟩
      subst hwo
      have HDL := HD
      have HBL := HB
      have HX := Lib.hid (fun (i : Nat) (hi : i < had.length) => (⟨had[i]'(by omega), List.getElem?_eq_getElem _⟩ : ∃ x, had[i]? = some x))
      clear hc41 hc42 hlt hk
      go_wp2
      go_loopw [3, 87] (fun v3 i wr => ∃ (k : Nat) (l : List Blk), k ≤ had.length ∧ i = .int .i64 k ∧ Hid (GvB l had 0) ∧ Hid (Bv wr v3 l) ∧ Hid (Below wo.heap.size wo wr)) (fun _ i _ => had.length - (intOf i).toNat)
      case atStart => exact ⟨0, l, by omega, rfl, HG0, HL, Lib.hid (Below.refl _ _)⟩
      case round =>
        clear HL HB HG0 HJ HR3
        obtain ⟨k, l, hk, rfl, HG, HL, HB⟩ := hrel
        have hsz := HB.out.size
        by_cases hlt : k < had.length
        · obtain ⟨idx, hix⟩ : ∃ i, i = (k * 7 + 3) % had.length := ⟨_, rfl⟩
          have hil : idx < had.length := by rw [hix]; exact Nat.mod_lt _ (by omega)
          have hie : ((k : Int) * 7 + 3) % (had.length : Int) = (idx : Int) := by rw [hix]; push_cast; rfl
          have hl0 : ¬ ((had.length : Int) = 0) := by omega
          have hil2 : (idx : Int) < (had.length : Int) := by omega
          have hi0 : (0 : Int) ≤ (idx : Int) := by omega
          have hk7 : (0 : Int) ≤ (k : Int) * 7 + 3 := by omega
          have hk8 : (k : Int) * 7 + 3 ≤ 1000 := by omega
          have hk9 : (k : Int) * 7 ≤ 1000 := by omega
          obtain ⟨x, hx⟩ := HX.out idx hil
          clear hix
          have hDr := Lib.hid (HDL.out.below HB.out (Nat.le_refl _))
          obtain ⟨g, hAg⟩ := os_some hDr.out (by omega)
          subst hAg
          have hcs := hDr.out.cells fB_len hx
          have xc0 : wr.cell? ⟨g, idx * 2, none⟩ = some (.int .i64 x.a) := (hcs 0 _ rfl).1
          have xc1 : wr.cell? ⟨g, idx * 2 + 1, none⟩ = some (.int .i64 x.o) := (hcs 1 _ rfl).1
          have HX0 := Lib.hid hx
          have HXM := Lib.hid (List.mem_of_getElem? hx)
          have HXO := Lib.hid (HG.out.gv.ok x HXM.out)
          clear hcs hx
          by_cases h0 : (giveS l x).2 = 0
          · have hgv := HGV.out (wr.alloc (.cells #[.int .i64 x.a, .int .i64 x.o] 30)) u3 l x (HL.out.below ((Below.refl _ _).alloc (Nat.le_refl _) _)) HG.out.gv.rp HXO.out
            have HGN : Hid (GvB (giveS l x).1 had 0) := Lib.hid (by rw [← giveN_ok h0]; exact HG.out.any HXM.out)
            obtain ⟨q, hq⟩ : ∃ q, q = giveS l x := ⟨_, rfl⟩
            rw [← hq] at hgv HGN h0
            clear hq
            obtain ⟨q1, q2⟩ := q
            simp only at h0
            subst h0
            go_wp2_with (go_at_call 12; refine hgv.mono ?_; rintro e w6 ⟨u6, rfl, hu6, hb6⟩)
            have HU6 := Lib.hid hu6
            have HB6 := Lib.hid (HB.out.trans ((((Below.refl _ _).alloc (Nat.le_refl _) _).trans (hb6.mono (by simp))).mono hsz))
            clear hu6 hb6 hgv
            go_roundw
            case rel => exact ⟨k + 1, q1, by omega, by go_num, HGN, HU6, HB6⟩
            case measure => simp [intOf]; omega
          · have hgv := HGV.out (wr.alloc (.cells #[.int .i64 x.a, .int .i64 x.o] 30)) u3 l x (HL.out.below ((Below.refl _ _).alloc (Nat.le_refl _) _)) HG.out.gv.rp HXO.out
            have HGN : Hid (GvB l had 0) := Lib.hid (by rw [← giveN_no h0]; exact HG.out.any HXM.out)
            obtain ⟨q, hq⟩ : ∃ q, q = giveS l x := ⟨_, rfl⟩
            rw [← hq] at hgv h0
            clear hq
            obtain ⟨q1, q2⟩ := q
            simp only at h0
            have hne : (q2 == 0) = false := by rw [beq_eq_false_iff_ne]; exact h0
            go_wp2_with (go_at_call 12; refine hgv.mono ?_; rintro e w6 ⟨u6, rfl, hu6, hb6⟩)
            have HB6' := Lib.hid (((Below.refl wr.heap.size wr).alloc (Nat.le_refl _) (.cells #[.int .i64 x.a, .int .i64 x.o] 30)).trans (hb6.mono (by simp)))
            clear hu6 hb6 hgv
            go_roundw
            case rel => exact ⟨k + 1, l, by omega, by go_num, HGN, Lib.hid (HL.out.below HB6'.out), Lib.hid (HB.out.trans (HB6'.out.mono hsz))⟩
            case measure => simp [intOf]; omega
        · have hkl : k = had.length := by omega
          subst hkl
          obtain ⟨wp, hwp⟩ : ∃ wo, wo = wr := ⟨_, rfl⟩
          subst hwp
          have HDP := Lib.hid (HDL.out.below HB.out (Nat.le_refl _))
          have HBP := Lib.hid (HBL.out.trans (HB.out.mono (by have := HBL.out.size; omega)))
          clear hlt hk
          go_wp2
          go_loopw [3, 111] (fun v3 i wr => ∃ (k : Nat) (l : List Blk), k ≤ had.length ∧ i = .int .i64 k ∧ Hid (GvB l had k) ∧ Hid (Bv wr v3 l) ∧ Hid (Below wp.heap.size wp wr)) (fun _ i _ => had.length - (intOf i).toNat)
          case atStart => exact ⟨0, l, by omega, rfl, HG, HL, Lib.hid (Below.refl _ _)⟩
          case round =>
            clear HL HB HG
            obtain ⟨k, l, hk, rfl, HG, HL, HB⟩ := hrel
            have hsz := HB.out.size
            by_cases hlt : k < had.length
            · obtain ⟨x, hx⟩ := HX.out k hlt
              have hDr := Lib.hid (HDP.out.below HB.out (Nat.le_refl _))
              obtain ⟨g, hAg⟩ := os_some hDr.out (by omega)
              subst hAg
              have hcs := hDr.out.cells fB_len hx
              have xc0 : wr.cell? ⟨g, k * 2, none⟩ = some (.int .i64 x.a) := (hcs 0 _ rfl).1
              have xc1 : wr.cell? ⟨g, k * 2 + 1, none⟩ = some (.int .i64 x.o) := (hcs 1 _ rfl).1
              have HX0 := Lib.hid hx
              have HXM := Lib.hid (List.mem_of_getElem? hx)
              have HXO := Lib.hid (HG.out.gv.ok x HXM.out)
              clear hcs hx
              by_cases h0 : (giveS l x).2 = 0
              · have hgv := HGV.out (wr.alloc (.cells #[.int .i64 x.a, .int .i64 x.o] 30)) u3 l x (HL.out.below ((Below.refl _ _).alloc (Nat.le_refl _) _)) HG.out.gv.rp HXO.out
                have HGN : Hid (GvB (giveS l x).1 had (k + 1)) := Lib.hid (by rw [← giveN_ok h0]; exact HG.out.next HX0.out)
                obtain ⟨q, hq⟩ : ∃ q, q = giveS l x := ⟨_, rfl⟩
                rw [← hq] at hgv HGN h0
                clear hq
                obtain ⟨q1, q2⟩ := q
                simp only at h0
                subst h0
                go_wp2_with (go_at_call 12; refine hgv.mono ?_; rintro e w6 ⟨u6, rfl, hu6, hb6⟩)
                have HU6 := Lib.hid hu6
                have HB6 := Lib.hid (HB.out.trans ((((Below.refl _ _).alloc (Nat.le_refl _) _).trans (hb6.mono (by simp))).mono hsz))
                clear hu6 hb6 hgv
                go_roundw
                case rel => exact ⟨k + 1, q1, by omega, by go_num, HGN, HU6, HB6⟩
                case measure => simp [intOf]; omega
              · have hgv := HGV.out (wr.alloc (.cells #[.int .i64 x.a, .int .i64 x.o] 30)) u3 l x (HL.out.below ((Below.refl _ _).alloc (Nat.le_refl _) _)) HG.out.gv.rp HXO.out
                have HGN : Hid (GvB l had (k + 1)) := Lib.hid (by rw [← giveN_no h0]; exact HG.out.next HX0.out)
                obtain ⟨q, hq⟩ : ∃ q, q = giveS l x := ⟨_, rfl⟩
                rw [← hq] at hgv h0
                clear hq
                obtain ⟨q1, q2⟩ := q
                simp only at h0
                have hne : (q2 == 0) = false := by rw [beq_eq_false_iff_ne]; exact h0
                go_wp2_with (go_at_call 12; refine hgv.mono ?_; rintro e w6 ⟨u6, rfl, hu6, hb6⟩)
                have HB6' := Lib.hid (((Below.refl wr.heap.size wr).alloc (Nat.le_refl _) (.cells #[.int .i64 x.a, .int .i64 x.o] 30)).trans (hb6.mono (by simp)))
                clear hu6 hb6 hgv
                go_roundw
                case rel => exact ⟨k + 1, l, by omega, by go_num, HGN, Lib.hid (HL.out.below HB6'.out), Lib.hid (HB.out.trans (HB6'.out.mono hsz))⟩
                case measure => simp [intOf]; omega
            · have hkl : k = had.length := by omega
              subst hkl
              have hln := HG.out.all (Nat.le_refl _)
              subst hln
              have HBF := Lib.hid (HBP.out.trans (HB.out.mono HBP.out.size))
              go_wp2_with (first
                | (go_at_call 13
                   refine (HEQ.out w7 u3 v7 newL (HL.out.below K7.out) B7.out).mono ?_
                   rintro e w8 ⟨rfl, hb8⟩
                   have K8 := Lib.hid hb8
                   clear hb8)
                | (go_at_call 16
                   refine (HN.out wr).mono ?_
                   rintro e w7 ⟨v7, rfl, hv7, hb7⟩
                   have B7 := Lib.hid hv7
                   have K7 := Lib.hid hb7
                   clear hv7 hb7))
              go_ret
              exact ⟨rfl, KB1.out.trans ((HBF.out.trans ((K7.out.trans (K8.out.mono K7.out.size)).mono HBF.out.size)).mono KB1.out.size)⟩
theorem buddyApart_walk {w : World} (A : Option Addr) (n c : Nat) (zs : List Int) (hz : Row .i64 w w.heap.size A n zs) (hwf : ∀ z ∈ zs, (Lit.int .i64 z).wf = true) (hcap : n ≤ c) (hmax : c ≤ maxLen) (big : c ≤ 17592186043904) :
    Calls Try.prog 4 #[.slice A n c] w fun e w' => e = .returned (.bool true) ∧ Below w.heap.size w w' :=
  apart_v A n c zs hz hwf (by omega)
end Go.Proofs.Ytnbhchfpfbbngaa
