/- FlatApart: its walk. -/
import Derived.Test.YtglnnplijienbaaCFcr
import Derived.Test.YtglnnplijienbaaCFsp
import Derived.Test.YtglnnplijienbaaCFrt
namespace Go.Proofs.Ytglnnplijienbaa
open Go.ChangeShapes Go.WideShapes Go.ChangeAt Go.RowKit Go.Joins Go.Sort
set_option linter.unusedVariables false
set_option linter.unusedSimpArgs false
set_option maxRecDepth 100000
/-- All but one seem the same. -/
theorem others_any {w : World} {a b : Array Value} {B1 B2 : Nat} {W1 W2 : Fw} (ha : Seem w B1 a W1) (hb : Seem w B2 b W2) (but : Int) (hbi : I64 but) (hs : ∀ k : Nat, k < 4 → (k : Int) ≠ but → W1 k = W2 k) (hr : ∀ k : Nat, k < 4 → rightL (W1 k).rg = true) :
    Calls Try.prog 15 #[.agg a, .agg b, .int .i64 but] w fun e w' => e = .returned (.bool true) ∧ Below w.heap.size w w' := by
  have hw1 : Below w.heap.size w ((w.alloc (.cells a 32)).alloc (.cells b 32)) := (below1 _ _).alloc (by simp) _
  have X1 : Hid (Bx ((w.alloc (.cells a 32)).alloc (.cells b 32)) w.heap.size 32 a) := Lib.hid ((Bx.new _ _ _).below (below1 _ _))
  have X2 : Hid (Bx ((w.alloc (.cells a 32)).alloc (.cells b 32)) (w.heap.size + 1) 32 b) := Lib.hid (by
    have := Bx.new (w.alloc (.cells a 32)) 32 b
    rwa [World.size_alloc] at this)
  have HA := Lib.hid (ha.below hw1)
  have HB := Lib.hid (hb.below hw1)
  have HW := Lib.hid hw1
  have HSM := Lib.hid hs
  have HRG := Lib.hid hr
  obtain ⟨w1, hw⟩ : ∃ w1, w1 = (w.alloc (.cells a 32)).alloc (.cells b 32) := ⟨_, rfl⟩
  have HE := Lib.hid hw
  rw [← hw] at X1 X2 HA HB HW
  clear ha hb hs hr hw1 hw
  go_enter Try.func15, Try.ntmps15
  go_wp2
  rw [← HE.out]
  clear HE
  go_loopw [8] (fun i wr => ∃ k : Nat, k ≤ 4 ∧ i = .int .i64 k ∧ Hid (Below w1.heap.size w1 wr)) (fun i _ => 4 - (intOf i).toNat)
  case atStart => exact ⟨0, by omega, rfl, Lib.hid (Below.refl _ _)⟩
  case round =>
    obtain ⟨k, hk, rfl, HBl⟩ := hrel
    by_cases hlt : k < 4
    · go_wp2
      have Y1 := Lib.hid (X1.out.below HBl.out)
      have Y2 := Lib.hid (X2.out.below HBl.out)
      have gc : ∀ (d : Nat) (os : Array Obj) (b o : Nat), b < wr.heap.size → (grow (redrawn wr d) os).cell? ⟨b, o, none⟩ = wr.cell? ⟨b, o, none⟩ := fun d os b o h => (below_regrown _ d os).cell (p := ⟨b, o, none⟩) h
      by_cases he : (k : Int) = but
      · have hne : ((k : Int) != but) = false := by rw [he]; simp
        refine wp_rel [] (by kernel_rfl) (by kernel_rfl) ?_
        intro V hV
        iterate 4 (refine rq rfl rfl ?_; go_big_quiet_step (fail); refine wpQuiet_nil ?_)
        iterate 8 (refine rk (by kernel_rfl) ?_; go_big_quiet_step (fail); refine wpQuiet_nil ?_)
        refine rq rfl rfl ?_; go_big_quiet_step (fail); refine wpQuiet_nil ?_
        refine rend ?_
        intro w6 hb6 hf
        clear hf hV
        have hsz := hb6.size
        go_wp2
        go_roundw
        case rel => exact ⟨k + 1, by omega, by go_num, Lib.hid (HBl.out.trans (hb6.mono HBl.out.size))⟩
        case measure => simp [intOf]; omega
      · have hne : ((k : Int) != but) = true := by simp [he]
        have h1 := (HA.out.below HBl.out).one_ hlt
        have h2 := (HB.out.below HBl.out).one_ hlt
        have HSP : Hid (∀ w', Below wr.heap.size wr w' → Calls Try.prog 16 #[.agg (a.extract (k * 11) (k * 11 + 11)), .agg (b.extract (k * 11) (k * 11 + 11))] w' fun e w'' => e = .returned (.bool true) ∧ Below w'.heap.size w' w'') := Lib.hid (fun w' hb => by
          have q1 := h1.2.2.keepT (KeepT.of hb)
          have q2 := h2.2.2.keepT (KeepT.of hb)
          rw [← HSM.out k hlt he] at q2
          exact sameProc_any q1 q2 h1.1 h2.1 (HRG.out k hlt))
        have sub : ∀ cs : Array Value, Sub cs (k * 11) (cs.extract (k * 11) (k * 11 + 11)) := fun cs i v hv => by
          rw [Array.getElem?_extract] at hv
          split at hv
          · exact hv
          · cases hv
        have HS1 := Lib.hid (sub a)
        have HS2 := Lib.hid (sub b)
        have HZ1 := Lib.hid h1.1
        have HZ2 := Lib.hid h2.1
        clear h1 h2 sub
        generalize a.extract (k * 11) (k * 11 + 11) = ra at *
        generalize b.extract (k * 11) (k * 11 + 11) = rb at *
        refine wp_rel [Sp.call 10 (.bool true)] (by kernel_rfl) (by kernel_rfl) ?_
        intro V hV
        have e10 : V 10 = .bool true := hV 10
        iterate 6 (refine rq rfl rfl ?_; go_big_quiet_step (fail); refine wpQuiet_nil ?_)
        refine rf (.agg ra) (by kernel_rfl) rfl (fun w' hb hf => ex_ld rfl (run_ld Try.underlying31 rfl infoS1 (Y1.out.below hb) HS1.out HZ1.out)) ?_
        go_big_quiet_step (fail)
        refine wpQuiet_nil ?_
        iterate 2 (refine rq rfl rfl ?_; go_big_quiet_step (fail); refine wpQuiet_nil ?_)
        refine rf (.agg rb) (by kernel_rfl) rfl (fun w' hb hf => ex_ld rfl (run_ld Try.underlying31 rfl infoS1 (Y2.out.below hb) HS2.out HZ2.out)) ?_
        go_big_quiet_step (fail)
        refine wpQuiet_nil ?_
        refine rsp (Sp.call 10 (.bool true)) (by kernel_rfl) rfl (fun w' hb hf => ?_) ?_
        · refine becomes_known (f := 16) (args := #[.agg ra, .agg rb]) ?_ (HSP.out w' hb)
          go_simp
        go_big_quiet_step (fail)
        refine wpQuiet_nil ?_
        simp only [e10]
        iterate 2 (refine rq rfl rfl ?_; go_big_quiet_step (fail); refine wpQuiet_nil ?_)
        refine rend ?_
        intro w6 hb6 hf
        clear hf hV
        have hsz := hb6.size
        go_wp2
        go_roundw
        case rel => exact ⟨k + 1, by omega, by go_num, Lib.hid (HBl.out.trans (hb6.mono HBl.out.size))⟩
        case measure => simp [intOf]; omega
    · go_wp2
      go_ret
      exact ⟨ret_b rfl, HW.out.trans (HBl.out.mono HW.out.size)⟩
set_option maxHeartbeats 16000000 in
theorem flatApart_walk {w : World} (A : Option Addr) (n c : Nat) (xs : List Fop) (hz : Rw fO 12 w w.heap.size A n xs) (hwf : ∀ x ∈ xs, x.fits) (hcap : n ≤ c) (_ : c ≤ maxLen) (hbig : c ≤ 1466015503658) (o : Fop) (fo : o.fits) :
    Calls Try.prog 5 #[.slice A n c, .agg (opA o)] w fun e w' => e = .returned (.bool true) ∧ Below w.heap.size w w' := by
  have hln := hz.1
  have HRUN : Hid (∀ w', Below w.heap.size w w' → Calls Try.prog 9 #[.slice A n c] w' (GivesRun w' xs)) := Lib.hid (fun w' hb => run_any A n c xs w' _ (hz.on hb (Nat.le_refl _)) (Nat.le_refl _) (by omega) hwf)
  have HCLO : Hid (∀ w', Below w.heap.size w w' → Calls Try.prog 12 #[.slice A n c] w' fun e w'' => ∃ v, e = .returned v ∧ Os fO 12 43 w'' w'.heap.size v xs ∧ Below w'.heap.size w' w'') := Lib.hid (fun w' hb => clone_O A n c xs w' _ (hz.on hb (Nat.le_refl _)) (Nat.le_refl _) (by omega))
  have HRU2 : Hid (∀ w' (b : Nat) v, Os fO 12 43 w' b v (xs ++ [o]) → Calls Try.prog 9 #[v] w' (GivesRun w' (xs ++ [o]))) := Lib.hid (fun w' b v h => by
    obtain ⟨A', c', rfl, h1, h2, h3⟩ := h.row fO_len
    exact run_any A' _ c' _ w' _ h3 (Nat.le_refl _) (by simp; omega) (by
      intro x hx
      rcases List.mem_append.1 hx with hx | hx
      · exact hwf x hx
      · simp at hx; subst hx; exact fo))
  have HOK := Lib.hid (ok_run xs)
  have HSN := Lib.hid (runF_snoc xs o)
  have HL1 : Hid ((runF xs).2.length = n) := Lib.hid (by rw [runF_len, hln])
  have HL2 : Hid ((runF (xs ++ [o])).2.length = n + 1) := Lib.hid (by rw [runF_len]; simp [hln])
  have HOZ : Hid ((opA o).size = 12) := Lib.hid rfl
  have HO1 := Lib.hid (opA_one o)
  have HOF : Hid (opA o = ([o].flatMap fO).toArray) := Lib.hid rfl
  have HXL := Lib.hid hln
  have HB0 := Lib.hid (below1 w (.cells (opA o) 43))
  have HOX : Hid (Bx (w.alloc (.cells (opA o) 43)) w.heap.size 43 (opA o)) := Lib.hid (Bx.new _ _ _)
  have HAL := Lib.hid (alive14_any (w.alloc (.cells (opA o) 43)))
  have HBS := Lib.hid (fun W => run_bsO o W)
  have HO0 : Hid ((opA o)[0]? = some (.int .i64 o.kind)) := Lib.hid rfl
  have HP0 : Hid ((opA o)[1]? = some (.int .i64 o.proc)) := Lib.hid rfl
  have HPI := Lib.hid fo.2.1
  clear hz hwf hln fo
  obtain ⟨oA, hoA⟩ : ∃ oA, oA = opA o := ⟨_, rfl⟩
  rw [← hoA] at HOZ HO1 HOF HB0 HOX HAL HBS HO0 HP0 ⊢
  clear hoA
  go_enter Try.func5, Try.ntmps5
  go_wp2_with (first
    | (go_at_call 8; refine HAL.out.mono ?_; rintro e w1 ⟨rfl, hb1⟩; have HB1 := Lib.hid (HB0.out.trans (hb1.mono HB0.out.size)); have OX1 := Lib.hid (HOX.out.below hb1); clear hb1)
    | (go_at_call 9
       refine (HRUN.out w1 HB1.out).mono ?_
       rintro e w2 ⟨va, cs, rfl, ha, hs, hb2⟩
       have HS := Lib.hid hs.size
       have HO := Lib.hid hs.one
       have HSE := Lib.hid hs
       have HB2 := Lib.hid (HB1.out.trans (hb2.mono HB1.out.size))
       have OX2 := Lib.hid (OX1.out.below hb2)
       obtain ⟨Aa, na, rfl⟩ : ∃ Aa na, va = .slice Aa (runF xs).2.length na := by obtain ⟨A', c', e, _⟩ := ha.form; exact ⟨A', c', e⟩
       clear ha hs hb2)
    | ((with_reducible refine stN infoS4 cs ?_ ?_ rfl HS.out HO.out ?_); rfl; rfl))
  simp only [Act.put]
  have HB3 : Hid (Below w.heap.size w (w2.alloc (.cells cs 32))) := Lib.hid (HB2.out.trans ((below1 _ _).mono HB2.out.size))
  have HSE3 : Hid (Seem (w2.alloc (.cells cs 32)) w1.heap.size cs (runF xs).1) := Lib.hid (HSE.out.below (below1 _ _))
  have OX3 := Lib.hid (OX2.out.below (below1 w2 (.cells cs 32)))
  have CX3 : Hid (Bx (w2.alloc (.cells cs 32)) w2.heap.size 32 cs) := Lib.hid (Bx.new _ _ _)
  obtain ⟨w3, hw3⟩ : ∃ w3, w3 = w2.alloc (.cells cs 32) := ⟨_, rfl⟩
  rw [← hw3] at HB3 HSE3 OX3 CX3 ⊢
  clear hw3 HB2 HSE OX2 OX1 HB1 HAL HOX HB0 HRUN
  obtain ⟨q1, hq1⟩ : ∃ q1, q1 = w2.heap.size := ⟨_, rfl⟩
  rw [← hq1] at CX3 ⊢
  clear hq1
  refine wp_reltD 11 (MA 4 w3.heap.size) (CA w3) [] [dClone 1 4 w3.heap.size xs, dNew 3 4 w3.heap.size 1 oA, dApp 4 w3.heap.size (xs ++ [o]), dRun 5 4 w3.heap.size (xs ++ [o]), dBox 9 4 w3.heap.size 32 zS4 (by decide)] (by kernel_rfl) (MA.kind 4 w3) ⟨rfl, rfl, rfl, Nat.le_refl _, fun _ _ => rfl⟩ (fun p hp => by cases hp) (by kernel_rfl) (by kernel_rfl) (by kernel_rfl) ?_
  intro V hV
  obtain ⟨A1, n1, c1, e1⟩ : ∃ A n c, V 1 = .slice A n c := hV 1
  obtain ⟨b3, e3⟩ : ∃ b, V 3 = .slice (some ⟨b, 0, none⟩) 1 1 := hV 3
  obtain ⟨A4, n4, c4, e4⟩ : ∃ A n c, V 4 = .slice A n c := hV 4
  obtain ⟨A5, n5, c5, cs5, e5⟩ : ∃ A n c cs, V 5 = .tuple #[.slice A n c, .agg cs] := hV 5
  obtain ⟨b9, e9⟩ : ∃ b, V 9 = .pointer (some ⟨b, 0, none⟩) := hV 9
  simp only [List.take_succ_cons, List.take_zero, List.drop_succ_cons, List.drop_zero]
  refine dq w3 (fun _ h => h) rfl rfl ?_; go_big_quiet_step (fail); refine wpQuiet_nil ?_
  refine dsp w3 (dClone 1 4 w3.heap.size xs) (by kernel_rfl) rfl (fun w' hb hi hf => ?_) ?_
  · refine becomesM_call (f := 12) (args := #[.slice A n c]) ?_ ((HCLO.out w' (HB3.out.trans (hb.mono HB3.out.size))).mono ?_)
    · go_simp
    · rintro e w'' ⟨v', rfl, ho, hb2⟩
      exact ⟨_, rfl, .inl ⟨by decide, hb2⟩, ho.slice, ho.rebase hb.size⟩
  go_big_quiet_step (fail)
  refine wpQuiet_nil ?_
  simp only [e1]
  refine df w3 (.agg oA) (by kernel_rfl) rfl (fun w' hb hi hf => ex_ld rfl (run_ld Try.underlying43 rfl infoO (OX3.out.below hb) (Sub.all _) HOZ.out)) ?_
  go_big_quiet_step (fail)
  refine wpQuiet_nil ?_
  refine dsp w3 (dNew 3 4 w3.heap.size 1 oA) (by kernel_rfl) rfl (fun w' hb hi hf => ?_) ?_
  · exact becomesM_value (ex_bs1 rfl (HBS.out w')) (.inl ⟨by decide, below1 _ _⟩) ⟨⟨_, rfl⟩, _, rfl, Bx.new _ _ _⟩
  go_big_quiet_step (fail)
  refine wpQuiet_nil ?_
  simp only [e3]
  refine dsp w3 (dApp 4 w3.heap.size (xs ++ [o])) (by kernel_rfl) rfl (fun w' hb hi hf => ?_) ?_
  · have f1 : Os fO 12 43 w' w3.heap.size (.slice A1 n1 c1) xs := hf _ (List.Mem.tail _ (List.Mem.head _)) (by kernel_rfl) (by kernel_rfl)
    obtain ⟨b, eb, f3⟩ : ∃ b, Value.slice (some ⟨b3, 0, none⟩) 1 1 = .slice (some ⟨b, 0, none⟩) 1 1 ∧ Bx w' b 43 oA := hf _ (List.Mem.head _) (by kernel_rfl) (by kernel_rfl)
    obtain rfl : b3 = b := by injection eb with eb; injection eb with eb; injection eb
    exact app_step rfl rfl rfl f1 hb.size rfl f3 HOF.out rfl (by rw [HXL.out]; simp; omega) (u := undef)
  go_big_quiet_step (fail)
  refine wpQuiet_nil ?_
  simp only [e4]
  refine dsp w3 (dRun 5 4 w3.heap.size (xs ++ [o])) (by kernel_rfl) rfl (fun w' hb hi hf => ?_) ?_
  · have f4 : Os fO 12 43 w' w3.heap.size (.slice A4 n4 c4) (xs ++ [o]) := hf _ (List.Mem.head _) (by kernel_rfl) (by kernel_rfl)
    refine becomesM_call (f := 9) (args := #[.slice A4 n4 c4]) ?_ ((HRU2.out w' _ _ f4).mono ?_)
    · go_simp
    · rintro e w'' ⟨va, cs2, rfl, ha, hs, hb2⟩
      obtain ⟨A', c', rfl, _⟩ := ha.form
      exact ⟨_, rfl, .inl ⟨by decide, hb2⟩, ⟨_, _, _, _, rfl⟩, _, _, rfl, ha.rebase hb.size, hs.rebase hb.size⟩
  go_big_quiet_step (fail)
  refine wpQuiet_nil ?_
  simp only [e5]
  iterate 3 (refine dq w3 (fun _ h => h) rfl rfl ?_; go_big_quiet_step (fail); refine wpQuiet_nil ?_)
  refine dsp w3 (dBox 9 4 w3.heap.size 32 zS4 (by decide)) (by kernel_rfl) rfl (fun w' hb hi hf => ?_) ?_
  · refine becomesM_value (v := .pointer (some ⟨w'.heap.size, 0, none⟩)) (w' := w'.alloc (.cells zS4 32)) (by go_simp) (.inl ⟨by decide, below1 _ _⟩) ⟨⟨_, rfl⟩, _, rfl, hb.size, Bx.new _ _ _⟩
  go_big_quiet_step (fail)
  refine wpQuiet_nil ?_
  simp only [e9]
  refine dq w3 (fun _ h => h) rfl rfl ?_; go_big_quiet_step (fail); refine wpQuiet_nil ?_
  refine dend ?_
  intro w6 hb6 hi hf
  obtain ⟨b9', eb9, hB9, f9⟩ : ∃ b, Value.pointer (some ⟨b9, 0, none⟩) = .pointer (some ⟨b, 0, none⟩) ∧ w3.heap.size ≤ b ∧ Bx w6 b 32 zS4 := by
    exact hf _ (List.Mem.head _) rfl
  obtain rfl : b9 = b9' := by injection eb9 with h; injection h with h; injection h
  obtain ⟨va', cs', ee, f5, f6⟩ : ∃ va cs, Value.tuple #[.slice A5 n5 c5, .agg cs5] = .tuple #[va, .agg cs] ∧ Os fN 4 47 w6 w3.heap.size va (runF (xs ++ [o])).2 ∧ Seem w6 w3.heap.size cs (runF (xs ++ [o])).1 := by
    exact hf _ (List.Mem.tail _ (List.Mem.head _)) rfl
  obtain ⟨rfl, rfl⟩ : va' = .slice A5 n5 c5 ∧ cs5 = cs' := by injection ee with h; injection h with h; injection h with h1 h; injection h with h2 h; injection h2 with h2; exact ⟨h1.symm, h2⟩
  obtain ⟨g5, c5', e5', hg5, hc5⟩ := ans_cells f5 (by rw [HL2.out]; omega)
  have hn5 : n5 = n + 1 := by rw [HL2.out] at e5'; injection e5'
  have hA5 : A5 = some ⟨g5, 0, none⟩ := by injection e5'
  subst hn5 hA5
  obtain ⟨an, han⟩ : ∃ an, an = (doF (runF xs).1 o).2 := ⟨_, rfl⟩
  have hat : (runF (xs ++ [o])).2[n]? = some an := by
    rw [HSN.out]
    show ((runF xs).2 ++ [_])[n]? = _
    rw [List.getElem?_append_right (by rw [HL1.out]; exact Nat.le_refl _), HL1.out, Nat.sub_self, han]; rfl
  have HC5 := Lib.hid (hc5 n an hat)
  have HS5 := Lib.hid f6.size
  have HO5 := Lib.hid f6.one
  have HSE6 := Lib.hid f6
  have HX9 := Lib.hid f9
  have HX9' := Lib.hid f9
  have HB6 := Lib.hid (HB3.out.trans (hb6.mono HB3.out.size))
  have OX6 := Lib.hid (OX3.out.below hb6)
  have CX6 := Lib.hid (CX3.out.below hb6)
  have SE6 := Lib.hid (HSE3.out.below hb6)
  have hq9 : q1 ≠ b9 := by have := CX3.out.lt; omega
  have hw9 : w.heap.size ≠ b9 := by have := OX3.out.lt; omega
  have hw9b : w.heap.size ≤ b9 := by have := OX3.out.lt; omega
  have HZ4 : Hid (zS4.size = 44) := Lib.hid rfl
  have KR : KeepT (fun T' => T' ≠ 32) w6 (w6.setRow b9 cs5) := fun g T' cs' hT hb => hb.orow (bx_ne hb HX9.out hT) cs5
  have HSE7 := Lib.hid (HSE6.out.keepT KR.seen)
  have SE7 := Lib.hid (SE6.out.keepT KR.seen)
  have OX7 := Lib.hid (OX6.out.orow hw9 cs5)
  have CX7 := Lib.hid (CX6.out.orow hq9 cs5)
  have HX7 := Lib.hid (HX9.out.row cs5)
  have HB7 := Lib.hid (below_setRow HB6.out hw9b cs5)
  have c7 : (w6.setRow b9 cs5).cell? ⟨g5, n * 4, none⟩ = some (.int .i64 an.err) := by
    have h1 := f5.keepT KR (by decide)
    obtain ⟨g', c', e', hg', hc'⟩ := ans_cells h1 (by rw [HL2.out]; omega)
    obtain rfl : g5 = g' := by injection e' with h; injection h with h; injection h
    exact hc' n an hat 0 _ rfl
  clear hf hV e1 e3 e4 e5 e9 eb9 f9 ee f5 f6 e5' hc5 hb6 hi KR HX9 hat
  refine stB infoS4 b9 cs5 rfl rfl HX9'.out HZ4.out HS5.out HO5.out ?_
  obtain ⟨w7, hw7⟩ : ∃ w7, w7 = w6.setRow b9 cs5 := ⟨_, rfl⟩
  rw [← hw7] at HSE7 SE7 OX7 CX7 HX7 HB7 c7 ⊢
  clear hw7 HSE6 SE6 OX6 CX6 HX9' HB6 hq9 hw9 hw9b hB9 hg5 HC5
  have l7 : g5 < w7.heap.size := lt_of_cell c7
  have hO : Hid (∀ but : Int, I64 but → (∀ k : Nat, k < 4 → (k : Int) ≠ but → (runF xs).1 k = (runF (xs ++ [o])).1 k) → ∀ w', Below w7.heap.size w7 w' → Calls Try.prog 15 #[.agg cs, .agg cs5, .int .i64 but] w' fun e w'' => e = .returned (.bool true) ∧ Below w'.heap.size w' w'') :=
    Lib.hid (fun but hi h w' hb => others_any (SE7.out.below hb) (HSE7.out.below hb) but hi h (fun k _ => (HOK.out.p k).r))
  have hsn1 : (runF (xs ++ [o])).1 = (doF (runF xs).1 o).1 := by rw [HSN.out]
  by_cases he : an.err = 0
  · have ck : w7.cell? ⟨w.heap.size, 0, none⟩ = some (.int .i64 o.kind) := by rw [OX7.out.cell]; exact HO0.out
    have cp : w7.cell? ⟨w.heap.size, 1, none⟩ = some (.int .i64 o.proc) := by rw [OX7.out.cell]; exact HP0.out
    have lo : w.heap.size < w7.heap.size := OX7.out.lt
    have HOT := Lib.hid (fun h8 => hO.out o.proc HPI.out (fun k _ hk => by rw [hsn1, do_apart h8 hk]) w7 (Below.refl _ _))
    clear hO hsn1 han
    by_cases hk : o.kind = 8
    · have hk8 : (o.kind == 8) = true := by rw [hk]; rfl
      go_wp2
      go_ret
      exact ⟨ret_b rfl, HB7.out⟩
    · have hk8 : (o.kind == 8) = false := by rw [beq_eq_false_iff_ne]; exact hk
      have HOU := Lib.hid (HOT.out hk)
      clear HOT
      go_wp2_with (first
        | ((with_reducible refine ldB Try.underlying32 rfl infoS4 q1 0 cs ?_ ?_ CX7.out (Sub.all _) HS.out ?_); rfl; rfl)
        | ((with_reducible refine ldB Try.underlying32 rfl infoS4 b9 0 cs5 ?_ ?_ HX7.out (Sub.all _) HS5.out ?_); rfl; rfl)
        | (go_at_call 15; refine HOU.out.mono ?_; rintro e w8 ⟨rfl, hb8⟩))
      go_ret
      exact ⟨ret_b rfl, HB7.out.trans (hb8.mono HB7.out.size)⟩
  · have HOT := Lib.hid (hO.out (-1) (by unfold I64; omega) (fun k _ _ => by rw [hsn1, do_err (by rw [← han]; exact he)]) w7 (Below.refl _ _))
    clear hO hsn1 han
    have hne : (an.err != 0) = true := by rw [bne_iff_ne]; exact he
    go_wp2_with (first
      | ((with_reducible refine ldB Try.underlying32 rfl infoS4 q1 0 cs ?_ ?_ CX7.out (Sub.all _) HS.out ?_); rfl; rfl)
      | ((with_reducible refine ldB Try.underlying32 rfl infoS4 b9 0 cs5 ?_ ?_ HX7.out (Sub.all _) HS5.out ?_); rfl; rfl)
      | (go_at_call 15; refine HOT.out.mono ?_; rintro e w8 ⟨rfl, hb8⟩))
    go_ret
    exact ⟨ret_b rfl, HB7.out.trans (hb8.mono HB7.out.size)⟩
end Go.Proofs.Ytglnnplijienbaa
