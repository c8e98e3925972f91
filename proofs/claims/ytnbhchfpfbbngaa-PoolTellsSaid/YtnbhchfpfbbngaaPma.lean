/- The reference: MTake. -/
import Derived.Test.YtnbhchfpfbbngaaPlz
namespace Go.Proofs.Ytnbhchfpfbbngaa
open Go.ChangeShapes Go.WideShapes Go.ChangeAt Go.RowKit Go.Joins
set_option linter.unusedVariables false
set_option linter.unusedSimpArgs false
theorem mtakeP_eq (p : Pl) : mtakeP p = if rightP p then (if (takeS p.f 0).2.2 = 0 then (ofR (updI p.r (takeS p.f 0).2.1.toNat 1), ((takeS p.f 0).2.1, (0 : Int))) else (zeroP, (0, (takeS p.f 0).2.2))) else (zeroP, (0, 1)) := rfl
set_option maxHeartbeats 4000000 in
set_option maxRecDepth 100000 in
theorem mtake_v {w : World} {cs : Array Value} {p : Pl} (h : PlV w cs p) :
    Calls Try.prog 26 #[.agg cs] w (GivesP3 w (mtakeP p)) := by
  have hA := (Below.refl w.heap.size w).alloc (Nat.le_refl _) (.cells cs 42)
  have HW0 := Lib.hid (hA.alloc hA.size (.cells zP 42))
  have HE : Hid ((w.alloc (.cells cs 42)).heap.size = w.heap.size + 1) := Lib.hid (by simp)
  have HX1 : Hid (Bx ((w.alloc (.cells cs 42)).alloc (.cells zP 42)) (w.heap.size + 1) 42 zP) := Lib.hid (by rw [← HE.out]; exact Bx.new _ _ _)
  have HX0 := Lib.hid ((Bx.new w 42 cs).below ((Below.refl _ _).alloc (Nat.le_refl _) (.cells zP 42)))
  have HP := Lib.hid h
  have HSZ := Lib.hid h.size
  have hri := mright_v (h.below HW0.out)
  have HS := Lib.hid (mtakeP_eq p)
  obtain ⟨v, hv0, hbv⟩ := h.list
  have HTK : Hid (∀ W, Below w.heap.size w W → _) := Lib.hid (fun W hb => btake_v (hbv.below hb) 0 (by unfold I64; omega))
  obtain ⟨A, n, c, rfl, _⟩ := hbv
  have HV0 := Lib.hid hv0
  have HFREE := Lib.hid (fun h1 h2 => take_free (p := p) h1 h2)
  have HR := Lib.hid h.refs
  obtain ⟨rs, hrs⟩ : ∃ rs, rs = cs.extract 1 65 := ⟨_, rfl⟩
  have HEX : Hid (∀ i v, rs[i]? = some v → cs[1 + i]? = some v) := Lib.hid (by rw [hrs]; exact ext_at cs)
  rw [← hrs] at HR
  clear h hA hv0 hrs
  generalize mtakeP p = res at *
  cases hr : rightP p with
  | false =>
    rw [hr] at hri
    have HRES : Hid (res = (zeroP, ((0 : Int), (1 : Int)))) := Lib.hid (by rw [HS.out, hr]; rfl)
    clear hr HS
    go_enter Try.func26, Try.ntmps26
    go_wp2_with (first
      | (with_reducible refine alP ?_)
      | (with_reducible refine bdP0 ?_)
      | ((with_reducible refine ldP w.heap.size ?_ HX0.out HSZ.out ?_); rfl)
      | ((with_reducible refine stPg (w.heap.size + 1) zP ?_ ?_ X1.out zP_size zP_size zP_one ?_); rfl; rfl)
      | (go_at_call 30
         refine hri.mono ?_
         rintro e w1 ⟨rfl, hb1⟩
         have K1 := Lib.hid (HW0.out.trans (hb1.mono HW0.out.size))
         have X1 := Lib.hid (HX1.out.below hb1)
         clear hb1))
    try simp only [Exit.inBlock, Exit.then]
    refine bodyPost_ret (v := .tuple #[.agg zP, .int .i64 0, .int .i64 1]) ?_ rfl ?_
    rotate_left
    · rw [HRES.out]
      exact fin3 X1.out (zP_v _) zP_far K1.out (by omega)
    · rw [results_cell_tmp2 rfl]
      simp [asAddr, Result.andThen, Act.put, ldvP (X1.out.row _) zP_size]
  | true =>
    rw [hr] at hri
    have HS2 : Hid (res = if (takeS p.f 0).2.2 = 0 then (ofR (updI p.r (takeS p.f 0).2.1.toNat 1), ((takeS p.f 0).2.1, (0 : Int))) else (zeroP, (0, (takeS p.f 0).2.2))) := Lib.hid (by rw [HS.out, hr, if_pos rfl])
    have HFREE2 := Lib.hid (HFREE.out hr)
    unfold GivesV at HTK
    clear hr HS HFREE
    obtain ⟨ts, hts⟩ : ∃ ts, ts = takeS p.f 0 := ⟨_, rfl⟩
    rw [← hts] at HTK HS2 HFREE2
    clear hts
    obtain ⟨tl, ta, te⟩ := ts
    simp only at HTK HS2 HFREE2
    by_cases h0 : te = 0
    · subst h0
      obtain ⟨ha0, ha1, _⟩ := HFREE2.out rfl
      obtain ⟨m, rfl⟩ := Int.eq_ofNat_of_zero_le ha0
      have hm : m < 64 := by omega
      have HRES : Hid (res = (ofR (updI p.r m 1), ((m : Int), (0 : Int)))) := Lib.hid (by rw [HS2.out, if_pos rfl]; rfl)
      have HMF := Lib.hid (fun (W : World) => mof_v (w := W) (HR.out.set m 1))
      clear HS2 HFREE2
      go_enter Try.func26, Try.ntmps26
      go_wp2_with (first
        | (with_reducible refine alP ?_)
        | (with_reducible refine alR ?_)
        | ((with_reducible refine ldP w.heap.size ?_ HX0.out HSZ.out ?_); rfl)
        | ((with_reducible refine ldRg w.heap.size 1 rs ?_ ?_ Y0.out HEX.out HR.out.size ?_); rfl; rfl)
        | ((with_reducible refine stRn rs ?_ ?_ zR_v.size HR.out.size HR.out.one ?_); rfl; rfl)
        | ((with_reducible refine ldRg w2.heap.size 0 (rs.setIfInBounds m (.int .i64 1)) ?_ ?_ Y2.out (fun i v h => by rw [Nat.zero_add]; exact h) (HR.out.set m 1).size ?_); rfl; rfl)
        | ((with_reducible refine stPg (w.heap.size + 1) _ ?_ ?_ Z1.out zP_size HV4.out.size HV4.out.one ?_); rfl; rfl)
        | (go_at_call 29
           refine (HMF.out _).mono ?_
           rintro e w4 ⟨cs4, rfl, hv4, hf4, hb4⟩
           have HV4 := Lib.hid hv4
           have HF4 := Lib.hid (hf4 (w.heap.size + 1) Y3.out.lt)
           have K4 := Lib.hid (K3.out.trans (hb4.mono K3.out.size))
           have Z1 := Lib.hid (Y3.out.below hb4)
           clear hv4 hf4 hb4)
        | (go_at_call 17
           refine (HTK.out w1 K1.out).mono ?_
           rintro e w2 ⟨u2, rfl, hu2, hb2⟩
           have K2 := Lib.hid (K1.out.trans (hb2.mono K1.out.size))
           have Y0 := Lib.hid (X0.out.below hb2)
           have Y1 := Lib.hid (X1.out.below hb2)
           have hg2 : w.heap.size < w2.heap.size := Y0.out.lt
           have hA3 := (Below.refl w2.heap.size w2).alloc (Nat.le_refl _) (.cells (rs.setIfInBounds m (.int .i64 1)) 40)
           have Y2 := Lib.hid (Bx.new w2 40 (rs.setIfInBounds m (.int .i64 1)))
           have Y3 := Lib.hid (Y1.out.below hA3)
           have K3 := Lib.hid (K2.out.trans (hA3.mono K2.out.size))
           have hcr : rs[m]? = some (.int .i64 (p.r m)) := HR.out.at_ m hm
           clear hb2 c1 hu2 hA3)
        | (go_at_call 30
           refine hri.mono ?_
           rintro e w1 ⟨rfl, hb1⟩
           have K1 := Lib.hid (HW0.out.trans (hb1.mono HW0.out.size))
           have X0 := Lib.hid (HX0.out.below hb1)
           have X1 := Lib.hid (HX1.out.below hb1)
           have hg1 : w.heap.size < w1.heap.size := X0.out.lt
           have c1 : w1.cell? ⟨w.heap.size, 0, none⟩ = some (.slice A n c) := by rw [X0.out.cell]; exact HV0.out
           clear hb1))
      try simp only [Exit.inBlock, Exit.then]
      refine bodyPost_ret (v := .tuple #[.agg cs4, .int .i64 m, .int .i64 0]) ?_ rfl ?_
      rotate_left
      · rw [HRES.out]
        exact fin3 (r := (ofR (updI p.r m 1), ((m : Int), (0 : Int)))) Z1.out HV4.out HF4.out K4.out (by omega)
      · rw [results_cell_tmp2 rfl]
        simp [asAddr, Result.andThen, Act.put, ldvP (Z1.out.row _) HV4.out.size]
    · have HRES : Hid (res = (zeroP, ((0 : Int), te))) := Lib.hid (by rw [HS2.out, if_neg h0])
      have hne : (te != 0) = true := by rw [bne_iff_ne]; exact h0
      clear HS2 HFREE2
      go_enter Try.func26, Try.ntmps26
      go_wp2_with (first
        | (with_reducible refine alP ?_)
        | (with_reducible refine bdP0 ?_)
        | ((with_reducible refine ldP w.heap.size ?_ HX0.out HSZ.out ?_); rfl)
        | ((with_reducible refine stPg (w.heap.size + 1) zP ?_ ?_ Y1.out zP_size zP_size zP_one ?_); rfl; rfl)
        | (go_at_call 17
           refine (HTK.out w1 K1.out).mono ?_
           rintro e w2 ⟨u2, rfl, hu2, hb2⟩
           have K2 := Lib.hid (K1.out.trans (hb2.mono K1.out.size))
           have Y1 := Lib.hid (X1.out.below hb2)
           clear hb2 hu2 c1)
        | (go_at_call 30
           refine hri.mono ?_
           rintro e w1 ⟨rfl, hb1⟩
           have K1 := Lib.hid (HW0.out.trans (hb1.mono HW0.out.size))
           have X0 := Lib.hid (HX0.out.below hb1)
           have X1 := Lib.hid (HX1.out.below hb1)
           have hg1 : w.heap.size < w1.heap.size := X0.out.lt
           have c1 : w1.cell? ⟨w.heap.size, 0, none⟩ = some (.slice A n c) := by rw [X0.out.cell]; exact HV0.out
           clear hb1))
      try simp only [Exit.inBlock, Exit.then]
      refine bodyPost_ret (v := .tuple #[.agg zP, .int .i64 0, .int .i64 te]) ?_ rfl ?_
      rotate_left
      · rw [HRES.out]
        exact fin3 Y1.out (zP_v _) zP_far K2.out (by omega)
      · rw [results_cell_tmp2 rfl]
        simp [asAddr, Result.andThen, Act.put, ldvP (Y1.out.row _) zP_size]
end Go.Proofs.Ytnbhchfpfbbngaa
