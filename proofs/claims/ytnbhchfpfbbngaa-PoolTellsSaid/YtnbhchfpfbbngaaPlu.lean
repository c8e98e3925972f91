/- pool.Take, Drop. -/
import Derived.Test.YtnbhchfpfbbngaaPlt
namespace Go.Proofs.Ytnbhchfpfbbngaa
open Go.ChangeShapes Go.WideShapes Go.ChangeAt Go.RowKit Go.Joins
set_option linter.unusedVariables false
set_option linter.unusedSimpArgs false
theorem takeP_eq (p : Pl) : takeP p = if rightP p then (if (takeS p.f 0).2.2 = 0 then ((⟨(takeS p.f 0).1, updI p.r (takeS p.f 0).2.1.toNat 1⟩ : Pl), ((takeS p.f 0).2.1, (0 : Int))) else (zeroP, (0, (takeS p.f 0).2.2))) else (zeroP, (0, 1)) := rfl
theorem dropP_eq (p : Pl) (n : Int) : dropP p n = if meantP p n = 0 then (if 0 < p.r n.toNat - 1 then ((⟨p.f, updI p.r n.toNat (p.r n.toNat - 1)⟩ : Pl), (0 : Int)) else (⟨(giveS p.f ⟨n, 0⟩).1, updI p.r n.toNat (p.r n.toNat - 1)⟩, 0)) else (zeroP, meantP p n) := rfl
set_option maxHeartbeats 4000000 in
set_option maxRecDepth 100000 in
theorem takeP_v {w : World} {cs : Array Value} {p : Pl} (h : PlV w cs p) (hf : ∀ x ∈ p.f, x.fits) :
    Calls Try.prog 21 #[.agg cs] w (GivesK3 w cs (takeP p)) := by
  have hA := (Below.refl w.heap.size w).alloc (Nat.le_refl _) (.cells cs 42)
  have HW0 := Lib.hid (hA.alloc hA.size (.cells zP 42))
  have HE : Hid ((w.alloc (.cells cs 42)).heap.size = w.heap.size + 1) := Lib.hid (by simp)
  have HX1 : Hid (Bx ((w.alloc (.cells cs 42)).alloc (.cells zP 42)) (w.heap.size + 1) 42 zP) := Lib.hid (by rw [← HE.out]; exact Bx.new _ _ _)
  have HX0 := Lib.hid ((Bx.new w 42 cs).below ((Below.refl _ _).alloc (Nat.le_refl _) (.cells zP 42)))
  have HP := Lib.hid h
  have HSZ := Lib.hid h.size
  have hri := rightP_v (h.below HW0.out) hf
  have HS := Lib.hid (takeP_eq p)
  obtain ⟨v, hv0, hbv⟩ := h.list
  have HTK : Hid (∀ W, Below w.heap.size w W → _) := Lib.hid (fun W hb => take_o (hbv.below hb) hf 0 (by unfold I64; omega))
  obtain ⟨A, n, c, rfl, _⟩ := hbv
  have HV0 := Lib.hid hv0
  have HFREE := Lib.hid (fun h1 h2 => take_free (p := p) h1 h2)
  clear h hf hA hv0
  generalize takeP p = rs at *
  cases hr : rightP p with
  | false =>
    rw [hr] at hri
    have HRES : Hid (rs = (zeroP, ((0 : Int), (1 : Int)))) := Lib.hid (by rw [HS.out, hr]; rfl)
    clear hr HS
    go_enter Try.func21, Try.ntmps21
    go_wp2_with (first
      | (with_reducible refine alP ?_)
      | (with_reducible refine bdP0 ?_)
      | ((with_reducible refine ldP w.heap.size ?_ HX0.out HSZ.out ?_); rfl)
      | ((with_reducible refine stPg (w.heap.size + 1) zP ?_ ?_ X1.out zP_size zP_size zP_one ?_); rfl; rfl)
      | (go_at_call 22
         refine hri.mono ?_
         rintro e w1 ⟨rfl, hb1⟩
         have K1 := Lib.hid (HW0.out.trans (hb1.mono HW0.out.size))
         have X1 := Lib.hid (HX1.out.below hb1)
         clear hb1))
    try simp only [Exit.inBlock, Exit.then]
    refine bodyPost_ret (v := .tuple #[.agg zP, .int .i64 0, .int .i64 1]) ?_ rfl ?_
    rotate_left
    · rw [HRES.out]
      exact fin3k X1.out (zP_v _) zP_far K1.out (by omega) (farK_z _ _)
    · rw [results_cell_tmp2 rfl]
      simp [asAddr, Result.andThen, Act.put, ldvP (X1.out.row _) zP_size]
  | true =>
    rw [hr] at hri
    have HS2 : Hid (rs = if (takeS p.f 0).2.2 = 0 then ((⟨(takeS p.f 0).1, updI p.r (takeS p.f 0).2.1.toNat 1⟩ : Pl), ((takeS p.f 0).2.1, (0 : Int))) else (zeroP, (0, (takeS p.f 0).2.2))) := Lib.hid (by rw [HS.out, hr, if_pos rfl])
    have HFREE2 := Lib.hid (HFREE.out hr)
    clear hr HS HFREE
    obtain ⟨ts, hts⟩ : ∃ ts, ts = takeS p.f 0 := ⟨_, rfl⟩
    rw [← hts] at HTK HS2 HFREE2
    clear hts
    obtain ⟨tl, ta, te⟩ := ts
    simp only at HTK HS2 HFREE2
    by_cases h0 : te = 0
    · subst h0
      obtain ⟨ha0, ha1, _⟩ := HFREE2.out rfl
      obtain ⟨m, rfl⟩ := Int.eq_ofNat_of_zero_le ha0
      have hm : m < 64 := by omega
      have HRES : Hid (rs = ((⟨tl, updI p.r m 1⟩ : Pl), ((m : Int), (0 : Int)))) := Lib.hid (by rw [HS2.out, if_pos rfl]; rfl)
      have HAT := Lib.hid (HP.out.at_ m hm)
      clear HS2 HFREE2 HAT
      go_enter Try.func21, Try.ntmps21
      go_wp2_with (first
        | (with_reducible refine alP ?_)
        | ((with_reducible refine ldP w.heap.size ?_ HX0.out HSZ.out ?_); rfl)
        | ((with_reducible refine ldP w.heap.size ?_ HY0.out HV2.out.size ?_); rfl)
        | ((with_reducible refine stPg (w.heap.size + 1) _ ?_ ?_ HY1.out zP_size HV2.out.size HV2.out.one ?_); rfl; rfl)
        | (go_at_call 11
           refine (HTK.out w1 K1.out).mono ?_
           rintro e w2 ⟨u2, rfl, hu2, hf2, hb2⟩
           have K2 := Lib.hid (K1.out.trans (hb2.mono K1.out.size))
           have Y0 := Lib.hid (X0.out.below hb2)
           have Y1 := Lib.hid (X1.out.below hb2)
           have hg2 : w.heap.size < w2.heap.size := Y0.out.lt
           have c2 : w2.cell? ⟨w.heap.size, 0, none⟩ = some (.slice A n c) := by rw [Y0.out.cell]; exact HV0.out
           have c3 : w2.cell? ⟨w.heap.size, 1 + m, none⟩ = some (.int .i64 (p.r m)) := by rw [Y0.out.cell, Nat.add_comm]; exact HP.out.at_ m hm
           have f2 : w2.frozen? ⟨w.heap.size, 0, none⟩ = false := Y0.out.free _
           have f3 : w2.frozen? ⟨w.heap.size, 1 + m, none⟩ = false := Y0.out.free _
           have HFU := Lib.hid (hf2 w.heap.size (by omega))
           have HFU1 := Lib.hid (hf2 (w.heap.size + 1) (by have := X1.out.lt; omega))
           have HFG : Hid (∀ g, g < w.heap.size → Far u2 g) := Lib.hid (fun g hg => hf2 g (Nat.lt_trans hg X0.out.lt))
           have HV2 : Hid (PlV ((w2.setCell ⟨w.heap.size, 0, none⟩ u2).setCell ⟨w.heap.size, 1 + m, none⟩ (.int .i64 1)) ((cs.setIfInBounds 0 u2).setIfInBounds (1 + m) (.int .i64 1)) ⟨tl, updI p.r m 1⟩) := Lib.hid (by
             have q := ((HP.out.below K2.out).put hu2).set m 1
             have hfar : ∀ v, ((cs.setIfInBounds 0 u2).setIfInBounds (1 + m) (.int .i64 1))[0]? = some v → Far v w.heap.size := by
               intro v hv
               rw [Array.getElem?_setIfInBounds_ne (by omega), Array.getElem?_setIfInBounds_self_of_lt (by rw [HSZ.out]; omega)] at hv
               cases hv; exact HFU.out
             exact (q.cell hfar _ _).cell hfar _ _)
           have HY0 : Hid (Bx ((w2.setCell ⟨w.heap.size, 0, none⟩ u2).setCell ⟨w.heap.size, 1 + m, none⟩ (.int .i64 1)) w.heap.size 42 ((cs.setIfInBounds 0 u2).setIfInBounds (1 + m) (.int .i64 1))) := Lib.hid ((Y0.out.set _ _).set _ _)
           have HY1 : Hid (Bx ((w2.setCell ⟨w.heap.size, 0, none⟩ u2).setCell ⟨w.heap.size, 1 + m, none⟩ (.int .i64 1)) (w.heap.size + 1) 42 zP) := Lib.hid ((Y1.out.other (by omega) _ _).other (by omega) _ _)
           have HB2 : Hid (Below w.heap.size w ((w2.setCell ⟨w.heap.size, 0, none⟩ u2).setCell ⟨w.heap.size, 1 + m, none⟩ (.int .i64 1))) := Lib.hid ((K2.out.setCell (p := ⟨w.heap.size, 0, none⟩) (Nat.le_refl _) _).setCell (p := ⟨w.heap.size, 1 + m, none⟩) (Nat.le_refl _) _)
           have hone : u2.oneCell' = true := bv_one hu2
           obtain ⟨A2, n2, c2', rfl, _⟩ := hu2
           clear hb2 hf2 c1)
        | (go_at_call 22
           refine hri.mono ?_
           rintro e w1 ⟨rfl, hb1⟩
           have K1 := Lib.hid (HW0.out.trans (hb1.mono HW0.out.size))
           have X0 := Lib.hid (HX0.out.below hb1)
           have X1 := Lib.hid (HX1.out.below hb1)
           have hg1 : w.heap.size < w1.heap.size := X0.out.lt
           have c1 : w1.cell? ⟨w.heap.size, 0, none⟩ = some (.slice A n c) := by rw [X0.out.cell]; exact HV0.out
           clear hb1))
      try simp only [Exit.inBlock, Exit.then]
      refine bodyPost_ret (v := .tuple #[.agg ((cs.setIfInBounds 0 (.slice A2 n2 c2')).setIfInBounds (1 + m) (.int .i64 1)), .int .i64 m, .int .i64 0]) ?_ rfl ?_
      rotate_left
      · rw [HRES.out]
        refine fin3k HY1.out HV2.out ?_ HB2.out (by omega) ?_
        · intro v hv
          rw [Array.getElem?_setIfInBounds_ne (by omega), Array.getElem?_setIfInBounds_self_of_lt (by rw [HSZ.out]; omega)] at hv
          cases hv; exact HFU1.out
        · intro g hg _ v hv
          rw [Array.getElem?_setIfInBounds_ne (by omega), Array.getElem?_setIfInBounds_self_of_lt (by rw [HSZ.out]; omega)] at hv
          cases hv; exact HFG.out g hg
      · rw [results_cell_tmp2 rfl]
        simp [asAddr, Result.andThen, Act.put, ldvP (HY1.out.row _) HV2.out.size]
    · have HRES : Hid (rs = (zeroP, ((0 : Int), te))) := Lib.hid (by rw [HS2.out, if_neg h0])
      have hne : (te != 0) = true := by rw [bne_iff_ne]; exact h0
      clear HS2 HFREE2
      go_enter Try.func21, Try.ntmps21
      go_wp2_with (first
        | (with_reducible refine alP ?_)
        | (with_reducible refine bdP0 ?_)
        | ((with_reducible refine ldP w.heap.size ?_ HX0.out HSZ.out ?_); rfl)
        | ((with_reducible refine stPg (w.heap.size + 1) zP ?_ ?_ Y1.out zP_size zP_size zP_one ?_); rfl; rfl)
        | (go_at_call 11
           refine (HTK.out w1 K1.out).mono ?_
           rintro e w2 ⟨u2, rfl, hu2, hf2, hb2⟩
           have K2 := Lib.hid (K1.out.trans (hb2.mono K1.out.size))
           have Y1 := Lib.hid (X1.out.below hb2)
           clear hb2 hf2 hu2 c1)
        | (go_at_call 22
           refine hri.mono ?_
           rintro e w1 ⟨rfl, hb1⟩
           have K1 := Lib.hid (HW0.out.trans (hb1.mono HW0.out.size))
           have X0 := Lib.hid (HX0.out.below hb1)
           have X1 := Lib.hid (HX1.out.below hb1)
           have hg1 : w.heap.size < w1.heap.size := X0.out.lt
           have c1 : w1.cell? ⟨w.heap.size, 0, none⟩ = some (.slice A n c) := by rw [X0.out.cell]; exact HV0.out
           clear hb1))
      try simp only [Exit.inBlock, Exit.then]
      refine bodyPost_ret (v := .tuple #[.agg zP, .int .i64 0, .int .i64 te]) ?_ rfl ?_
      rotate_left
      · rw [HRES.out]
        exact fin3k Y1.out (zP_v _) zP_far K2.out (by omega) (farK_z _ _)
      · rw [results_cell_tmp2 rfl]
        simp [asAddr, Result.andThen, Act.put, ldvP (Y1.out.row _) zP_size]
end Go.Proofs.Ytnbhchfpfbbngaa
