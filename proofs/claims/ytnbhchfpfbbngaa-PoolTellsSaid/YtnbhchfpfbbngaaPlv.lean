/- pool.Drop. -/
import Derived.Test.YtnbhchfpfbbngaaPlu
namespace Go.Proofs.Ytnbhchfpfbbngaa
open Go.ChangeShapes Go.WideShapes Go.ChangeAt Go.RowKit Go.Joins
set_option linter.unusedVariables false
set_option linter.unusedSimpArgs false
set_option maxHeartbeats 4000000 in
set_option maxRecDepth 100000 in
theorem dropP_v {w : World} {cs : Array Value} {p : Pl} (h : PlV w cs p) (hf : rFits p) (n : Int) :
    Calls Try.prog 24 #[.agg cs, .int .i64 n] w (GivesK2 w cs (dropP p n)) := by
  have hA := (Below.refl w.heap.size w).alloc (Nat.le_refl _) (.cells cs 42)
  have HW0 := Lib.hid (hA.alloc hA.size (.cells zP 42))
  have HE : Hid ((w.alloc (.cells cs 42)).heap.size = w.heap.size + 1) := Lib.hid (by simp)
  have HX1 : Hid (Bx ((w.alloc (.cells cs 42)).alloc (.cells zP 42)) (w.heap.size + 1) 42 zP) := Lib.hid (by rw [← HE.out]; exact Bx.new _ _ _)
  have HX0 := Lib.hid ((Bx.new w 42 cs).below ((Below.refl _ _).alloc (Nat.le_refl _) (.cells zP 42)))
  have HP := Lib.hid h
  have HSZ := Lib.hid h.size
  have hme := meant_v (h.below HW0.out) hf.1 n
  have HFIT := Lib.hid hf
  have HMZ := Lib.hid (meant_zero (p := p) (n := n))
  have HDG := Lib.hid (drop_give (p := p) (n := n))
  have HS := Lib.hid (dropP_eq p n)
  obtain ⟨v, hv0, hbv⟩ := h.list
  have HBV := Lib.hid hbv
  obtain ⟨A, nn, c, rfl, _⟩ := hbv
  have HV0 := Lib.hid hv0
  clear h hf hA hv0
  generalize dropP p n = rs at *
  by_cases h0 : meantP p n = 0
  · rw [h0] at hme
    obtain ⟨hr, hn0, hn1, hnz⟩ := HMZ.out h0
    have HG := Lib.hid (HDG.out h0)
    have HS2 : Hid (rs = if 0 < p.r n.toNat - 1 then ((⟨p.f, updI p.r n.toNat (p.r n.toNat - 1)⟩ : Pl), (0 : Int)) else (⟨(giveS p.f ⟨n, 0⟩).1, updI p.r n.toNat (p.r n.toNat - 1)⟩, 0)) := Lib.hid (by rw [HS.out, if_pos h0])
    obtain ⟨m, rfl⟩ := Int.eq_ofNat_of_zero_le hn0
    have hm : m < 64 := by omega
    have HAT := Lib.hid (HP.out.at_ m hm)
    have hnn : 0 ≤ p.r m := (rightP_iff.1 hr).1 m hm
    have hfi : I64 (p.r m) := HFIT.out.2 m hm
    unfold I64 at hfi
    simp only [Int.toNat_natCast] at HS2 hnz
    have HGV : Hid (∀ W, Bv W (.slice A nn c) p.f → Calls Try.prog 12 #[.slice A nn c, .agg #[.int .i64 (m : Int), .int .i64 0]] W fun e w' => ∃ u, e = .returned (.tuple #[u, .int .i64 0]) ∧ Bv w' u (giveS p.f ⟨(m : Int), 0⟩).1 ∧ (∀ g, g < W.heap.size → Far u g) ∧ Below W.heap.size W w') := Lib.hid (fun W hW => by
      have := give_o hW HFIT.out.1 ⟨(m : Int), 0⟩ (okB_fits (ok_one (by omega) (by omega)))
      rw [show (giveS p.f ⟨(m : Int), 0⟩).2 = 0 from by rw [HG.out]] at this
      exact this)
    obtain ⟨gl, hgl⟩ : ∃ gl, gl = (giveS p.f ⟨(m : Int), 0⟩).1 := ⟨_, rfl⟩
    rw [← hgl] at HS2 HGV
    clear h0 HS HMZ hr HDG HG hgl
    obtain ⟨rm, hrm⟩ : ∃ rm, rm = p.r m := ⟨_, rfl⟩
    rw [← hrm] at HS2 HAT hnn hfi hnz
    clear hrm
    have hrm1 : 1 ≤ rm := by omega
    clear hnn hnz
    by_cases h1 : 0 < rm - 1
    · have HRES : Hid (rs = ((⟨p.f, updI p.r m (rm - 1)⟩ : Pl), (0 : Int))) := Lib.hid (by rw [HS2.out, if_pos h1])
      have h1' : 1 < rm := by omega
      go_enter Try.func24, Try.ntmps24
      go_wp2_with (first
        | (with_reducible refine alP ?_)
        | ((with_reducible refine ldP w.heap.size ?_ HX0.out HSZ.out ?_); rfl)
        | ((with_reducible refine ldP w.heap.size ?_ HY0.out HV2.out.size ?_); rfl)
        | ((with_reducible refine stPg (w.heap.size + 1) _ ?_ ?_ HY1.out zP_size HV2.out.size HV2.out.one ?_); rfl; rfl)
        | (go_at_call 40
           refine hme.mono ?_
           rintro e w1 ⟨rfl, hb1⟩
           have K1 := Lib.hid (HW0.out.trans (hb1.mono HW0.out.size))
           have X0 := Lib.hid (HX0.out.below hb1)
           have X1 := Lib.hid (HX1.out.below hb1)
           have hg1 : w.heap.size < w1.heap.size := X0.out.lt
           have c1 : w1.cell? ⟨w.heap.size, 1 + m, none⟩ = some (.int .i64 rm) := by rw [X0.out.cell, Nat.add_comm]; exact HAT.out
           have f1 : w1.frozen? ⟨w.heap.size, 1 + m, none⟩ = false := X0.out.free _
           have HV2 : Hid (PlV (w1.setCell ⟨w.heap.size, 1 + m, none⟩ (.int .i64 (rm - 1))) (cs.setIfInBounds (1 + m) (.int .i64 (rm - 1))) ⟨p.f, updI p.r m (rm - 1)⟩) := Lib.hid (((HP.out.below K1.out).set m (rm - 1)).cell (((HP.out.set m (rm - 1)).far (Nat.le_refl _))) _ _)
           have HY0 : Hid (Bx (w1.setCell ⟨w.heap.size, 1 + m, none⟩ (.int .i64 (rm - 1))) w.heap.size 42 (cs.setIfInBounds (1 + m) (.int .i64 (rm - 1)))) := Lib.hid (X0.out.set _ _)
           have HY1 : Hid (Bx (w1.setCell ⟨w.heap.size, 1 + m, none⟩ (.int .i64 (rm - 1))) (w.heap.size + 1) 42 zP) := Lib.hid (X1.out.other (by omega) _ _)
           have HB2 : Hid (Below w.heap.size w (w1.setCell ⟨w.heap.size, 1 + m, none⟩ (.int .i64 (rm - 1)))) := Lib.hid (K1.out.setCell (p := ⟨w.heap.size, 1 + m, none⟩) (Nat.le_refl _) _)
           clear hb1))
      try simp only [Exit.inBlock, Exit.then]
      refine bodyPost_ret (v := .tuple #[.agg (cs.setIfInBounds (1 + m) (.int .i64 (rm - 1))), .int .i64 0]) ?_ rfl ?_
      rotate_left
      · rw [HRES.out]
        exact fin2k HY1.out HV2.out (HP.out.set m (rm - 1) |>.far (by omega)) HB2.out (by omega) (farK_set _ _ _ _)
      · rw [results_cell_tmp rfl]
        simp [asAddr, Result.andThen, Act.put, ldvP (HY1.out.row _) HV2.out.size]
    · have he1 : rm = 1 := by omega
      subst he1
      have HRES : Hid (rs = ((⟨gl, updI p.r m 0⟩ : Pl), (0 : Int))) := Lib.hid (by rw [HS2.out, if_neg h1]; rfl)
      go_enter Try.func24, Try.ntmps24
      go_wp2_with (first
        | (with_reducible refine alP ?_)
        | ((with_reducible refine ldP w.heap.size ?_ HX0.out HSZ.out ?_); rfl)
        | ((with_reducible refine ldP w.heap.size ?_ HY0.out HV2.out.size ?_); rfl)
        | ((with_reducible refine stPg (w.heap.size + 1) _ ?_ ?_ HY1.out zP_size HV2.out.size HV2.out.one ?_); rfl; rfl)
        | (go_at_call 12
           refine (HGV.out _ HBV2.out).mono ?_
           rintro e w2 ⟨u2, rfl, hu2, hf2, hb2⟩
           have K2 := Lib.hid (KS.out.trans (hb2.mono KS.out.size))
           have Y0 := Lib.hid (S0.out.below hb2)
           have Y1 := Lib.hid (S1.out.below hb2)
           have hg2 : w.heap.size < w2.heap.size := Y0.out.lt
           have c2 : w2.cell? ⟨w.heap.size, 0, none⟩ = some (.slice A nn c) := by rw [Y0.out.cell, Array.getElem?_setIfInBounds_ne (by omega)]; exact HV0.out
           have f2 : w2.frozen? ⟨w.heap.size, 0, none⟩ = false := Y0.out.free _
           have HFU := Lib.hid (hf2 w.heap.size S0.out.lt)
           have HFU1 := Lib.hid (hf2 (w.heap.size + 1) S1.out.lt)
           have HFG : Hid (∀ g, g < w.heap.size → Far u2 g) := Lib.hid (fun g hg => hf2 g (Nat.lt_trans hg S0.out.lt))
           have HV2 : Hid (PlV (w2.setCell ⟨w.heap.size, 0, none⟩ u2) ((cs.setIfInBounds (1 + m) (.int .i64 0)).setIfInBounds 0 u2) ⟨gl, updI p.r m 0⟩) := Lib.hid (by
             have q := ((HP.out.below K2.out).set m 0).put hu2
             refine q.cell (fun v hv => ?_) _ _
             rw [Array.getElem?_setIfInBounds_self_of_lt (by rw [Array.size_setIfInBounds, HSZ.out]; omega)] at hv
             cases hv; exact HFU.out)
           have HY0 : Hid (Bx (w2.setCell ⟨w.heap.size, 0, none⟩ u2) w.heap.size 42 ((cs.setIfInBounds (1 + m) (.int .i64 0)).setIfInBounds 0 u2)) := Lib.hid (Y0.out.set _ _)
           have HY1 : Hid (Bx (w2.setCell ⟨w.heap.size, 0, none⟩ u2) (w.heap.size + 1) 42 zP) := Lib.hid (Y1.out.other (by omega) _ _)
           have HB2 : Hid (Below w.heap.size w (w2.setCell ⟨w.heap.size, 0, none⟩ u2)) := Lib.hid (K2.out.setCell (p := ⟨w.heap.size, 0, none⟩) (Nat.le_refl _) _)
           have hone : u2.oneCell' = true := bv_one hu2
           obtain ⟨A2, n2, c2', rfl, _⟩ := hu2
           clear hb2 hf2 c1 c0 f1)
        | (go_at_call 40
           refine hme.mono ?_
           rintro e w1 ⟨rfl, hb1⟩
           have K1 := Lib.hid (HW0.out.trans (hb1.mono HW0.out.size))
           have X0 := Lib.hid (HX0.out.below hb1)
           have X1 := Lib.hid (HX1.out.below hb1)
           have hg1 : w.heap.size < w1.heap.size := X0.out.lt
           have c0 : w1.cell? ⟨w.heap.size, 0, none⟩ = some (.slice A nn c) := by rw [X0.out.cell]; exact HV0.out
           have c1 : w1.cell? ⟨w.heap.size, 1 + m, none⟩ = some (.int .i64 1) := by rw [X0.out.cell, Nat.add_comm]; exact HAT.out
           have f1 : w1.frozen? ⟨w.heap.size, 1 + m, none⟩ = false := X0.out.free _
           have S0 : Hid (Bx (w1.setCell ⟨w.heap.size, 1 + m, none⟩ (.int .i64 0)) w.heap.size 42 (cs.setIfInBounds (1 + m) (.int .i64 0))) := Lib.hid (X0.out.set _ _)
           have S1 : Hid (Bx (w1.setCell ⟨w.heap.size, 1 + m, none⟩ (.int .i64 0)) (w.heap.size + 1) 42 zP) := Lib.hid (X1.out.other (by omega) _ _)
           have KS : Hid (Below w.heap.size w (w1.setCell ⟨w.heap.size, 1 + m, none⟩ (.int .i64 0))) := Lib.hid (K1.out.setCell (p := ⟨w.heap.size, 1 + m, none⟩) (Nat.le_refl _) _)
           have HBV2 : Hid (Bv (w1.setCell ⟨w.heap.size, 1 + m, none⟩ (.int .i64 0)) (.slice A nn c) p.f) := Lib.hid ((HBV.out.below K1.out).cell (Far.old HBV.out (Nat.le_refl _)) _ _)
           clear hb1))
      try simp only [Exit.inBlock, Exit.then]
      refine bodyPost_ret (v := .tuple #[.agg ((cs.setIfInBounds (1 + m) (.int .i64 0)).setIfInBounds 0 (.slice A2 n2 c2')), .int .i64 0]) ?_ rfl ?_
      rotate_left
      · rw [HRES.out]
        refine fin2k HY1.out HV2.out ?_ HB2.out (by omega) ?_
        · intro v hv
          rw [Array.getElem?_setIfInBounds_self_of_lt (by rw [Array.size_setIfInBounds, HSZ.out]; omega)] at hv
          cases hv; exact HFU1.out
        · intro g hg _ v hv
          rw [Array.getElem?_setIfInBounds_self_of_lt (by rw [Array.size_setIfInBounds, HSZ.out]; omega)] at hv
          cases hv; exact HFG.out g hg
      · rw [results_cell_tmp rfl]
        simp [asAddr, Result.andThen, Act.put, ldvP (HY1.out.row _) HV2.out.size]
  · have HRES : Hid (rs = (zeroP, meantP p n)) := Lib.hid (by rw [HS.out, if_neg h0])
    obtain ⟨er, her⟩ : ∃ er, er = meantP p n := ⟨_, rfl⟩
    rw [← her] at hme HRES h0
    have hne : (er != 0) = true := by rw [bne_iff_ne]; exact h0
    clear HS HMZ her HDG
    go_enter Try.func24, Try.ntmps24
    go_wp2_with (first
      | (with_reducible refine alP ?_)
      | (with_reducible refine bdP0 ?_)
      | ((with_reducible refine ldP w.heap.size ?_ HX0.out HSZ.out ?_); rfl)
      | ((with_reducible refine stPg (w.heap.size + 1) zP ?_ ?_ X1.out zP_size zP_size zP_one ?_); rfl; rfl)
      | (go_at_call 40
         refine hme.mono ?_
         rintro e w1 ⟨rfl, hb1⟩
         have K1 := Lib.hid (HW0.out.trans (hb1.mono HW0.out.size))
         have X1 := Lib.hid (HX1.out.below hb1)
         clear hb1))
    try simp only [Exit.inBlock, Exit.then]
    refine bodyPost_ret (v := .tuple #[.agg zP, .int .i64 er]) ?_ rfl ?_
    rotate_left
    · rw [HRES.out]
      exact fin2k X1.out (zP_v _) zP_far K1.out (by omega) (farK_z _ _)
    · rw [results_cell_tmp rfl]
      simp [asAddr, Result.andThen, Act.put, ldvP (X1.out.row _) zP_size]
end Go.Proofs.Ytnbhchfpfbbngaa
