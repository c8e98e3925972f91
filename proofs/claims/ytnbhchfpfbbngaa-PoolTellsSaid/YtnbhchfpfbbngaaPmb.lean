/- The reference: MChange. -/
import Derived.Test.YtnbhchfpfbbngaaPma
namespace Go.Proofs.Ytnbhchfpfbbngaa
open Go.ChangeShapes Go.WideShapes Go.ChangeAt Go.RowKit Go.Joins
set_option linter.unusedVariables false
set_option linter.unusedSimpArgs false
theorem mchangeP_eq (p : Pl) (n by' : Int) : mchangeP p n by' = if rightP p then (if 0 ≤ n ∧ n < 64 ∧ p.r n.toNat ≠ 0 then (if 0 < by' ∧ 4 ≤ p.r n.toNat then ((zeroP, 4) : Pl × Int) else (ofR (updI p.r n.toNat (p.r n.toNat + by')), 0)) else (zeroP, 3)) else (zeroP, 1) := rfl
set_option maxHeartbeats 8000000 in
set_option maxRecDepth 100000 in
theorem mchange_v {w : World} {cs : Array Value} {p : Pl} (h : PlV w cs p) (hfi : rFits p) (n by' : Int) (hb1 : -1 ≤ by') (hb2 : by' ≤ 1) :
    Calls Try.prog 27 #[.agg cs, .int .i64 n, .int .i64 by'] w (GivesP2 w (mchangeP p n by')) := by
  have hA := (Below.refl w.heap.size w).alloc (Nat.le_refl _) (.cells cs 42)
  have HW0 := Lib.hid (hA.alloc hA.size (.cells zP 42))
  have HE : Hid ((w.alloc (.cells cs 42)).heap.size = w.heap.size + 1) := Lib.hid (by simp)
  have HX1 : Hid (Bx ((w.alloc (.cells cs 42)).alloc (.cells zP 42)) (w.heap.size + 1) 42 zP) := Lib.hid (by rw [← HE.out]; exact Bx.new _ _ _)
  have HX0 := Lib.hid ((Bx.new w 42 cs).below ((Below.refl _ _).alloc (Nat.le_refl _) (.cells zP 42)))
  have HP := Lib.hid h
  have HSZ := Lib.hid h.size
  have hri := mright_v (h.below HW0.out)
  have HS := Lib.hid (mchangeP_eq p n by')
  have HR := Lib.hid h.refs
  have HFI := Lib.hid hfi.2
  have HNN := Lib.hid (fun hr => (rightP_iff (p := p).1 hr).1)
  obtain ⟨rs, hrs⟩ : ∃ rs, rs = cs.extract 1 65 := ⟨_, rfl⟩
  have HEX : Hid (∀ i v, rs[i]? = some v → cs[1 + i]? = some v) := Lib.hid (by rw [hrs]; exact ext_at cs)
  rw [← hrs] at HR
  clear h hA hrs hfi
  generalize mchangeP p n by' = res at *
  cases hr : rightP p with
  | false =>
    rw [hr] at hri
    have HRES : Hid (res = (zeroP, (1 : Int))) := Lib.hid (by rw [HS.out, hr]; rfl)
    clear hr HS HNN HFI HEX HR
    go_enter Try.func27, Try.ntmps27
    go_wp2_with (first
      | (with_reducible refine alP ?_)
      | (with_reducible refine bdP0 ?_)
      | ((with_reducible refine ldP w.heap.size ?_ HX0.out HSZ.out ?_); rfl)
      | ((with_reducible refine stPg (w.heap.size + 1) zP ?_ ?_ X1.out zP_size zP_size zP_one ?_); rfl; rfl)
      | (go_at_call 30
         refine hri.mono ?_
         rintro e w1 ⟨rfl, hb1⟩
         have K1 := Lib.hid (HW0.out.trans (hb1.mono HW0.out.size))
         have X1 := Lib.hid (HX1.out.below hb1)
         clear hb1))
    try simp only [Exit.inBlock, Exit.then]
    refine bodyPost_ret (v := .tuple #[.agg zP, .int .i64 1]) ?_ rfl ?_
    rotate_left
    · rw [HRES.out]
      exact fin2 X1.out (zP_v _) zP_far K1.out (by omega)
    · rw [results_cell_tmp rfl]
      simp [asAddr, Result.andThen, Act.put, ldvP (X1.out.row _) zP_size]
  | true =>
    rw [hr] at hri
    have HS2 : Hid (res = if 0 ≤ n ∧ n < 64 ∧ p.r n.toNat ≠ 0 then (if 0 < by' ∧ 4 ≤ p.r n.toNat then ((zeroP, 4) : Pl × Int) else (ofR (updI p.r n.toNat (p.r n.toNat + by')), 0)) else (zeroP, 3)) := Lib.hid (by rw [HS.out, hr, if_pos rfl])
    have HNN2 := Lib.hid (HNN.out hr)
    clear hr HS HNN
    by_cases h1 : n < 0
    · have HRES : Hid (res = (zeroP, (3 : Int))) := Lib.hid (by rw [HS2.out, if_neg (by omega)])
      have hd : decide (n < 0) = true := decide_eq_true h1
      clear HS2
      go_enter Try.func27, Try.ntmps27
      go_wp2_with (first
        | (with_reducible refine alP ?_)
        | (with_reducible refine bdP0 ?_)
        | ((with_reducible refine ldP w.heap.size ?_ HX0.out HSZ.out ?_); rfl)
        | ((with_reducible refine stPg (w.heap.size + 1) zP ?_ ?_ X1.out zP_size zP_size zP_one ?_); rfl; rfl)
        | (go_at_call 30
           refine hri.mono ?_
           rintro e w1 ⟨rfl, hb1⟩
           have K1 := Lib.hid (HW0.out.trans (hb1.mono HW0.out.size))
           have X1 := Lib.hid (HX1.out.below hb1)
           clear hb1))
      try simp only [Exit.inBlock, Exit.then]
      refine bodyPost_ret (v := .tuple #[.agg zP, .int .i64 3]) ?_ rfl ?_
      rotate_left
      · rw [HRES.out]
        exact fin2 X1.out (zP_v _) zP_far K1.out (by omega)
      · rw [results_cell_tmp rfl]
        simp [asAddr, Result.andThen, Act.put, ldvP (X1.out.row _) zP_size]
    by_cases h2 : 63 < n
    · have HRES : Hid (res = (zeroP, (3 : Int))) := Lib.hid (by rw [HS2.out, if_neg (by omega)])
      have hd : decide (n < 0) = false := decide_eq_false h1
      have hd2 : decide (63 < n) = true := decide_eq_true h2
      clear HS2
      go_enter Try.func27, Try.ntmps27
      go_wp2_with (first
        | (with_reducible refine alP ?_)
        | (with_reducible refine bdP0 ?_)
        | ((with_reducible refine ldP w.heap.size ?_ HX0.out HSZ.out ?_); rfl)
        | ((with_reducible refine stPg (w.heap.size + 1) zP ?_ ?_ X1.out zP_size zP_size zP_one ?_); rfl; rfl)
        | (go_at_call 30
           refine hri.mono ?_
           rintro e w1 ⟨rfl, hb1⟩
           have K1 := Lib.hid (HW0.out.trans (hb1.mono HW0.out.size))
           have X1 := Lib.hid (HX1.out.below hb1)
           clear hb1))
      try simp only [Exit.inBlock, Exit.then]
      refine bodyPost_ret (v := .tuple #[.agg zP, .int .i64 3]) ?_ rfl ?_
      rotate_left
      · rw [HRES.out]
        exact fin2 X1.out (zP_v _) zP_far K1.out (by omega)
      · rw [results_cell_tmp rfl]
        simp [asAddr, Result.andThen, Act.put, ldvP (X1.out.row _) zP_size]
    obtain ⟨m, rfl⟩ := Int.eq_ofNat_of_zero_le (show 0 ≤ n by omega)
    have hm : m < 64 := by omega
    have hm0 : (0 : Int) ≤ (m : Int) := by omega
    have hm64 : (m : Int) < 64 := by omega
    have hm63 : (m : Int) ≤ 63 := by omega
    have HAT := Lib.hid (HP.out.at_ m hm)
    have HRM := Lib.hid (HR.out.at_ m hm)
    have HSETx := Lib.hid (fun (x : Int) => HR.out.set m x)
    have hfi := HFI.out m hm
    have hnn := HNN2.out m hm
    unfold I64 at hfi
    simp only [Int.toNat_natCast] at HS2
    obtain ⟨rm, hrm⟩ : ∃ rm, rm = p.r m := ⟨_, rfl⟩
    rw [← hrm] at HS2 HAT HRM hfi hnn
    clear hrm HFI HNN2
    have HSET := Lib.hid (HSETx.out (rm + by'))
    have HMF := Lib.hid (fun (W : World) => mof_v (w := W) HSET.out)
    clear HSETx
    by_cases h0 : rm = 0
    · have HRES : Hid (res = (zeroP, (3 : Int))) := Lib.hid (by rw [HS2.out, if_neg (by omega)])
      subst h0
      clear HS2
      go_enter Try.func27, Try.ntmps27
      go_wp2_with (first
        | (with_reducible refine alP ?_)
        | (with_reducible refine bdP0 ?_)
        | ((with_reducible refine ldP w.heap.size ?_ HX0.out HSZ.out ?_); rfl)
        | ((with_reducible refine stPg (w.heap.size + 1) zP ?_ ?_ X1.out zP_size zP_size zP_one ?_); rfl; rfl)
        | (go_at_call 30
           refine hri.mono ?_
           rintro e w1 ⟨rfl, hb1⟩
           have K1 := Lib.hid (HW0.out.trans (hb1.mono HW0.out.size))
           have X1 := Lib.hid (HX1.out.below hb1)
           have X0 := Lib.hid (HX0.out.below hb1)
           have hg1 : w.heap.size < w1.heap.size := X0.out.lt
           have c1 : w1.cell? ⟨w.heap.size, 1 + m, none⟩ = some (.int .i64 0) := by rw [X0.out.cell, Nat.add_comm]; exact HAT.out
           clear hb1))
      try simp only [Exit.inBlock, Exit.then]
      refine bodyPost_ret (v := .tuple #[.agg zP, .int .i64 3]) ?_ rfl ?_
      rotate_left
      · rw [HRES.out]
        exact fin2 X1.out (zP_v _) zP_far K1.out (by omega)
      · rw [results_cell_tmp rfl]
        simp [asAddr, Result.andThen, Act.put, ldvP (X1.out.row _) zP_size]
    have hq0 : (rm == 0) = false := by rw [beq_eq_false_iff_ne]; exact h0
    have HS3 : Hid (res = if 0 < by' ∧ 4 ≤ rm then ((zeroP, 4) : Pl × Int) else (ofR (updI p.r m (rm + by')), 0)) := Lib.hid (by rw [HS2.out, if_pos ⟨hm0, hm64, h0⟩])
    clear HS2
    by_cases hy : 0 < by'
    · have hdy : decide (0 < by') = true := decide_eq_true hy
      by_cases h4 : 4 ≤ rm
      · have hd4 : decide (4 ≤ rm) = true := decide_eq_true h4
        have HRES : Hid (res = (zeroP, (4 : Int))) := Lib.hid (by rw [HS3.out, if_pos ⟨hy, h4⟩])
        clear HS3
        go_enter Try.func27, Try.ntmps27
        go_wp2_with (first
          | (with_reducible refine alP ?_)
          | (with_reducible refine bdP0 ?_)
          | ((with_reducible refine ldP w.heap.size ?_ HX0.out HSZ.out ?_); rfl)
          | ((with_reducible refine stPg (w.heap.size + 1) zP ?_ ?_ X1.out zP_size zP_size zP_one ?_); rfl; rfl)
          | (go_at_call 30
             refine hri.mono ?_
             rintro e w1 ⟨rfl, hb1⟩
             have K1 := Lib.hid (HW0.out.trans (hb1.mono HW0.out.size))
             have X1 := Lib.hid (HX1.out.below hb1)
             have X0 := Lib.hid (HX0.out.below hb1)
             have hg1 : w.heap.size < w1.heap.size := X0.out.lt
             have c1 : w1.cell? ⟨w.heap.size, 1 + m, none⟩ = some (.int .i64 rm) := by rw [X0.out.cell, Nat.add_comm]; exact HAT.out
             clear hb1))
        try simp only [Exit.inBlock, Exit.then]
        refine bodyPost_ret (v := .tuple #[.agg zP, .int .i64 4]) ?_ rfl ?_
        rotate_left
        · rw [HRES.out]
          exact fin2 X1.out (zP_v _) zP_far K1.out (by omega)
        · rw [results_cell_tmp rfl]
          simp [asAddr, Result.andThen, Act.put, ldvP (X1.out.row _) zP_size]
      · have hd4 : decide (4 ≤ rm) = false := decide_eq_false h4
        have HRES : Hid (res = (ofR (updI p.r m (rm + by')), (0 : Int))) := Lib.hid (by rw [HS3.out, if_neg (by omega)])
        have hs1 : (-9223372036854775808 : Int) ≤ rm + by' := by omega
        have hs2 : rm + by' ≤ 9223372036854775807 := by omega
        clear HS3
        go_enter Try.func27, Try.ntmps27
        go_wp2_with (first
          | (with_reducible refine alP ?_)
          | (with_reducible refine alR ?_)
          | ((with_reducible refine ldP w.heap.size ?_ HX0.out HSZ.out ?_); rfl)
          | ((with_reducible refine ldRg w.heap.size 1 rs ?_ ?_ X0.out HEX.out HR.out.size ?_); rfl; rfl)
          | ((with_reducible refine stRn rs ?_ ?_ zR_v.size HR.out.size HR.out.one ?_); rfl; rfl)
          | ((with_reducible refine ldRg w1.heap.size 0 (rs.setIfInBounds m (.int .i64 (rm + by'))) ?_ ?_ Y2.out (fun i v h => by rw [Nat.zero_add]; exact h) HSET.out.size ?_); rfl; rfl)
          | ((with_reducible refine stPg (w.heap.size + 1) _ ?_ ?_ Z1.out zP_size HV4.out.size HV4.out.one ?_); rfl; rfl)
          | (go_at_call 29
             refine (HMF.out _).mono ?_
             rintro e w4 ⟨cs4, rfl, hv4, hf4, hb4⟩
             have HV4 := Lib.hid hv4
             have HF4 := Lib.hid (hf4 (w.heap.size + 1) Y3.out.lt)
             have K4 := Lib.hid (K3.out.trans (hb4.mono K3.out.size))
             have Z1 := Lib.hid (Y3.out.below hb4)
             clear hv4 hf4 hb4)
          | (go_at_call 30
             refine hri.mono ?_
             rintro e w1 ⟨rfl, hb1⟩
             have K1 := Lib.hid (HW0.out.trans (hb1.mono HW0.out.size))
             have X0 := Lib.hid (HX0.out.below hb1)
             have X1 := Lib.hid (HX1.out.below hb1)
             have hg1 : w.heap.size < w1.heap.size := X0.out.lt
             have c1 : w1.cell? ⟨w.heap.size, 1 + m, none⟩ = some (.int .i64 rm) := by rw [X0.out.cell, Nat.add_comm]; exact HAT.out
             have hA3 := (Below.refl w1.heap.size w1).alloc (Nat.le_refl _) (.cells (rs.setIfInBounds m (.int .i64 (rm + by'))) 40)
             have Y2 := Lib.hid (Bx.new w1 40 (rs.setIfInBounds m (.int .i64 (rm + by'))))
             have Y3 := Lib.hid (X1.out.below hA3)
             have K3 := Lib.hid (K1.out.trans (hA3.mono K1.out.size))
             have hcr : rs[m]? = some (.int .i64 rm) := HRM.out
             clear hb1 hA3))
        try simp only [Exit.inBlock, Exit.then]
        refine bodyPost_ret (v := .tuple #[.agg cs4, .int .i64 0]) ?_ rfl ?_
        rotate_left
        · rw [HRES.out]
          exact fin2 (r := (ofR (updI p.r m (rm + by')), (0 : Int))) Z1.out HV4.out HF4.out K4.out (by omega)
        · rw [results_cell_tmp rfl]
          simp [asAddr, Result.andThen, Act.put, ldvP (Z1.out.row _) HV4.out.size]
    · have hdy : decide (0 < by') = false := decide_eq_false hy
      have HRES : Hid (res = (ofR (updI p.r m (rm + by')), (0 : Int))) := Lib.hid (by rw [HS3.out, if_neg (by omega)])
      have hs1 : (-9223372036854775808 : Int) ≤ rm + by' := by omega
      have hs2 : rm + by' ≤ 9223372036854775807 := by omega
      clear HS3
      go_enter Try.func27, Try.ntmps27
      go_wp2_with (first
        | (with_reducible refine alP ?_)
        | (with_reducible refine alR ?_)
        | ((with_reducible refine ldP w.heap.size ?_ HX0.out HSZ.out ?_); rfl)
        | ((with_reducible refine ldRg w.heap.size 1 rs ?_ ?_ X0.out HEX.out HR.out.size ?_); rfl; rfl)
        | ((with_reducible refine stRn rs ?_ ?_ zR_v.size HR.out.size HR.out.one ?_); rfl; rfl)
        | ((with_reducible refine ldRg w1.heap.size 0 (rs.setIfInBounds m (.int .i64 (rm + by'))) ?_ ?_ Y2.out (fun i v h => by rw [Nat.zero_add]; exact h) HSET.out.size ?_); rfl; rfl)
        | ((with_reducible refine stPg (w.heap.size + 1) _ ?_ ?_ Z1.out zP_size HV4.out.size HV4.out.one ?_); rfl; rfl)
        | (go_at_call 29
           refine (HMF.out _).mono ?_
           rintro e w4 ⟨cs4, rfl, hv4, hf4, hb4⟩
           have HV4 := Lib.hid hv4
           have HF4 := Lib.hid (hf4 (w.heap.size + 1) Y3.out.lt)
           have K4 := Lib.hid (K3.out.trans (hb4.mono K3.out.size))
           have Z1 := Lib.hid (Y3.out.below hb4)
           clear hv4 hf4 hb4)
        | (go_at_call 30
           refine hri.mono ?_
           rintro e w1 ⟨rfl, hb1⟩
           have K1 := Lib.hid (HW0.out.trans (hb1.mono HW0.out.size))
           have X0 := Lib.hid (HX0.out.below hb1)
           have X1 := Lib.hid (HX1.out.below hb1)
           have hg1 : w.heap.size < w1.heap.size := X0.out.lt
           have c1 : w1.cell? ⟨w.heap.size, 1 + m, none⟩ = some (.int .i64 rm) := by rw [X0.out.cell, Nat.add_comm]; exact HAT.out
           have hA3 := (Below.refl w1.heap.size w1).alloc (Nat.le_refl _) (.cells (rs.setIfInBounds m (.int .i64 (rm + by'))) 40)
           have Y2 := Lib.hid (Bx.new w1 40 (rs.setIfInBounds m (.int .i64 (rm + by'))))
           have Y3 := Lib.hid (X1.out.below hA3)
           have K3 := Lib.hid (K1.out.trans (hA3.mono K1.out.size))
           have hcr : rs[m]? = some (.int .i64 rm) := HRM.out
           clear hb1 hA3))
      try simp only [Exit.inBlock, Exit.then]
      refine bodyPost_ret (v := .tuple #[.agg cs4, .int .i64 0]) ?_ rfl ?_
      rotate_left
      · rw [HRES.out]
        exact fin2 (r := (ofR (updI p.r m (rm + by')), (0 : Int))) Z1.out HV4.out HF4.out K4.out (by omega)
      · rw [results_cell_tmp rfl]
        simp [asAddr, Result.andThen, Act.put, ldvP (Z1.out.row _) HV4.out.size]
end Go.Proofs.Ytnbhchfpfbbngaa
