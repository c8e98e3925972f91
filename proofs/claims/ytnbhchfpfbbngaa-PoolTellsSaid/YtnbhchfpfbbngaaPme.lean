/- PoolAll: its walk. -/
import Derived.Test.YtnbhchfpfbbngaaPmd
namespace Go.Proofs.Ytnbhchfpfbbngaa
open Go.ChangeShapes Go.WideShapes Go.ChangeAt Go.RowKit Go.Joins Go.Sort
set_option linter.unusedVariables false
set_option linter.unusedSimpArgs false
theorem takeP_fits {p : Pl} (h : rFits p) : rFits (takeP p).1 := by
  unfold takeP
  have hz : rFits zeroP := ⟨(by simp [zeroP]), fun n hn => by unfold zeroP I64; simp⟩
  split
  · split
    · refine ⟨rp_fits (takeS_rp _ _), fun n hn => ?_⟩
      show I64 (updI p.r _ 1 n)
      unfold updI
      split
      · unfold I64; omega
      · exact h.2 n hn
    · exact hz
  · exact hz
theorem freeN_nonneg (r : Nat → Int) : 0 ≤ freeN r := cnt_nonneg' _ _
theorem freeN_le (r : Nat → Int) : freeN r ≤ 64 := cnt_le _ _
theorem cnt_succ (q : Nat → Bool) (n : Nat) : cnt q (n + 1) = cnt q n + if q n then 1 else 0 := rfl
set_option maxHeartbeats 8000000 in
set_option maxRecDepth 100000 in
theorem poolAll_v {w : World} {cs : Array Value} {p : Pl} (h : PlV w cs p) (hfi : rFits p) :
    Calls Try.prog 8 #[.agg cs] w fun e w' => e = .returned (.bool true) ∧ Below w.heap.size w w' := by
  have HW0 := Lib.hid (below1 w (.cells cs 42))
  have Q0 := Lib.hid (Pq.new h)
  have HAL := Lib.hid (alive13_v (w.alloc (.cells cs 42)))
  have HR0 := Lib.hid (fun (W : World) (hv : PlV W cs p) => rightP_v hv hfi.1)
  have HSZ := Lib.hid h.size
  have HFI := Lib.hid hfi
  have HFC : Hid (∀ v, cs[0]? = some v → Far v w.heap.size) := Lib.hid (h.far (Nat.le_refl _))
  have HRF := Lib.hid h.refs
  obtain ⟨rs, hrs⟩ : ∃ rs, rs = cs.extract 1 65 := ⟨_, rfl⟩
  have HEX : Hid (∀ i v, rs[i]? = some v → cs[1 + i]? = some v) := Lib.hid (by rw [hrs]; exact ext_at cs)
  rw [← hrs] at HRF
  have HTK := Lib.hid (fun (W : World) (c : Array Value) (q : Pl) (hv : PlV W c q) (hf : rFits q) => takeP_v hv hf.1)
  clear h hfi hrs
  cases hr : rightP p with
  | false =>
    rw [hr] at HR0
    clear hr
    go_enter Try.func8, Try.ntmps8
    go_wp2_with (first
      | ((with_reducible refine ldPg w.heap.size ?_ ?_ Q01.out.bx HSZ.out ?_); rfl; rfl)
      | (go_at_call 22; with_reducible refine (HR0.out _ Q01.out.pv).mono ?_
         rintro e w2 ⟨rfl, hb2⟩
         have K2 := Lib.hid (K1.out.trans (hb2.mono K1.out.size))
         clear hb2)
      | (go_at_call 20; with_reducible refine HAL.out.mono ?_
         rintro e w1 ⟨rfl, hb1⟩
         have K1 := Lib.hid (HW0.out.trans (hb1.mono HW0.out.size))
         have Q01 := Lib.hid (Q0.out.below hb1)
         clear hb1))
    go_ret
    exact ⟨by first | rfl | simp, K2.out⟩
  | true =>
    rw [hr] at HR0
    have HRP := Lib.hid hr
    have HFN : Hid (freeN p.r = cnt (fun n => p.r n == 0) 64) := Lib.hid rfl
    clear hr
    go_enter Try.func8, Try.ntmps8
    go_wp2_with (first
      | ((with_reducible refine ldPg w.heap.size ?_ ?_ Q01.out.bx HSZ.out ?_); rfl; rfl)
      | ((with_reducible refine ldRg w.heap.size 1 rs ?_ ?_ Q02.out.bx HEX.out HRF.out.size ?_); rfl; rfl)
      | (go_at_call 22; with_reducible refine (HR0.out _ Q01.out.pv).mono ?_
         rintro e w2 ⟨rfl, hb2⟩
         have K2 := Lib.hid (K1.out.trans (hb2.mono K1.out.size))
         have Q02 := Lib.hid (Q01.out.below hb2)
         clear hb2)
      | (go_at_call 20; with_reducible refine HAL.out.mono ?_
         rintro e w1 ⟨rfl, hb1⟩
         have K1 := Lib.hid (HW0.out.trans (hb1.mono HW0.out.size))
         have Q01 := Lib.hid (Q0.out.below hb1)
         clear hb1))
    go_loop [3, 19] (fun v3 i => ∃ k : Nat, k ≤ 64 ∧ i = .int .i64 k ∧ v3 = .int .i64 (cnt (fun n => p.r n == 0) k)) (fun _ i => 64 - (intOf i).toNat)
    case atStart => exact ⟨0, by omega, rfl, rfl⟩
    case round =>
      obtain ⟨k, hk, rfl, rfl⟩ := hrel
      by_cases hlt : k < 64
      · have hidx := run_idxR HRF.out hlt
        have hk0 : (0 : Int) ≤ (k : Int) := by omega
        have hk64 : (k : Int) < 64 := by omega
        have HC := Lib.hid (cnt_succ (fun n => p.r n == 0) k)
        have hc0 := cnt_nonneg' (fun n => p.r n == 0) k
        have hc1 := cnt_le (fun n => p.r n == 0) k
        generalize cnt (fun n => p.r n == 0) k = c at *
        obtain ⟨rk, hrk⟩ : ∃ r, r = p.r k := ⟨_, rfl⟩
        rw [← hrk] at hidx HC
        clear hrk
        by_cases h0 : rk = 0
        · subst h0
          go_wp2
          go_round
          case rel => exact ⟨k + 1, by omega, by go_num, by rw [HC.out]; simp⟩
          case measure => simp [intOf]; omega
        · have hq0 : (rk == 0) = false := by rw [beq_eq_false_iff_ne]; exact h0
          go_wp2
          go_round
          case rel => exact ⟨k + 1, by omega, by go_num, by rw [HC.out, hq0]; simp⟩
          case measure => simp [intOf]; omega
      · have hk64 : k = 64 := by omega
        subst hk64
        have hfn0 := freeN_nonneg p.r
        have hfn1 := freeN_le p.r
        have hfe := HFN.out
        rw [← hfe]
        clear hfe
        have HF0 : Hid (freeN p.r = freeN p.r - ((0 : Nat) : Int)) := Lib.hid (by simp)
        obtain ⟨want, hwant⟩ : ∃ n : Nat, freeN p.r = n := ⟨(freeN p.r).toNat, by omega⟩
        rw [hwant] at hfn0 hfn1
        have HWA := Lib.hid hwant
        have hw64 : want ≤ 64 := by omega
        simp only [hwant]
        clear hwant HFN HEX HRF HF0
        have hz2 : w.heap.size < w2.heap.size := Q02.out.bx.lt
        go_wp2
        go_loopw [6, 7, 8, 28] (fun _ _ _ i wr => ∃ (k : Nat) (c : Array Value) (q : Pl), k ≤ want ∧ i = .int .i64 k ∧ Hid (rightP q = true) ∧ Hid (rFits q) ∧ Hid (freeN q.r = want - k) ∧ Hid (Pq wr w.heap.size c q) ∧ Hid (∀ v, c[0]? = some v → Far v w.heap.size) ∧ Hid (Below w.heap.size w wr)) (fun _ _ _ i _ => want - (intOf i).toNat)
        case atStart => exact ⟨0, cs, p, by omega, rfl, HRP, HFI, Lib.hid (by rw [HWA.out]; simp), Q02, HFC, K2⟩
        case round =>
          obtain ⟨k, c, q, hk, rfl, HRQ, HFQ, HNQ, HQ, HFR, HB⟩ := hrel
          have hszr := HB.out.size
          have hsc := HQ.out.pv.size
          have HSC := Lib.hid hsc
          clear hsc
          have HT := Lib.hid (HTK.out wr c q HQ.out.pv HFQ.out)
          unfold GivesK3 at HT
          have hzr : w.heap.size < wr.heap.size := HQ.out.bx.lt
          by_cases hlt : k < want
          · obtain ⟨s0, s1, s2, s3, s4, s5, s6, s7⟩ := all_step HRQ.out (by rw [HNQ.out]; omega)
            have HF2 := Lib.hid (takeP_fits HFQ.out)
            obtain ⟨m, hm⟩ := Int.eq_ofNat_of_zero_le s4
            have hm64 : m < 64 := by omega
            rw [hm] at s3 s6
            simp only [Int.toNat_natCast] at s3 s6
            have HN2 : Hid (freeN (takeP q).1.r = want - ((k + 1 : Nat) : Int)) := Lib.hid (by rw [s7, HNQ.out]; omega)
            have HR2 := Lib.hid s1
            have HC1 : Hid (c[m + 1]? = some (.int .i64 0)) := Lib.hid (by rw [HQ.out.pv.at_ m hm64, s3])
            have hm0 : (0 : Int) ≤ (m : Int) := by omega
            have hmi : (m : Int) < 64 := by omega
            obtain ⟨tp, htp⟩ : ∃ t, t = takeP q := ⟨_, rfl⟩
            rw [← htp] at HT HF2 HN2 HR2 s2 s6 hm
            obtain ⟨tq, tn, te⟩ := tp
            simp only at HT HF2 HN2 HR2 s2 s6 hm
            subst s2 hm
            have HS6 := Lib.hid s6
            clear s0 s1 s3 s4 s5 s6 s7 htp
            go_wp2_with (first
              | (with_reducible refine alP ?_)
              | ((with_reducible refine stPn c2 ?_ ?_ zP_size V3.out.size V3.out.one ?_); rfl; rfl)
              | ((with_reducible refine stPg w.heap.size c2 ?_ ?_ Q3.out.bx HSC.out V3.out.size V3.out.one ?_); rfl; rfl)
              | ((with_reducible refine ldPg w.heap.size ?_ ?_ HQ.out.bx HSC.out ?_); rfl; rfl)
              | ((with_reducible refine ldPg w3.heap.size ?_ ?_ QN.out.bx V3.out.size ?_); rfl; rfl)
              | (go_at_call 21; with_reducible refine HT.out.mono ?_
                 rintro e w3 ⟨c2, rfl, hv3, hk3, hb3⟩
                 have V3 := Lib.hid hv3
                 have hA3 := hb3.trans ((below1 w3 (.cells c2 42)).mono hb3.size)
                 have K3 := Lib.hid (HB.out.trans (hA3.mono hszr))
                 have Q3 := Lib.hid (HQ.out.below hA3)
                 have QN := Lib.hid (Pq.new hv3)
                 have F3 : Hid (∀ v, c2[0]? = some v → Far v w.heap.size) := Lib.hid (hk3 w.heap.size hzr HFR.out)
                 have cc1 : (w3.alloc (.cells c2 42)).cell? ⟨w.heap.size, 1 + m, none⟩ = some (.int .i64 0) := by rw [Q3.out.bx.cell, Nat.add_comm]; exact HC1.out
                 have cc1' : w3.cell? ⟨w.heap.size, 1 + m, none⟩ = some (.int .i64 0) := by rw [(HQ.out.bx.below hb3).cell, Nat.add_comm]; exact HC1.out
                 have cc2 : c2[1 + m]? = some (.int .i64 1) := by rw [Nat.add_comm, hv3.at_ m hm64, HS6.out]
                 have hz3 : w.heap.size < w3.heap.size := (HQ.out.bx.below hb3).lt
                 clear hv3 hk3 hb3 hA3))
            go_roundw
            case rel => exact ⟨k + 1, c2, tq, by omega, by go_num, HR2, HF2, HN2, Lib.hid ⟨Q3.out.bx.row _, (V3.out.below (below1 w3 (.cells c2 42))).row F3.out _⟩, F3, Lib.hid (below_setRow K3.out (Nat.le_refl _) _)⟩
            case measure => simp [intOf]; omega
          · have hke : k = want := by omega
            subst hke
            have he := all_end HRQ.out (by rw [HNQ.out]; omega)
            rw [he] at HT
            simp only at HT
            clear he
            go_wp2_with (first
              | (with_reducible refine alP ?_)
              | ((with_reducible refine stPn c2 ?_ ?_ zP_size V3.out.size V3.out.one ?_); rfl; rfl)
              | ((with_reducible refine ldPg w.heap.size ?_ ?_ HQ.out.bx HSC.out ?_); rfl; rfl)
              | (go_at_call 21; with_reducible refine HT.out.mono ?_
                 rintro e w3 ⟨c2, rfl, hv3, hk3, hb3⟩
                 have V3 := Lib.hid hv3
                 have hA3 := hb3.trans ((below1 w3 (.cells c2 42)).mono hb3.size)
                 have K3 := Lib.hid (HB.out.trans (hA3.mono hszr))
                 clear hv3 hk3 hb3 hA3))
            go_ret
            exact ⟨by first | rfl | simp, K3.out⟩
theorem poolAll_walk {w : World} (cs : Array Value) (h : ∃ p, PlV w cs p ∧ rFits p) :
    Calls Try.prog 8 #[.agg cs] w fun e w' => e = .returned (.bool true) ∧ Below w.heap.size w w' := by
  obtain ⟨p, h1, h2⟩ := h
  exact poolAll_v h1 h2
end Go.Proofs.Ytnbhchfpfbbngaa
