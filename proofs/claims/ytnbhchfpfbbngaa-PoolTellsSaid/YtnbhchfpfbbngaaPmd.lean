/- PoolBack: its walk. -/
import Derived.Test.YtnbhchfpfbbngaaPmc
namespace Go.Proofs.Ytnbhchfpfbbngaa
open Go.ChangeShapes Go.WideShapes Go.ChangeAt Go.RowKit Go.Joins Go.Sort
set_option linter.unusedVariables false
set_option linter.unusedSimpArgs false
/-- A pool in a block of its own. -/
structure Pq (w : World) (g : Nat) (cs : Array Value) (p : Pl) : Prop where
  bx : Bx w g 42 cs
  pv : PlV w cs p
theorem Pq.below {w w' : World} {g : Nat} {cs : Array Value} {p : Pl} (h : Pq w g cs p) (hb : Below w.heap.size w w') : Pq w' g cs p := ⟨h.bx.below hb, h.pv.below hb⟩
theorem Pq.new {w : World} {cs : Array Value} {p : Pl} (h : PlV w cs p) : Pq (w.alloc (.cells cs 42)) w.heap.size cs p := ⟨Bx.new _ _ _, h.below ((Below.refl _ _).alloc (Nat.le_refl _) _)⟩
theorem below1 (w : World) (o : Obj) : Below w.heap.size w (w.alloc o) := (Below.refl _ _).alloc (Nat.le_refl _) _
theorem lst_len {w : World} {cs : Array Value} {p : Pl} (h : PlV w cs p) : ∃ A c, cs[0]? = some (.slice A p.f.length c) := by
  obtain ⟨v, h1, A, n, c, rfl, hr, _⟩ := h.list
  exact ⟨A, c, by rw [h1, hr.1]⟩
set_option maxHeartbeats 8000000 in
set_option maxRecDepth 100000 in
theorem poolBack_v {w : World} {cs : Array Value} {p : Pl} (h : PlV w cs p) (hfi : rFits p) :
    Calls Try.prog 7 #[.agg cs] w fun e w' => e = .returned (.bool true) ∧ Below w.heap.size w w' := by
  have HW0 := Lib.hid (below1 w (.cells cs 42))
  have Q0 := Lib.hid (Pq.new h)
  have HAL := Lib.hid (alive13_v (w.alloc (.cells cs 42)))
  have HT := Lib.hid (fun (W : World) (hv : PlV W cs p) => takeP_v hv hfi.1)
  have HR0 := Lib.hid (fun (W : World) (hv : PlV W cs p) => rightP_v hv hfi.1)
  have HSZ := Lib.hid h.size
  unfold GivesK3 at HT
  by_cases h0 : (takeP p).2.2 = 0
  · have hr : rightP p = true := by
      unfold takeP at h0
      split at h0
      · next h => exact h
      · cases h0
    have ht : (takeS p.f 0).2.2 = 0 := by
      unfold takeP at h0
      rw [if_pos hr] at h0
      split at h0
      · next h => exact h
      · next h => exact absurd h0 h
    obtain ⟨a1, a2, a3, a4, a5, a6⟩ := pool_back hr ht
    obtain ⟨t1, t2, _⟩ := take_free hr ht
    rw [a1] at HT
    obtain ⟨m, hm⟩ := Int.eq_ofNat_of_zero_le t1
    have hm64 : m < 64 := by omega
    rw [hm] at HT a2 a3 a4 a5 a6
    simp only [Int.toNat_natCast] at HT a2 a3 a4 a5 a6
    have f1 : rFits (ofR (updI p.r m 1)) := upd_fits hfi.2 m (by unfold I64; omega)
    have f2 : rFits (ofR (updI p.r m 2)) := upd_fits hfi.2 m (by unfold I64; omega)
    have HS : Hid (∀ (W : World) (cs : Array Value), PlV W cs (ofR (updI p.r m 1)) → _) := Lib.hid (fun W cs h => share_v h f1.1 (m : Int))
    have HD2 : Hid (∀ (W : World) (cs : Array Value), PlV W cs (ofR (updI p.r m 2)) → _) := Lib.hid (fun W cs h => dropP_v h f2 (m : Int))
    have HD1 : Hid (∀ (W : World) (cs : Array Value), PlV W cs (ofR (updI p.r m 1)) → _) := Lib.hid (fun W cs h => dropP_v h f1 (m : Int))
    have HR1 : Hid (∀ (W : World) (cs : Array Value), PlV W cs (ofR (updI p.r m 1)) → _) := Lib.hid (fun W cs h => rightP_v h f1.1)
    have HR2 : Hid (∀ (W : World) (cs : Array Value), PlV W cs (ofR (updI p.r m 2)) → _) := Lib.hid (fun W cs h => rightP_v h f2.1)
    have HM1 : Hid (∀ (W : World) (cs cs' : Array Value), PlV W cs (ofR (updI p.r m 1)) → PlV W cs' (ofR (updI p.r m 1)) → _) := Lib.hid (fun W cs cs' h h' => samePool_v h h' rfl (fun _ _ => rfl) f1.2)
    have HM0 : Hid (∀ (W : World) (cs cs' : Array Value), PlV W cs p → PlV W cs' p → _) := Lib.hid (fun W cs cs' h h' => samePool_v h h' rfl (fun _ _ => rfl) hfi.2)
    unfold GivesK2 at HS HD2 HD1
    rw [a2] at HS
    rw [a3] at HD2
    rw [a4] at HD1
    rw [a6 1 (by omega)] at HR1
    rw [a6 2 (by omega)] at HR2
    have HRM : Hid (cs[m + 1]? = some (.int .i64 0)) := Lib.hid (by rw [h.at_ m hm64, a5])
    clear a1 a2 a3 a4 a5 a6 t1 t2 hm ht h0 hr f1 f2 h hfi
    simp only at HT HS HD2 HD1
    obtain ⟨p1, hp1⟩ : ∃ q, q = ofR (updI p.r m 1) := ⟨_, rfl⟩
    obtain ⟨p2, hp2⟩ : ∃ q, q = ofR (updI p.r m 2) := ⟨_, rfl⟩
    rw [← hp1] at HT HS HD2 HD1 HR1 HM1
    rw [← hp2] at HS HD2 HR2
    clear hp1 hp2
    have hm0 : (0 : Int) ≤ (m : Int) := by omega
    have hmi : (m : Int) < 64 := by omega
    go_enter Try.func7, Try.ntmps7
    go_wp2_with (first
      | (with_reducible refine alP ?_)
      | ((with_reducible refine stPn cs2 ?_ ?_ zP_size V2.out.size V2.out.one ?_); rfl; rfl)
      | ((with_reducible refine stPn cs3 ?_ ?_ zP_size V3.out.size V3.out.one ?_); rfl; rfl)
      | ((with_reducible refine stPn cs4 ?_ ?_ zP_size V4.out.size V4.out.one ?_); rfl; rfl)
      | ((with_reducible refine stPn cs5 ?_ ?_ zP_size V5.out.size V5.out.one ?_); rfl; rfl)
      | ((with_reducible refine ldPg w.heap.size ?_ ?_ Q01.out.bx HSZ.out ?_); rfl; rfl)
      | ((with_reducible refine ldPg w2.heap.size ?_ ?_ Q22.out.bx V2.out.size ?_); rfl; rfl)
      | ((with_reducible refine ldPg w3.heap.size ?_ ?_ Q33.out.bx V3.out.size ?_); rfl; rfl)
      | ((with_reducible refine ldPg w4.heap.size ?_ ?_ Q44.out.bx V4.out.size ?_); rfl; rfl)
      | ((with_reducible refine ldPg w4.heap.size ?_ ?_ Q45.out.bx V4.out.size ?_); rfl; rfl)
      | ((with_reducible refine ldPg w2.heap.size ?_ ?_ Q25.out.bx V2.out.size ?_); rfl; rfl)
      | ((with_reducible refine ldPg w5.heap.size ?_ ?_ Q56.out.bx V5.out.size ?_); rfl; rfl)
      | ((with_reducible refine ldPg w.heap.size ?_ ?_ Q06.out.bx HSZ.out ?_); rfl; rfl)
      | ((with_reducible refine ldPg w2.heap.size ?_ ?_ Q27.out.bx V2.out.size ?_); rfl; rfl)
      | ((with_reducible refine ldPg w3.heap.size ?_ ?_ Q38.out.bx V3.out.size ?_); rfl; rfl)
      | (go_at_call 22; with_reducible refine (HR2.out w8 _ Q38.out.pv).mono ?_
         rintro e w9 ⟨rfl, hb9⟩
         have K9 := Lib.hid (K8.out.trans (hb9.mono K8.out.size))
         clear hb9)
      | (go_at_call 22; with_reducible refine (HR1.out w7 _ Q27.out.pv).mono ?_
         rintro e w8 ⟨rfl, hb8⟩
         have K8 := Lib.hid (K7.out.trans (hb8.mono K7.out.size))
         have Q38 := Lib.hid (Q37.out.below hb8)
         clear hb8)
      | (go_at_call 25; with_reducible refine (HM0.out w6 _ _ Q56.out.pv Q06.out.pv).mono ?_
         rintro e w7 ⟨rfl, hb7⟩
         have K7 := Lib.hid (K6.out.trans (hb7.mono K6.out.size))
         have Q27 := Lib.hid (Q26.out.below hb7)
         have Q37 := Lib.hid (Q36.out.below hb7)
         clear hb7)
      | (go_at_call 25; with_reducible refine (HM1.out _ _ _ Q45.out.pv Q25.out.pv).mono ?_
         rintro e w6 ⟨rfl, hb6⟩
         have K6 := Lib.hid (K5.out.trans (hb6.mono K5.out.size))
         have Q06 := Lib.hid (Q05.out.below hb6)
         have Q26 := Lib.hid (Q25.out.below hb6)
         have Q36 := Lib.hid (Q35.out.below hb6)
         have Q56 := Lib.hid (Q55.out.below hb6)
         clear hb6 hc5)
      | (go_at_call 24; with_reducible refine (HD1.out _ _ Q44.out.pv).mono ?_
         rintro e w5 ⟨cs5, rfl, hv5, hk5, hb5⟩
         have V5 := Lib.hid hv5
         have hA5 := hb5.trans ((below1 w5 (.cells cs5 42)).mono hb5.size)
         have K5 := Lib.hid (K4.out.trans (hA5.mono K4.out.size))
         have Q55 := Lib.hid (Pq.new hv5)
         have Q05 := Lib.hid (Q04.out.below hA5)
         have Q25 := Lib.hid (Q24.out.below hA5)
         have Q35 := Lib.hid (Q34.out.below hA5)
         have Q45 := Lib.hid (Q44.out.below hA5)
         have hc5 : (w5.alloc (.cells cs5 42)).cell? ⟨w.heap.size, 1 + m, none⟩ = some (.int .i64 0) := by rw [Q05.out.bx.cell, Nat.add_comm]; exact HRM.out
         have hz5 : w.heap.size < w5.heap.size := by have := (Q04.out.bx.below hb5).lt; exact this
         clear hv5 hk5 hb5 hA5)
      | (go_at_call 24; with_reducible refine (HD2.out _ _ Q33.out.pv).mono ?_
         rintro e w4 ⟨cs4, rfl, hv4, hk4, hb4⟩
         have V4 := Lib.hid hv4
         have hA4 := hb4.trans ((below1 w4 (.cells cs4 42)).mono hb4.size)
         have K4 := Lib.hid (K3.out.trans (hA4.mono K3.out.size))
         have Q44 := Lib.hid (Pq.new hv4)
         have Q04 := Lib.hid (Q03.out.below hA4)
         have Q24 := Lib.hid (Q23.out.below hA4)
         have Q34 := Lib.hid (Q33.out.below hA4)
         clear hv4 hk4 hb4 hA4)
      | (go_at_call 23; with_reducible refine (HS.out _ _ Q22.out.pv).mono ?_
         rintro e w3 ⟨cs3, rfl, hv3, hk3, hb3⟩
         have V3 := Lib.hid hv3
         have hA3 := hb3.trans ((below1 w3 (.cells cs3 42)).mono hb3.size)
         have K3 := Lib.hid (K2.out.trans (hA3.mono K2.out.size))
         have Q33 := Lib.hid (Pq.new hv3)
         have Q03 := Lib.hid (Q02.out.below hA3)
         have Q23 := Lib.hid (Q22.out.below hA3)
         clear hv3 hk3 hb3 hA3)
      | (go_at_call 21; with_reducible refine (HT.out w1 Q01.out.pv).mono ?_
         rintro e w2 ⟨cs2, rfl, hv2, hk2, hb2⟩
         have V2 := Lib.hid hv2
         have hA2 := hb2.trans ((below1 w2 (.cells cs2 42)).mono hb2.size)
         have K2 := Lib.hid (K1.out.trans (hA2.mono K1.out.size))
         have Q22 := Lib.hid (Pq.new hv2)
         have Q02 := Lib.hid (Q01.out.below hA2)
         clear hv2 hk2 hb2 hA2)
      | (go_at_call 20; with_reducible refine (HAL.out).mono ?_
         rintro e w1 ⟨rfl, hb1⟩
         have K1 := Lib.hid (HW0.out.trans (hb1.mono HW0.out.size))
         have Q01 := Lib.hid (Q0.out.below hb1)
         clear hb1))
    go_ret
    exact ⟨by first | rfl | simp, K9.out⟩
  · obtain ⟨b1, b2⟩ := takeP_bad h0
    rw [b1] at HT
    simp only at HT
    obtain ⟨A, c, hv0⟩ := lst_len h
    have HRC := Lib.hid (fun hr => b2 hr)
    have HV0 := Lib.hid hv0
    clear b1 b2 h0 hfi h hv0
    cases hr : rightP p with
    | true =>
      rw [hr] at HT HR0
      have HL : Hid (cs[0]? = some (.slice A 0 c)) := Lib.hid (by have := HV0.out; rw [HRC.out hr] at this; exact this)
      clear hr HRC HV0
      rw [if_pos rfl] at HT
      go_enter Try.func7, Try.ntmps7
      go_wp2_with (first
        | (with_reducible refine alP ?_)
        | ((with_reducible refine stPn cs2 ?_ ?_ zP_size V2.out.size V2.out.one ?_); rfl; rfl)
        | ((with_reducible refine ldPg w.heap.size ?_ ?_ Q01.out.bx HSZ.out ?_); rfl; rfl)
        | (go_at_call 21; with_reducible refine (HT.out w1 Q01.out.pv).mono ?_
           rintro e w2 ⟨cs2, rfl, hv2, hk2, hb2⟩
           have V2 := Lib.hid hv2
           have hA2 := hb2.trans ((below1 w2 (.cells cs2 42)).mono hb2.size)
           have K2 := Lib.hid (K1.out.trans (hA2.mono K1.out.size))
           have Q02 := Lib.hid (Q01.out.below hA2)
           have hc2 : (w2.alloc (.cells cs2 42)).cell? ⟨w.heap.size, 0, none⟩ = some (.slice A 0 c) := by rw [Q02.out.bx.cell]; exact HL.out
           have hc2' : w2.cell? ⟨w.heap.size, 0, none⟩ = some (.slice A 0 c) := by rw [(Q01.out.bx.below hb2).cell]; exact HL.out
           have hz2 : w.heap.size < w2.heap.size := (Q01.out.bx.below hb2).lt
           clear hv2 hk2 hb2 hA2)
        | (go_at_call 20; with_reducible refine HAL.out.mono ?_
           rintro e w1 ⟨rfl, hb1⟩
           have K1 := Lib.hid (HW0.out.trans (hb1.mono HW0.out.size))
           have Q01 := Lib.hid (Q0.out.below hb1)
           clear hb1))
      go_ret
      exact ⟨by first | rfl | simp, K2.out⟩
    | false =>
      rw [hr] at HT HR0
      clear hr HRC HV0
      rw [if_neg Bool.false_ne_true] at HT
      go_enter Try.func7, Try.ntmps7
      go_wp2_with (first
        | (with_reducible refine alP ?_)
        | ((with_reducible refine stPn cs2 ?_ ?_ zP_size V2.out.size V2.out.one ?_); rfl; rfl)
        | ((with_reducible refine ldPg w.heap.size ?_ ?_ Q01.out.bx HSZ.out ?_); rfl; rfl)
        | ((with_reducible refine ldPg w.heap.size ?_ ?_ Q02.out.bx HSZ.out ?_); rfl; rfl)
        | (go_at_call 22; with_reducible refine (HR0.out _ Q02.out.pv).mono ?_
           rintro e w3 ⟨rfl, hb3⟩
           have K3 := Lib.hid (K2.out.trans (hb3.mono K2.out.size))
           clear hb3)
        | (go_at_call 21; with_reducible refine (HT.out w1 Q01.out.pv).mono ?_
           rintro e w2 ⟨cs2, rfl, hv2, hk2, hb2⟩
           have V2 := Lib.hid hv2
           have hA2 := hb2.trans ((below1 w2 (.cells cs2 42)).mono hb2.size)
           have K2 := Lib.hid (K1.out.trans (hA2.mono K1.out.size))
           have Q02 := Lib.hid (Q01.out.below hA2)
           clear hv2 hk2 hb2 hA2)
        | (go_at_call 20; with_reducible refine HAL.out.mono ?_
           rintro e w1 ⟨rfl, hb1⟩
           have K1 := Lib.hid (HW0.out.trans (hb1.mono HW0.out.size))
           have Q01 := Lib.hid (Q0.out.below hb1)
           clear hb1))
      go_ret
      exact ⟨by first | rfl | simp, K3.out⟩
theorem poolBack_walk {w : World} (cs : Array Value) (h : ∃ p, PlV w cs p ∧ rFits p) :
    Calls Try.prog 7 #[.agg cs] w fun e w' => e = .returned (.bool true) ∧ Below w.heap.size w w' := by
  obtain ⟨p, h1, h2⟩ := h
  exact poolBack_v h1 h2
end Go.Proofs.Ytnbhchfpfbbngaa
