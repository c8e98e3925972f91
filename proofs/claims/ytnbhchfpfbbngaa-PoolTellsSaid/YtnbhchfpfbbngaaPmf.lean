/- PoolTells: its walk. -/
import Derived.Test.YtnbhchfpfbbngaaPme
namespace Go.Proofs.Ytnbhchfpfbbngaa
open Go.ChangeShapes Go.WideShapes Go.ChangeAt Go.RowKit Go.Joins Go.Sort
set_option linter.unusedVariables false
set_option linter.unusedSimpArgs false
attribute [local go_sem] Oper.quiet Oper.quietAt Oper.quietUpon
theorem zero_fits : rFits zeroP := ⟨(by simp [zeroP]), fun n hn => by unfold zeroP I64; simp⟩
theorem shareP_fits {p : Pl} (h : rFits p) (n : Int) : rFits (shareP p n).1 := by
  unfold shareP
  split
  · next h0 =>
    obtain ⟨hr, _, _, _⟩ := meant_zero h0
    split
    · refine ⟨h.1, fun k hk => ?_⟩
      show I64 (updI p.r _ _ k)
      unfold updI
      split
      · next e => subst e; have := (rightP_iff.1 hr).1 _ hk; unfold I64; omega
      · exact h.2 k hk
    · exact zero_fits
  · exact zero_fits
theorem dropP_fits {p : Pl} (h : rFits p) (n : Int) : rFits (dropP p n).1 := by
  have key : meantP p n = 0 → ∀ k, k < 64 → I64 (updI p.r n.toNat (p.r n.toNat - 1) k) := fun h0 k hk => by
    obtain ⟨hr, h1, h2, h3⟩ := meant_zero h0
    unfold updI
    split
    · next e => subst e; have := (rightP_iff.1 hr).1 _ hk; have := h.2 _ hk; unfold I64 at *; omega
    · exact h.2 k hk
  unfold dropP
  split
  · next h0 =>
    split
    · exact ⟨h.1, key h0⟩
    · exact ⟨rp_fits (giveS_rp _ _), key h0⟩
  · exact zero_fits
theorem run_bdR0 (w : World) : (Instr.build 40 #[]).run Try.prog w = .ok (.agg zR) w := by
  unfold Instr.build
  simp [Sem.run_bind, zvR, run_underlying Try.underlying40, Result.andThen, go_sem, Instr.fill, Value.cells]
  rfl
theorem ex_bd0 {P : Program} {dst : Option Tmp} {type : TypeId} {pos : String} {after : Array Edge} {guard : Option (Nat × Bool)} {a : Act} {w : World} {T : TypeId} {v : Value} (h : (Instr.build T #[]).run P w = .ok v w) : (execOp a.eval ⟨dst, .build T #[], type, pos, after, guard⟩).run P w = .ok (.value v) w := by
  unfold execOp
  simp only [List.map_toArray, List.map_nil, Sem.run_bind, h, Result.andThen_ok, Sem.run_pure]
set_option maxHeartbeats 16000000 in
set_option maxRecDepth 100000 in
theorem poolTells_v {w : World} {cs : Array Value} {p : Pl} (h : PlV w cs p) (hfi : rFits p) (n : Int) :
    Calls Try.prog 9 #[.agg cs, .int .i64 n] w fun e w' => e = .returned (.bool true) ∧ Below w.heap.size w w' := by
  have HW0 := Lib.hid (below1 w (.cells cs 42))
  have Q00 := Lib.hid (Pq.new h)
  have HSZ := Lib.hid h.size
  have HT := Lib.hid (fun (W : World) (hv : PlV W cs p) => takeP_v hv hfi.1)
  have HMT := Lib.hid (fun (W : World) (hv : PlV W cs p) => mtake_v hv)
  have HS := Lib.hid (fun (W : World) (hv : PlV W cs p) => share_v hv hfi.1 n)
  have HMS := Lib.hid (fun (W : World) (hv : PlV W cs p) => mchange_v hv hfi n 1 (by omega) (by omega))
  have HD := Lib.hid (fun (W : World) (hv : PlV W cs p) => dropP_v hv hfi n)
  have HMD := Lib.hid (fun (W : World) (hv : PlV W cs p) => mchange_v hv hfi n (-1) (by omega) (by omega))
  have HR := Lib.hid (fun (W : World) (hv : PlV W cs p) => rightP_v hv hfi.1)
  have HMR := Lib.hid (fun (W : World) (hv : PlV W cs p) => mright_v hv)
  have HSM : Hid (∀ (q : Pl) (W : World) (c c' : Array Value), rFits q → PlV W c q → PlV W c' q → _) := Lib.hid (fun q W c c' hf h h' => samePool_v h h' rfl (fun _ _ => rfl) hf.2)
  have FT := Lib.hid (takeP_fits hfi)
  have FS := Lib.hid (shareP_fits hfi n)
  have FD := Lib.hid (dropP_fits hfi n)
  have F0 : Hid (rFits (ofR r0)) := Lib.hid ⟨canon_fits _, r0_fits⟩
  have HN : Hid (∀ W : World, Calls Try.prog 28 #[] W (GivesP1 W (ofR r0))) := Lib.hid (fun W => newP_v W)
  have HMO : Hid (∀ W : World, Calls Try.prog 29 #[.agg zR] W (GivesPf W (ofR r0))) := Lib.hid (fun W => mof_v zR_v)
  unfold GivesK3 at HT
  unfold GivesK2 at HS HD
  unfold GivesP3 at HMT
  unfold GivesP2 at HMS HMD
  unfold GivesP1 at HN
  unfold GivesPf at HMO
  rw [← take_eq] at HMT
  rw [← share_eq] at HMS
  rw [← drop_eq] at HMD
  clear h hfi
  obtain ⟨rt, hrt⟩ : ∃ x, x = takeP p := ⟨_, rfl⟩
  obtain ⟨rs, hrs⟩ : ∃ x, x = shareP p n := ⟨_, rfl⟩
  obtain ⟨rd, hrd⟩ : ∃ x, x = dropP p n := ⟨_, rfl⟩
  obtain ⟨rr, hrr⟩ : ∃ x, x = rightP p := ⟨_, rfl⟩
  obtain ⟨q0, hq0⟩ : ∃ x, x = ofR r0 := ⟨_, rfl⟩
  rw [← hrt] at HT HMT FT
  rw [← hrs] at HS HMS FS
  rw [← hrd] at HD HMD FD
  rw [← hrr] at HR HMR
  rw [← hq0] at HN HMO F0
  clear hrt hrs hrd hrr hq0
  obtain ⟨tq, tn, te⟩ := rt
  obtain ⟨sq, se⟩ := rs
  obtain ⟨dq, de⟩ := rd
  simp only at HT HMT HS HMS HD HMD FT FS FD
  go_enter Try.func9, Try.ntmps9
  go_wp2_with (first
    | (with_reducible refine alP ?_)
    | ((with_reducible refine stPn cs1 ?_ ?_ zP_size V1.out.size V1.out.one ?_); rfl; rfl)
    | ((with_reducible refine stPn cs2 ?_ ?_ zP_size V2.out.size V2.out.one ?_); rfl; rfl)
    | ((with_reducible refine stPn cs3 ?_ ?_ zP_size V3.out.size V3.out.one ?_); rfl; rfl)
    | ((with_reducible refine stPn cs4 ?_ ?_ zP_size V4.out.size V4.out.one ?_); rfl; rfl)
    | ((with_reducible refine stPn cs5 ?_ ?_ zP_size V5.out.size V5.out.one ?_); rfl; rfl)
    | ((with_reducible refine stPn cs6 ?_ ?_ zP_size V6.out.size V6.out.one ?_); rfl; rfl)
    | ((with_reducible refine ldPg w.heap.size ?_ ?_ Q00.out.bx HSZ.out ?_); rfl; rfl)
    | ((with_reducible refine ldPg w.heap.size ?_ ?_ Q01.out.bx HSZ.out ?_); rfl; rfl)
    | ((with_reducible refine ldPg w.heap.size ?_ ?_ Q02.out.bx HSZ.out ?_); rfl; rfl)
    | ((with_reducible refine ldPg w.heap.size ?_ ?_ Q03.out.bx HSZ.out ?_); rfl; rfl)
    | ((with_reducible refine ldPg w.heap.size ?_ ?_ Q04.out.bx HSZ.out ?_); rfl; rfl)
    | ((with_reducible refine ldPg w.heap.size ?_ ?_ Q05.out.bx HSZ.out ?_); rfl; rfl)
    | (go_at_call 27; with_reducible refine (HMD.out _ Q05.out.pv).mono ?_
       rintro e w6 ⟨cs6, rfl, hv6, hb6⟩
       have V6 := Lib.hid hv6
       have hA6 := hb6.trans ((below1 w6 (.cells cs6 42)).mono hb6.size)
       have K6 := Lib.hid (K5.out.trans (hA6.mono K5.out.size))
       have Q66 := Lib.hid (Pq.new hv6)
       have Q06 := Lib.hid (Q05.out.below hA6)
       have Q16 := Lib.hid (Q15.out.below hA6)
       have Q26 := Lib.hid (Q25.out.below hA6)
       have Q36 := Lib.hid (Q35.out.below hA6)
       have Q46 := Lib.hid (Q45.out.below hA6)
       have Q56 := Lib.hid (Q55.out.below hA6)
       clear hv6 hb6 hA6)
    | (go_at_call 24; with_reducible refine (HD.out _ Q04.out.pv).mono ?_
       rintro e w5 ⟨cs5, rfl, hv5, _, hb5⟩
       have V5 := Lib.hid hv5
       have hA5 := hb5.trans ((below1 w5 (.cells cs5 42)).mono hb5.size)
       have K5 := Lib.hid (K4.out.trans (hA5.mono K4.out.size))
       have Q55 := Lib.hid (Pq.new hv5)
       have Q05 := Lib.hid (Q04.out.below hA5)
       have Q15 := Lib.hid (Q14.out.below hA5)
       have Q25 := Lib.hid (Q24.out.below hA5)
       have Q35 := Lib.hid (Q34.out.below hA5)
       have Q45 := Lib.hid (Q44.out.below hA5)
       clear hv5 hb5 hA5)
    | (go_at_call 27; with_reducible refine (HMS.out _ Q03.out.pv).mono ?_
       rintro e w4 ⟨cs4, rfl, hv4, hb4⟩
       have V4 := Lib.hid hv4
       have hA4 := hb4.trans ((below1 w4 (.cells cs4 42)).mono hb4.size)
       have K4 := Lib.hid (K3.out.trans (hA4.mono K3.out.size))
       have Q44 := Lib.hid (Pq.new hv4)
       have Q04 := Lib.hid (Q03.out.below hA4)
       have Q14 := Lib.hid (Q13.out.below hA4)
       have Q24 := Lib.hid (Q23.out.below hA4)
       have Q34 := Lib.hid (Q33.out.below hA4)
       clear hv4 hb4 hA4)
    | (go_at_call 23; with_reducible refine (HS.out _ Q02.out.pv).mono ?_
       rintro e w3 ⟨cs3, rfl, hv3, _, hb3⟩
       have V3 := Lib.hid hv3
       have hA3 := hb3.trans ((below1 w3 (.cells cs3 42)).mono hb3.size)
       have K3 := Lib.hid (K2.out.trans (hA3.mono K2.out.size))
       have Q33 := Lib.hid (Pq.new hv3)
       have Q03 := Lib.hid (Q02.out.below hA3)
       have Q13 := Lib.hid (Q12.out.below hA3)
       have Q23 := Lib.hid (Q22.out.below hA3)
       clear hv3 hb3 hA3)
    | (go_at_call 26; with_reducible refine (HMT.out _ Q01.out.pv).mono ?_
       rintro e w2 ⟨cs2, rfl, hv2, hb2⟩
       have V2 := Lib.hid hv2
       have hA2 := hb2.trans ((below1 w2 (.cells cs2 42)).mono hb2.size)
       have K2 := Lib.hid (K1.out.trans (hA2.mono K1.out.size))
       have Q22 := Lib.hid (Pq.new hv2)
       have Q02 := Lib.hid (Q01.out.below hA2)
       have Q12 := Lib.hid (Q11.out.below hA2)
       clear hv2 hb2 hA2)
    | (go_at_call 21; with_reducible refine (HT.out _ Q00.out.pv).mono ?_
       rintro e w1 ⟨cs1, rfl, hv1, _, hb1⟩
       have V1 := Lib.hid hv1
       have hA1 := hb1.trans ((below1 w1 (.cells cs1 42)).mono hb1.size)
       have K1 := Lib.hid (HW0.out.trans (hA1.mono HW0.out.size))
       have Q11 := Lib.hid (Pq.new hv1)
       have Q01 := Lib.hid (Q00.out.below hA1)
       clear hv1 hb1 hA1))
  have hrr : (rr == rr) = true := by simp
  have hte : (te == te) = true := by simp
  have htn : (tn == tn) = true := by simp
  have hse : (se == se) = true := by simp
  have hde : (de == de) = true := by simp
  obtain ⟨w7, hw7⟩ : ∃ w7, w7 = w6.alloc (.cells cs6 42) := ⟨_, rfl⟩
  rw [← hw7] at Q06 Q16 Q26 Q36 Q46 Q56 Q66 K6 ⊢
  clear hw7
  refine wp_region_rel1 [Sp.pl 0 q0, Sp.pl 2 q0, Sp.call 3 (.bool true), Sp.call 6 (.bool rr), Sp.call 8 (.bool rr), Sp.call 24 (.bool true), Sp.call 34 (.bool true), Sp.call 44 (.bool true)] (by kernel_rfl) (by kernel_rfl) ?_
  intro V hV
  obtain ⟨c0, e0⟩ : ∃ cs, V 0 = .agg cs := hV 0
  obtain ⟨c2, e2⟩ : ∃ cs, V 2 = .agg cs := hV 2
  have e3 : V 3 = .bool true := hV 3
  have e6 : V 6 = .bool rr := hV 6
  have e8 : V 8 = .bool rr := hV 8
  have e24 : V 24 = .bool true := hV 24
  have e34 : V 34 = .bool true := hV 34
  have e44 : V 44 = .bool true := hV 44
  refine rel_special (Sp.pl 0 q0) (by kernel_rfl) rfl (fun w' hb hf => ?_) ?_
  · refine becomes_call (f := 28) (args := #[]) ?_ ((HN.out w').mono ?_)
    · go_simp
    · rintro e w'' ⟨cs, rfl, hv, hb2⟩
      exact ⟨_, rfl, hb2, ⟨_, rfl⟩, _, rfl, hv⟩
  go_big_quiet_step (fail)
  refine wpQuiet_nil ?_
  simp only [e0]
  refine rel_fact (.agg zR) (by kernel_rfl) rfl (fun w' hb hf => ex_bd0 (run_bdR0 w')) ?_
  go_big_quiet_step (fail)
  refine wpQuiet_nil ?_
  refine rel_special (Sp.pl 2 q0) (by kernel_rfl) rfl (fun w' hb hf => ?_) ?_
  · refine becomes_call (f := 29) (args := #[.agg zR]) ?_ ((HMO.out w').mono ?_)
    · go_simp
    · rintro e w'' ⟨cs, rfl, hv, _, hb2⟩
      exact ⟨_, rfl, hb2, ⟨_, rfl⟩, _, rfl, hv⟩
  go_big_quiet_step (fail)
  refine wpQuiet_nil ?_
  simp only [e2]
  refine rel_special (Sp.call 3 (.bool true)) (by kernel_rfl) rfl (fun w' hb hf => ?_) ?_
  · obtain ⟨c, e, hv2⟩ : ∃ cs, Value.agg c2 = .agg cs ∧ PlV w' cs q0 := hf _ (List.Mem.head _) (by kernel_rfl)
    cases e
    obtain ⟨c, e, hv0⟩ : ∃ cs, Value.agg c0 = .agg cs ∧ PlV w' cs q0 := hf _ (List.Mem.tail _ (List.Mem.head _)) (by kernel_rfl)
    cases e
    refine becomes_known (f := 25) (args := #[.agg c0, .agg c2]) ?_ (HSM.out q0 w' c0 c2 F0.out hv0 hv2)
    go_simp
  go_big_quiet_step (fail)
  refine wpQuiet_nil ?_
  simp only [e3]
  repeat (refine rel_quiet rfl rfl ?_; go_big_quiet_step (fail); refine wpQuiet_nil ?_)
  refine rel_fact (.agg cs) (by kernel_rfl) rfl (fun w' hb hf => exP rfl (Q06.out.bx.below hb) HSZ.out) ?_
  go_big_quiet_step (fail)
  refine wpQuiet_nil ?_
  refine rel_special (Sp.call 6 (.bool rr)) (by kernel_rfl) rfl (fun w' hb hf => ?_) ?_
  · refine becomes_known (f := 22) (args := #[.agg cs]) ?_ (HR.out w' (Q06.out.pv.below hb))
    go_simp
  go_big_quiet_step (fail)
  refine wpQuiet_nil ?_
  simp only [e6]
  refine rel_fact (.agg cs) (by kernel_rfl) rfl (fun w' hb hf => exP rfl (Q06.out.bx.below hb) HSZ.out) ?_
  go_big_quiet_step (fail)
  refine wpQuiet_nil ?_
  refine rel_special (Sp.call 8 (.bool rr)) (by kernel_rfl) rfl (fun w' hb hf => ?_) ?_
  · refine becomes_known (f := 30) (args := #[.agg cs]) ?_ (HMR.out w' (Q06.out.pv.below hb))
    go_simp
  go_big_quiet_step (fail)
  refine wpQuiet_nil ?_
  simp only [e8]
  repeat (refine rel_quiet rfl rfl ?_; go_big_quiet_step (fail); refine wpQuiet_nil ?_)
  refine rel_fact (.agg cs1) (by kernel_rfl) rfl (fun w' hb hf => exP rfl (Q16.out.bx.below hb) V1.out.size) ?_
  go_big_quiet_step (fail)
  refine wpQuiet_nil ?_
  refine rel_fact (.agg cs2) (by kernel_rfl) rfl (fun w' hb hf => exP rfl (Q26.out.bx.below hb) V2.out.size) ?_
  go_big_quiet_step (fail)
  refine wpQuiet_nil ?_
  refine rel_special (Sp.call 24 (.bool true)) (by kernel_rfl) rfl (fun w' hb hf => ?_) ?_
  · refine becomes_known (f := 25) (args := #[.agg cs1, .agg cs2]) ?_ (HSM.out tq w' cs1 cs2 FT.out (Q16.out.pv.below hb) (Q26.out.pv.below hb))
    go_simp
  go_big_quiet_step (fail)
  refine wpQuiet_nil ?_
  simp only [e24]
  repeat (refine rel_quiet rfl rfl ?_; go_big_quiet_step (fail); refine wpQuiet_nil ?_)
  refine rel_fact (.agg cs3) (by kernel_rfl) rfl (fun w' hb hf => exP rfl (Q36.out.bx.below hb) V3.out.size) ?_
  go_big_quiet_step (fail)
  refine wpQuiet_nil ?_
  refine rel_fact (.agg cs4) (by kernel_rfl) rfl (fun w' hb hf => exP rfl (Q46.out.bx.below hb) V4.out.size) ?_
  go_big_quiet_step (fail)
  refine wpQuiet_nil ?_
  refine rel_special (Sp.call 34 (.bool true)) (by kernel_rfl) rfl (fun w' hb hf => ?_) ?_
  · refine becomes_known (f := 25) (args := #[.agg cs3, .agg cs4]) ?_ (HSM.out sq w' cs3 cs4 FS.out (Q36.out.pv.below hb) (Q46.out.pv.below hb))
    go_simp
  go_big_quiet_step (fail)
  refine wpQuiet_nil ?_
  simp only [e34]
  repeat (refine rel_quiet rfl rfl ?_; go_big_quiet_step (fail); refine wpQuiet_nil ?_)
  refine rel_fact (.agg cs5) (by kernel_rfl) rfl (fun w' hb hf => exP rfl (Q56.out.bx.below hb) V5.out.size) ?_
  go_big_quiet_step (fail)
  refine wpQuiet_nil ?_
  refine rel_fact (.agg cs6) (by kernel_rfl) rfl (fun w' hb hf => exP rfl (Q66.out.bx.below hb) V6.out.size) ?_
  go_big_quiet_step (fail)
  refine wpQuiet_nil ?_
  refine rel_special (Sp.call 44 (.bool true)) (by kernel_rfl) rfl (fun w' hb hf => ?_) ?_
  · refine becomes_known (f := 25) (args := #[.agg cs5, .agg cs6]) ?_ (HSM.out dq w' cs5 cs6 FD.out (Q56.out.pv.below hb) (Q66.out.pv.below hb))
    go_simp
  go_big_quiet_step (fail)
  refine wpQuiet_nil ?_
  simp only [e44]
  repeat (refine rel_quiet rfl rfl ?_; go_big_quiet_step (fail); refine wpQuiet_nil ?_)
  intro w9 hb9 hf
  clear hf
  go_wp2
  go_ret
  exact ⟨by first | rfl | simp, K6.out.trans (hb9.mono K6.out.size)⟩
theorem poolTells_walk {w : World} (cs : Array Value) (h : ∃ p, PlV w cs p ∧ rFits p) (n : Int) (_ : I64 n) :
    Calls Try.prog 9 #[.agg cs, .int .i64 n] w fun e w' => e = .returned (.bool true) ∧ Below w.heap.size w w' := by
  obtain ⟨p, h1, h2⟩ := h
  exact poolTells_v h1 h2 n
end Go.Proofs.Ytnbhchfpfbbngaa
