/- Several texts in one: Fmj, Fal. -/
import Derived.Test.YtglnnplijienbaaCFmi
import Derived.Test.YtglnnplijienbaaM42
import Derived.Test.YtglnnplijienbaaM38
import Derived.Test.YtglnnplijienbaaM24
/- flat: Run. -/
namespace Go.Proofs.Ytglnnplijienbaa
open Go.ChangeShapes Go.WideShapes Go.ChangeAt Go.RowKit Go.Joins Go.Sort
set_option linter.unusedVariables false
set_option linter.unusedSimpArgs false
set_option maxRecDepth 100000
def GivesRun (w : World) (xs : List Fop) (e : Ending) (w' : World) : Prop := ∃ va cs, e = .returned (.tuple #[va, .agg cs]) ∧ Os fN 4 47 w' w.heap.size va (runF xs).2 ∧ Seem w' w.heap.size cs (runF xs).1 ∧ Below w.heap.size w w'
theorem op_cells {x : Fop} {W : World} {b o : Nat} (h : ∀ j v, (fO x)[j]? = some v → W.cell? ⟨b, o + j, none⟩ = some v) : ∀ (j : Nat) (v : Value), (opA x)[j]? = some v → W.cell? ⟨b, o + j, none⟩ = some v := fun j v hv => h j v (by simpa [opA, fO] using hv)
theorem opA_one (o : Fop) : (opA o).all (·.oneCell') = true := by simp [opA, Value.oneCell']
theorem run_take {xs : List Fop} {k : Nat} {x : Fop} (h : xs[k]? = some x) : runF (xs.take (k + 1)) = ((doF (runF (xs.take k)).1 x).1, (runF (xs.take k)).2 ++ [(doF (runF (xs.take k)).1 x).2]) := by
  have hl := (List.getElem?_eq_some_iff.1 h).1
  rw [List.take_succ_eq_append_getElem hl, (List.getElem?_eq_some_iff.1 h).2, runF_snoc]
abbrev zS4 : Array Value := #[.bool false, .slice none 0 0, .bool false, .int .i64 0, .bool false, .int .i64 0, .bool false, .int .i64 0, .bool false, .int .i64 0, .slice none 0 0, .bool false, .slice none 0 0, .bool false, .int .i64 0, .bool false, .int .i64 0, .bool false, .int .i64 0, .bool false, .int .i64 0, .slice none 0 0, .bool false, .slice none 0 0, .bool false, .int .i64 0, .bool false, .int .i64 0, .bool false, .int .i64 0, .bool false, .int .i64 0, .slice none 0 0, .bool false, .slice none 0 0, .bool false, .int .i64 0, .bool false, .int .i64 0, .bool false, .int .i64 0, .bool false, .int .i64 0, .slice none 0 0]
/-- What holds at the head of the loop over what is done. -/
structure LpR (w : World) (gw : Nat) (z : Array Value) (xs : List Fop) (k : Nat) (o : Value) (wr : World) : Prop where
  ans : Os fN 4 47 wr w.heap.size o (runF (xs.take k)).2
  ws : ∃ gs, Ws wr gw gs (runF (xs.take k)).1 ∧ ∀ j, j < 4 → w.heap.size ≤ gs j
  low : Below w.heap.size w wr
  res : Bx wr w.heap.size 32 z
set_option maxHeartbeats 16000000 in
theorem run_any (A : Option Addr) (n c : Nat) (xs : List Fop) (w : World) (B : Nat) (hz : Rw fO 12 w B A n xs) (hB : B ≤ w.heap.size) (hbig : n ≤ 4398046511103) (hf : ∀ x ∈ xs, x.fits) :
    Calls Try.prog 9 #[.slice A n c] w (GivesRun w xs) := by
  have hln := hz.1
  have HX := Lib.hid (fun (i : Nat) (hi : i < n) => (⟨xs[i]'(by omega), List.getElem?_eq_getElem _, hf _ (List.getElem_mem _)⟩ : ∃ x, xs[i]? = some x ∧ x.fits))
  have HLN := Lib.hid hln
  have HZ := Lib.hid (hz.below ((Below.refl w.heap.size w).mono hB))
  clear hz hln hf
  have HA : Hid (0 < n → ∃ b off, A = some ⟨b, off, none⟩ ∧ b < B) := Lib.hid (fun h => HZ.out.open h)
  have HNEW := Lib.hid (fun (W : World) => new_any W)
  have HB0 := Lib.hid (below1 w (.cells zS4 32))
  have HR0 : Hid (Bx (w.alloc (.cells zS4 32)) w.heap.size 32 zS4) := Lib.hid (Bx.new _ _ _)
  have HNW := Lib.hid (new_any (w.alloc (.cells zS4 32)))
  go_enter Try.func9, Try.ntmps9
  go_wp2_with (go_at_call 21; refine HNW.out.mono ?_; rintro e w1 ⟨gw, gs0, rfl, hgw, hgs, hws, hb1⟩)
  have hstart : LpR w gw zS4 xs 0 (.slice none 0 0) w1 := ⟨Os.nil, ⟨gs0, hws, fun j hj => by have := hgs j hj; simp at this; omega⟩, HB0.out.trans (hb1.mono (by simp)), HR0.out.below hb1⟩
  have hgw2 : w.heap.size < gw := by
    have : w.heap.size + 1 ≤ gw := by simpa using hgw
    omega
  have HST := Lib.hid hstart
  clear hstart hws hgs hgw HNW hb1
  go_loopw [18, 5] (fun i o wr => ∃ k : Nat, k ≤ n ∧ i = .int .i64 k ∧ Hid (LpR w gw zS4 xs k o wr)) (fun i _ _ => n - (intOf i).toNat)
  case atStart => exact ⟨0, by omega, rfl, HST⟩
  case round =>
    obtain ⟨k, hk, rfl, HL⟩ := hrel
    by_cases hlt : k < n
    · obtain ⟨x, hx, hfx⟩ := HX.out k hlt
      obtain ⟨b, off, hAe, hb⟩ := HA.out (by omega)
      subst hAe
      have HC := Lib.hid (op_cells ((HZ.out.below (HL.out.low.mono hB)).at_ fO_len hx))
      have HS := Lib.hid (run_take hx)
      have HOK := Lib.hid (ok_run (xs.take k))
      have HLE : Hid ((runF (xs.take k)).2.length = k) := Lib.hid (by rw [runF_len, List.length_take, HLN.out]; omega)
      obtain ⟨gs, hws, hgs⟩ := HL.out.ws
      have HAN := Lib.hid HL.out.ans
      have HLO := Lib.hid HL.out.low
      have HRE := Lib.hid HL.out.res
      have HGS := Lib.hid hgs
      have HWS := Lib.hid (hws.below (below1 wr (.cells (opA x) 43)))
      have HDO := Lib.hid (do_any HWS.out HOK.out x hfx)
      have HOZ : Hid ((opA x).size = 12) := Lib.hid rfl
      have HO1 := Lib.hid (opA_one x)
      clear HL hx hfx hws hgs
      generalize hS : runF (xs.take k) = S at *
      clear hS
      obtain ⟨oA, hoA⟩ : ∃ oA, oA = opA x := ⟨_, rfl⟩
      rw [← hoA] at HC HWS HDO HOZ HO1
      clear hoA
      obtain ⟨an, han⟩ : ∃ an, an = (doF S.1 x).2 := ⟨_, rfl⟩
      obtain ⟨W2, hW2⟩ : ∃ W2, W2 = (doF S.1 x).1 := ⟨_, rfl⟩
      have HD2 : Hid (Calls Try.prog 22 #[.pointer (some ⟨gw, 0, none⟩), .agg oA] (wr.alloc (.cells oA 43)) fun e w' => e = .returned an.v ∧ WsK gw gs W2 (wr.alloc (.cells oA 43)) w') := Lib.hid (by rw [han, hW2]; exact HDO.out)
      rw [← han, ← hW2] at HS
      clear HDO han hW2
      have hlo := HLO.out.size
      have hle := HLE.out
      go_wp2_with (first
        | ((with_reducible refine ldC Try.underlying43 rfl infoO b (off + k * 12) oA ?_ ?_ HC.out HOZ.out ?_); rfl; rfl)
        | ((with_reducible refine stN infoO oA ?_ ?_ rfl HOZ.out HO1.out ?_); rfl; rfl)
        | ((with_reducible refine ldB Try.underlying43 rfl infoO wr.heap.size 0 oA ?_ ?_ (Bx.new _ _ _) (Sub.all _) HOZ.out ?_); rfl; rfl)
        | (go_at_call 22
           refine HD2.out.mono ?_
           rintro e w2 ⟨rfl, hk2⟩
           have HK2 := Lib.hid hk2
           have HB2 := Lib.hid ((HLO.out.trans ((below1 wr (.cells oA 43)).mono hlo)).trans (hk2.below (Nat.le_of_lt hgw2) HGS.out (by simp; omega)))
           have KT2 := Lib.hid (hk2.keepT HWS.out)
           have A2 := Lib.hid ((HAN.out.below (below1 wr (.cells oA 43)) (Nat.le_refl _)).keepT KT2.out (by decide))
           have R2 := Lib.hid (KT2.out _ _ _ (by decide) (HRE.out.below (below1 wr (.cells oA 43))))
           have hb2 := HB2.out.size
           clear hk2)
        | (at_builtin; refine append_N rfl _ _ rfl w.heap.size u5 S.2 w2 an w2.heap.size rfl rfl rfl A2.out hb2 (by omega) ?_
           intro g' c' w3 ho3 hb3 hk3))
      go_roundw
      case rel =>
        refine ⟨k + 1, by omega, by go_num, Lib.hid ⟨by rw [HS.out, ← HLE.out]; exact ho3, ?_, HB2.out.trans hb3, hk3 _ _ _ (by decide) R2.out⟩⟩
        obtain ⟨gs2, h1, _, h3⟩ := HK2.out
        rw [HS.out]
        refine ⟨gs2, h1.keepT hk3, fun j hj => ?_⟩
        rcases h3 j hj with h | h
        · rw [h]; exact HGS.out j hj
        · have : wr.heap.size + 1 ≤ gs2 j := by simpa using h
          omega
      case measure => simp [intOf]; omega
    · have hkn : k = n := by omega
      subst hkn
      have HF : xs.take k = xs := List.take_of_length_le (by rw [HLN.out]; exact Nat.le_refl _)
      obtain ⟨gs, hws, hgs⟩ := HL.out.ws
      have han := HL.out.ans
      rw [HF] at hws han
      have HAN := Lib.hid han
      have HLO := Lib.hid HL.out.low
      have HRE := Lib.hid HL.out.res
      have HGS := Lib.hid hgs
      have HOK := Lib.hid (ok_run xs)
      obtain ⟨S, hS⟩ : ∃ S, S = runF xs := ⟨_, rfl⟩
      have HSX := Lib.hid hS
      rw [← hS] at HAN HOK hws
      clear hS HL HF hgs han HX HA HZ HST HNEW HB0 HR0
      have HW0 := Lib.hid (hws.below (below1 wr (.cells zS4 32)))
      have HQ0 : Hid (Bx (wr.alloc (.cells zS4 32)) wr.heap.size 32 zS4) := Lib.hid (Bx.new _ _ _)
      obtain ⟨ws, hwse⟩ : ∃ ws, ws = wr.alloc (.cells zS4 32) := ⟨_, rfl⟩
      have HWE := Lib.hid hwse
      rw [← hwse] at HW0 HQ0
      clear hws hwse
      obtain ⟨q, hq⟩ : ∃ q, q = wr.heap.size := ⟨_, rfl⟩
      have HQE := Lib.hid hq
      rw [← hq] at HQ0
      clear hq
      have HTP : Hid (Bx ws gw 71 (ptrs gs)) := Lib.hid HW0.out.top
      have lgw : gw < ws.heap.size := HW0.out.top.lt
      go_wp2_with (first
        | ((with_reducible refine ldB Try.underlying69 rfl infoPp gw 0 (ptrs gs) ?_ ?_ (HWE.out ▸ HTP.out) (Sub.all _) rfl ?_); rfl; rfl))
      rw [← HWE.out, ← HQE.out]
      have hb1 : Below wr.heap.size wr ws := by rw [HWE.out]; exact below1 _ _
      have A1 := Lib.hid (HAN.out.below hb1 (Nat.le_refl _))
      have L1 := Lib.hid (HLO.out.trans (hb1.mono HLO.out.size))
      have R1 := Lib.hid (HRE.out.below hb1)
      have hqw : w.heap.size < q := by rw [HQE.out]; exact HRE.out.lt
      have hst : LpS ws w.heap.size q S.1 0 ws := ⟨Keep.refl _ _, zS4, HQ0.out, rfl, by simp [Value.oneCell'], fun j hj => by omega⟩
      have HST := Lib.hid hst
      clear hb1 HAN HLO HRE HWE HQE hst
      go_loopw [33] (fun i wr => ∃ k : Nat, k ≤ 4 ∧ i = .int .i64 k ∧ Hid (LpS ws w.heap.size q S.1 k wr)) (fun i _ => 4 - (intOf i).toNat)
      case atStart => exact ⟨0, by omega, rfl, HST⟩
      case round =>
        obtain ⟨k, hk, rfl, HL⟩ := hrel
        by_cases hlt : k < 4
        · obtain ⟨cs, hx, hs, ho, hsv⟩ := HL.out.arr
          have HXQ := Lib.hid hx
          have HSQ := Lib.hid hs
          have HOQ := Lib.hid ho
          have HVQ := Lib.hid hsv
          have HKQ := Lib.hid HL.out.keep
          have KTQ : Hid (KeepT (fun T' => T' ≠ 32) ws wr) := Lib.hid (KeepT.of_keep HKQ.out HQ0.out)
          have HWQ := Lib.hid (HW0.out.keepE KTQ.out (by decide) (by decide) (by decide))
          clear hx hs ho hsv HL
          obtain ⟨cp, hxp, hpp⟩ := HWQ.out.each k hlt
          obtain ⟨v, hv, hrt⟩ := hpp.rg
          have HXP := Lib.hid hxp
          have HPP := Lib.hid hpp
          have HVP := Lib.hid hv
          have HRT := Lib.hid hrt
          have hidx : ∀ W, (Instr.index 69 (.agg (ptrs gs)) (.int .i64 (k : Int))).run Try.prog W = .ok (.pointer (some ⟨gs k, 0, none⟩)) W := fun W => index_ptrs hlt W
          have HPK := Lib.hid (HOK.out.p k)
          have HLV := Lib.hid hpp.live
          have HKS := Lib.hid hpp.ks
          clear hxp hpp hv hrt
          obtain ⟨p, hpe⟩ : ∃ p, p = S.1 k := ⟨_, rfl⟩
          have HPE := Lib.hid hpe
          rw [← hpe] at HPP HRT HPK HLV HKS
          clear hpe
          have c0 : wr.cell? ⟨gs k, 0, none⟩ = some (.bool p.live) := by rw [HXP.out.cell]; exact HLV.out
          have c1 : wr.cell? ⟨gs k, 1, none⟩ = some v := by rw [HXP.out.cell]; exact HVP.out
          have l0 : gs k < wr.heap.size := HXP.out.lt
          have gc : ∀ (d : Nat) (os : Array Obj) (b o : Nat), b < wr.heap.size → (grow (redrawn wr d) os).cell? ⟨b, o, none⟩ = wr.cell? ⟨b, o, none⟩ := fun d os b o h => (below_regrown _ d os).cell (p := ⟨b, o, none⟩) h
          have HCL : Hid (∀ w', Below wr.heap.size wr w' → Calls Try.prog 23 #[v] w' fun e w'' => ∃ v', e = .returned v' ∧ Os fR 6 40 w'' w'.heap.size v' p.rg ∧ Below w'.heap.size w' w'') := Lib.hid (fun w' hb => by
            obtain ⟨Av, nv, cv, rfl, hrw, hnv⟩ := (HRT.out.below hb).rv
            exact clone_Q Av nv cv p.rg w' w'.heap.size hrw (Nat.le_refl _) (by omega))
          go_wp2
          refine wp_relt 16 [Sp.own 9 fR 6 40 wr.heap.size p.rg] (by kernel_rfl) (by kernel_rfl) (by kernel_rfl) ?_
          intro V hV
          obtain ⟨A9, n9, c9, e9⟩ : ∃ A n c, V 9 = .slice A n c := hV 9
          simp only [List.take_succ_cons, List.take_zero, List.drop_succ_cons, List.drop_zero]
          iterate 2 (refine rq rfl rfl ?_; go_big_quiet_step (fail); refine wpQuiet_nil ?_)
          refine rn ⟨gs k, 0, none⟩ (by kernel_rfl) rfl rfl ?_; go_big_quiet_step (fail); refine wpQuiet_nil ?_
          iterate 3 (refine rq rfl rfl ?_; go_big_quiet_step (fail); refine wpQuiet_nil ?_)
          refine rn ⟨gs k, 0, none⟩ (by kernel_rfl) rfl rfl ?_; go_big_quiet_step (fail); refine wpQuiet_nil ?_
          iterate 2 (refine rq rfl rfl ?_; go_big_quiet_step (fail); refine wpQuiet_nil ?_)
          refine rsp (Sp.own 9 fR 6 40 wr.heap.size p.rg) (by kernel_rfl) rfl (fun w' hb hf => ?_) ?_
          · refine becomes_call (f := 23) (args := #[v]) ?_ ((HCL.out w' hb).mono ?_)
            · go_simp
            · rintro e w'' ⟨v', rfl, ho, hb2⟩
              exact ⟨_, rfl, hb2, ho.slice, ho.rebase hb.size⟩
          go_big_quiet_step (fail)
          refine wpQuiet_nil ?_
          simp only [e9]
          refine rq rfl rfl ?_; go_big_quiet_step (fail); refine wpQuiet_nil ?_
          refine rn ⟨gs k, 0, none⟩ (by kernel_rfl) rfl rfl ?_; go_big_quiet_step (fail); refine wpQuiet_nil ?_
          refine rq rfl rfl ?_; go_big_quiet_step (fail); refine wpQuiet_nil ?_
          refine rf (.agg (kA p.ks)) (by kernel_rfl) rfl (fun w' hb hf => ex_ld rfl (run_ld Try.underlying28 rfl infoKs (HXP.out.below hb) HKS.out rfl)) ?_
          go_big_quiet_step (fail)
          refine wpQuiet_nil ?_
          refine rf (.agg (pA p.live (.slice A9 n9 c9) p.ks (.slice none 0 0))) (by kernel_rfl) rfl (fun w' hb hf => ex_bd3 rfl rfl rfl (run_bdS _ _ _ _ _ _)) ?_
          go_big_quiet_step (fail)
          refine wpQuiet_nil ?_
          refine rq rfl rfl ?_; go_big_quiet_step (fail); refine wpQuiet_nil ?_
          refine rend ?_
          clear e9
          intro w7 hb7 hf
          have HO7 : Os fR 6 40 w7 wr.heap.size (.slice A9 n9 c9) p.rg := hf _ (List.Mem.head _)
          clear hf hV gc c0 c1 l0
          have X7 := Lib.hid (HXQ.out.below hb7)
          have K7 := Lib.hid (HKQ.out.more hb7)
          have V7 : Hid (∀ j, j < k → Sv w7 w.heap.size cs (j * 11) (S.1 j)) := Lib.hid (fun j hj => (HVQ.out j hj).keepT (KeepT.of hb7))
          have XP7 := Lib.hid (HXP.out.below hb7)
          have PP7 := Lib.hid (HPP.out.below hb7)
          have RT7 := Lib.hid (HRT.out.below hb7)
          have O7 := Lib.hid (HO7.rebase (B := w.heap.size) (Nat.le_trans L1.out.size HKQ.out.size))
          clear HO7 hb7 HCL HWQ KTQ HKQ HXQ HVQ HXP HPP HRT
          have HPS : Hid ((pA p.live (.slice A9 n9 c9) p.ks (.slice none 0 0)).size = 11) := Lib.hid rfl
          have HPO : Hid ((pA p.live (.slice A9 n9 c9) p.ks (.slice none 0 0)).all (·.oneCell') = true) := Lib.hid (by simp [pA, Value.oneCell'])
          have HAT := Lib.hid (fun i => pA_at HSQ.out hlt p.live (.slice A9 n9 c9) p.ks (.slice none 0 0) i)
          have HPL : Hid ((pA p.live (.slice A9 n9 c9) p.ks (.slice none 0 0))[0]? = some (.bool p.live) ∧ (pA p.live (.slice A9 n9 c9) p.ks (.slice none 0 0))[1]? = some (.slice A9 n9 c9) ∧ (pA p.live (.slice A9 n9 c9) p.ks (.slice none 0 0))[10]? = some (.slice none 0 0) ∧ ∀ (i : Nat) u, (kA p.ks)[i]? = some u → (pA p.live (.slice A9 n9 c9) p.ks (.slice none 0 0))[2 + i]? = some u) := Lib.hid ⟨rfl, rfl, rfl, pA_keys _ _ _ _⟩
          obtain ⟨pa, hpa⟩ : ∃ pa, pa = pA p.live (.slice A9 n9 c9) p.ks (.slice none 0 0) := ⟨_, rfl⟩
          rw [← hpa] at HPS HPO HAT HPL ⊢
          clear hpa
          refine stM infoS1 q (k * 11) pa rfl rfl X7.out (by have := HSQ.out; omega) HPS.out HPO.out ?_
          have X8 := Lib.hid (X7.out.many pa.toList (k * 11))
          have K8 := Lib.hid (Keep.cells (S := fun b => b = q) (.inl rfl) pa.toList (k * 11) _ K7.out)
          have KT8 : Hid (KeepT (fun T' => T' ≠ 32) w7 (w7.setCells q (k * 11) pa.toList)) := Lib.hid (KeepT.of_keep (Keep.cells (S := fun b => b = q) (.inl rfl) pa.toList (k * 11) _ (Keep.refl _ _)) X7.out)
          have XP8 := Lib.hid (KT8.out _ _ _ (by decide) XP7.out)
          have PP8 : Hid (Pv (w7.setCells q (k * 11) pa.toList) cp p) := Lib.hid (PP7.out.keep fun b cur hb => KT8.out _ _ _ (by decide) hb)
          have RT8 : Hid (Rt (w7.setCells q (k * 11) pa.toList) v p.rg) := Lib.hid (RT7.out.keep fun b cur hb => KT8.out _ _ _ (by decide) hb)
          have O8 := Lib.hid (O7.out.keepT KT8.out (by decide))
          have V8 : Hid (∀ j, j < k → Sv (w7.setCells q (k * 11) pa.toList) w.heap.size (Go.Sort.setMany cs (k * 11) pa.toList) (j * 11) (S.1 j)) := Lib.hid (fun j hj => ((V7.out j hj).keepT (KT8.out.weak fun T hT => by unfold Seen at hT; rcases hT with rfl | rfl | rfl | rfl | rfl <;> decide)).arr fun i hi => by rw [HAT.out, if_neg (by omega)])
          have S8 : Hid ((Go.Sort.setMany cs (k * 11) pa.toList).size = 44) := Lib.hid (by rw [Go.Sort.size_setMany]; exact HSQ.out)
          have E8 : Hid ((Go.Sort.setMany cs (k * 11) pa.toList).all (·.oneCell') = true) := Lib.hid (all_setMany _ _ _ HOQ.out (fun u hu => by have := HPO.out; rw [Array.all_eq_true_iff_forall_mem] at this; exact this u (by simpa using hu)))
          have G8 : Hid ((Go.Sort.setMany cs (k * 11) pa.toList)[k * 11]? = some (.bool p.live) ∧ (Go.Sort.setMany cs (k * 11) pa.toList)[k * 11 + 1]? = some (.slice A9 n9 c9) ∧ (Go.Sort.setMany cs (k * 11) pa.toList)[k * 11 + 10]? = some (.slice none 0 0) ∧ Sub (Go.Sort.setMany cs (k * 11) pa.toList) (k * 11 + 2) (kA p.ks)) := Lib.hid (by
            obtain ⟨g0, g1, g2, g3⟩ := HPL.out
            refine ⟨?_, ?_, ?_, fun i u hu => ?_⟩
            · rw [HAT.out, if_pos (by omega), Nat.sub_self]; exact g0
            · rw [HAT.out, if_pos (by omega), Nat.add_sub_cancel_left]; exact g1
            · rw [HAT.out, if_pos (by omega), Nat.add_sub_cancel_left]; exact g2
            · have hi : i < 8 := by have := (Array.getElem?_eq_some_iff.1 hu).1; simpa [kA] using this
              rw [HAT.out, if_pos (by omega), show k * 11 + 2 + i - k * 11 = 2 + i by omega]; exact g3 i u hu)
          obtain ⟨c8, hc8⟩ : ∃ c8, c8 = Go.Sort.setMany cs (k * 11) pa.toList := ⟨_, rfl⟩
          rw [← hc8] at X8 V8 S8 E8 G8
          obtain ⟨ww, hww⟩ : ∃ ww, ww = w7.setCells q (k * 11) pa.toList := ⟨_, rfl⟩
          rw [← hww] at X8 K8 XP8 PP8 RT8 O8 V8 ⊢
          clear hc8 hww X7 K7 KT8 XP7 PP7 RT7 O7 V7 HAT HPL HPS HPO HSQ HOQ
          obtain ⟨pg1, pg2, pg3⟩ := PP8.out.pages
          have PG1 := Lib.hid pg1
          have PG2 := Lib.hid pg2
          have PG3 := Lib.hid pg3
          obtain ⟨pg, hpg⟩ : ∃ pg, pg = cp.extract 10 4362 := ⟨_, rfl⟩
          rw [← hpg] at PG1 PG2 PG3
          clear pg1 pg2 pg3 hpg
          have lx : gs k < ww.heap.size := XP8.out.lt
          go_wp2_with (first
            | ((with_reducible refine ldB Try.underlying76 rfl infoC64 (gs k) 10 pg ?_ ?_ XP8.out PG2.out PG1.out ?_); rfl; rfl))
          have hst2 : LpP ww q (k * 11) c8 p 0 ww := ⟨Keep.refl _ _, .slice none 0 0, by
            have e : c8.setIfInBounds (k * 11 + 10) (.slice none 0 0) = c8 := by
              apply Array.ext_getElem?
              intro i
              by_cases hi : i = k * 11 + 10
              · subst hi; rw [Array.getElem?_setIfInBounds_self_of_lt (by have := S8.out; omega)]; exact G8.out.2.2.1.symm
              · rw [Array.getElem?_setIfInBounds_ne (fun h => hi h.symm)]
            rw [e]; exact X8.out, Pgs.nil⟩
          have HST2 := Lib.hid hst2
          clear hst2
          go_loopw [57] (fun i wr => ∃ m : Nat, m ≤ 64 ∧ i = .int .i64 m ∧ Hid (LpP ww q (k * 11) c8 p m wr)) (fun i _ => 64 - (intOf i).toNat)
          case atStart => exact ⟨0, by omega, rfl, HST2⟩
          case round =>
            obtain ⟨m, hm, rfl, HL⟩ := hrel
            by_cases hlt2 : m < 64
            · obtain ⟨vp, hxv, hpg⟩ := HL.out.arr
              have HXV := Lib.hid hxv
              have HPG := Lib.hid hpg
              have HKV := Lib.hid HL.out.keep
              have KTV : Hid (KeepT (fun T' => T' ≠ 32) ww wr) := Lib.hid (KeepT.of_keep HKV.out X8.out)
              have XPV := Lib.hid (KTV.out _ _ _ (by decide) XP8.out)
              have RTV : Hid (Rt wr v p.rg) := Lib.hid (RT8.out.keep fun b cur hb => KTV.out _ _ _ (by decide) hb)
              have CN := Lib.hid (PG3.out m hlt2)
              have hidx2 : ∀ W, (Instr.index 76 (.agg pg) (.int .i64 (m : Int))).run Try.prog W = .ok (.agg (pg.extract (m * 68) (m * 68 + 68))) W := fun W => index_aggs Try.underlying76 infoC1 (fun w => by kernel_rfl) hlt2 W
              obtain ⟨r, hr⟩ : ∃ r, r = pg.extract (m * 68) (m * 68 + 68) := ⟨_, rfl⟩
              rw [← hr] at CN hidx2
              clear hr hxv hpg HL
              have CNS := Lib.hid CN.out.size
              have CNO := Lib.hid CN.out.one
              have HFN : Hid (Calls Try.prog 20 #[v, .int .i64 (m : Int)] (wr.alloc (.cells r 75)) (FindP (at? p.rg m) (wr.alloc (.cells r 75)))) := Lib.hid (by
                obtain ⟨Av, nv, cv, rfl, hrw, hnv⟩ := (RTV.out.below (below1 wr (.cells r 75))).rv
                exact find_any Av nv cv p.rg m _ _ hrw (Nat.le_refl _) (by omega))
              have HXR : Hid (Bx (wr.alloc (.cells r 75)) wr.heap.size 75 r) := Lib.hid (Bx.new _ _ _)
              have cv1 : (wr.alloc (.cells r 75)).cell? ⟨gs k, 1, none⟩ = some v := by rw [(XPV.out.below (below1 wr (.cells r 75))).cell]; exact HVP.out
              have lv1 : gs k < wr.heap.size := XPV.out.lt
              unfold FindP at HFN
              cases ha : at? p.rg m with
              | none =>
                rw [ha] at HFN
                have HPT := Lib.hid (pagesTo_none ha)
                simp only [Option.getD, Option.isSome] at HFN
                unfold zA at HFN
                go_wp2_with (first
                  | ((with_reducible refine stN infoC1 r ?_ ?_ rfl CNS.out CNO.out ?_); rfl; rfl)
                  | (go_at_call 20
                     refine HFN.out.mono ?_
                     rintro e w4 ⟨rfl, hb4⟩
                     have K4 := Lib.hid ((below1 wr (.cells r 75)).trans (hb4.mono (below1 wr (.cells r 75)).size))
                     clear hb4))
                go_roundw
                case rel =>
                  have hb5 := K4.out.trans ((below1 w4 (.cells #[.int .i64 0, .int .i64 0, .bool false, .bool false] 38)).mono K4.out.size)
                  refine ⟨m + 1, by omega, by go_num, Lib.hid ⟨HKV.out.more hb5, vp, HXV.out.below hb5, ?_⟩⟩
                  rw [HPT.out]; exact HPG.out.keepT (KeepT.of hb5)
                case measure => simp [intOf]; omega
              | some at_ =>
                rw [ha] at HFN
                have HPT := Lib.hid (pagesTo_some ha)
                simp only [Option.getD, Option.isSome] at HFN
                go_wp2_with (first
                  | ((with_reducible refine stN infoC1 r ?_ ?_ rfl CNS.out CNO.out ?_); rfl; rfl)
                  | (go_at_call 20
                     refine HFN.out.mono ?_
                     rintro e w4 ⟨rfl, hb4⟩
                     have K4 := Lib.hid ((below1 wr (.cells r 75)).trans (hb4.mono (below1 wr (.cells r 75)).size))
                     have XR4 := Lib.hid (HXR.out.below hb4)
                     clear hb4))
                have K5 := Lib.hid (K4.out.trans ((below1 w4 (.cells #[.int .i64 at_.r, .int .i64 at_.k, .bool at_.g, .bool at_.s] 38)).mono K4.out.size))
                have XR5 := Lib.hid (XR4.out.below (below1 w4 (.cells #[.int .i64 at_.r, .int .i64 at_.k, .bool at_.g, .bool at_.s] 38)))
                obtain ⟨w5, hw5⟩ : ∃ w5, w5 = w4.alloc (.cells #[.int .i64 at_.r, .int .i64 at_.k, .bool at_.g, .bool at_.s] 38) := ⟨_, rfl⟩
                rw [← hw5] at K5 XR5 ⊢
                clear hw5 K4 XR4 HFN cv1 lv1 hidx2 HXR
                obtain ⟨xs5, ho5, hl5, hp5⟩ := HPG.out.keepT (KeepT.of K5.out)
                have HO5 := Lib.hid ho5
                have HL5 := Lib.hid hl5
                have HP5 := Lib.hid hp5
                obtain ⟨Ap, np, cpp, rfl⟩ := HPG.out.slice
                have XV5 := Lib.hid (HXV.out.below K5.out)
                have c10 : w5.cell? ⟨q, k * 11 + 10, none⟩ = some (.slice Ap np cpp) := by rw [XV5.out.cell]; exact Array.getElem?_setIfInBounds_self_of_lt (by have := S8.out; omega)
                have lq : q < w5.heap.size := XV5.out.lt
                clear ho5 hl5 hp5
                have HCB : Hid (∀ w', Below w5.heap.size w5 w' → Calls Try.prog 24 #[.slice (some ⟨wr.heap.size, 0, none⟩) 64 64] w' fun e w'' => ∃ v', e = .returned v' ∧ Nb .u8 5 w'' v' (byteL p m) ∧ Below w'.heap.size w' w'') := Lib.hid (fun w' hb => by
                  refine (clone_any _ 64 64 (byteL p m) w' _ (CN.out.brow (XR5.out.below hb)) (Nat.le_refl _) (by decide)).mono ?_
                  rintro e w'' ⟨A', c', rfl, ho, hb2⟩
                  exact ⟨_, rfl, ho.nb, hb2⟩)
                have HCT : Hid (∀ w', Below w5.heap.size w5 w' → Calls Try.prog 25 #[.slice (some ⟨wr.heap.size, 64, none⟩) 4 4] w' fun e w'' => ∃ v', e = .returned v' ∧ Nb .i64 3 w'' v' (tagL p m) ∧ Below w'.heap.size w' w'') := Lib.hid (fun w' hb => by
                  refine (cloneI_any _ 4 4 (tagL p m) w' _ (CN.out.trow (XR5.out.below hb)) (Nat.le_refl _) (by decide)).mono ?_
                  rintro e w'' ⟨A', c', rfl, ho, hb2⟩
                  exact ⟨_, rfl, ho.nb, hb2⟩)
                obtain ⟨i0, hi, hz0, hz1, hz2⟩ := info_parts info_G
                have hwl : ww.heap.size ≤ wr.heap.size := HKV.out.size
                have h5l : wr.heap.size ≤ w5.heap.size := K5.out.size
                have hx5 : xs5.length ≤ 64 := by rw [HL5.out]; exact Nat.le_trans (pagesTo_le _ _) hm
                go_region_law (first
                  | (refine step_call 24 #[.slice (some ⟨wr.heap.size, 0, none⟩) 64 64] rfl (by go_simp) (HCB.out _ (below_drew _ _)) (fun e w' h => by obtain ⟨v, rfl, _⟩ := h; exact ⟨v, rfl⟩) ?_
                     rintro v6 w6 ⟨v', e, hn6, hb6⟩
                     injection e with e
                     subst e
                     obtain ⟨A8, n8, c8_, rfl⟩ := hn6.slice
                     have B6 : Hid (Below w5.heap.size w5 w6) := Lib.hid ((below_drew _ _).trans hb6)
                     have N6 := Lib.hid hn6
                     have c16 : w6.cell? ⟨q, k * 11 + 10, none⟩ = some (.slice Ap np cpp) := (B6.out.cell (p := ⟨q, k * 11 + 10, none⟩) lq).trans c10
                     have lq6 : q < w6.heap.size := Nat.lt_of_lt_of_le lq B6.out.size
                     clear hn6 hb6)
                  | (refine step_call 25 #[.slice (some ⟨wr.heap.size, 64, none⟩) 4 4] rfl (by go_simp) (HCT.out w6 B6.out) (fun e w' h => by obtain ⟨v, rfl, _⟩ := h; exact ⟨v, rfl⟩) ?_
                     rintro v7 w7 ⟨v', e, hn7, hb7⟩
                     injection e with e
                     subst e
                     obtain ⟨A11, n11, c11, rfl⟩ := hn7.slice
                     have B7 : Hid (Below w5.heap.size w5 w7) := Lib.hid (B6.out.trans (hb7.mono B6.out.size))
                     have N11 := Lib.hid hn7
                     have N8 := Lib.hid (N6.out.keepT (E := fun _ => True) (KeepT.of hb7) trivial)
                     have c17 : w7.cell? ⟨q, k * 11 + 10, none⟩ = some (.slice Ap np cpp) := (B7.out.cell (p := ⟨q, k * 11 + 10, none⟩) lq).trans c10
                     have lq7 : q < w7.heap.size := Nat.lt_of_lt_of_le lq B7.out.size
                     have HO7 := Lib.hid (HO5.out.below B7.out (Nat.le_refl _))
                     have h7l : w5.heap.size ≤ w7.heap.size := B7.out.size
                     clear hn7 hb7)
                  | (refine step_append_own rfl (.tmp 75) (.tmp 84) 29 rfl ww.heap.size 53 i0 (.agg #[.int .i64 0, .slice none 0 0, .slice none 0 0]) 3 56 Try.underlying29 hi hz0 hz1 hz2 rfl (by decide) (.slice Ap np cpp) xs5.length (xs5.flatMap fG) (by simp [Act.eval]) (HO7.out.below (below1 _ _) (Nat.le_refl _)) ⟨w7.heap.size, 0, none⟩ 1 1 (fG ⟨(m : Int), .slice A8 n8 c8_, .slice A11 n11 c11⟩) (by simp [Act.eval]) rfl (fun j u h => alloc_cells (vs := fG ⟨(m : Int), .slice A8 n8 c8_, .slice A11 n11 c11⟩) (W := w7) j u h) (by intro u hu; simp [fG] at hu; rcases hu with rfl | rfl | rfl <;> rfl) (by unfold maxLen; omega) (by omega) (by simp; omega) ?_
                     intro v9 w9 hown hgrow
                     have HOS := HO7.out.below (below1 w7 (.cells (fG ⟨(m : Int), .slice A8 n8 c8_, .slice A11 n11 c11⟩).toArray 53)) (Nat.le_refl _)
                     have KT9 : Hid (KeepT (fun T' => T' ≠ 53) w7 w9) := Lib.hid (fun g T' cs' hT hb => by
                       have hb2 := hb.below (below1 w7 (.cells (fG ⟨(m : Int), .slice A8 n8 c8_, .slice A11 n11 c11⟩).toArray 53))
                       exact (hgrow.block g hb2.lt (own_ne HOS hb2 hT).symm).trans hb2)
                     have LB9 := Lib.hid (((below1 w7 (.cells (fG ⟨(m : Int), .slice A8 n8 c8_, .slice A11 n11 c11⟩).toArray 53)).mono (by omega)).trans (grown_below hgrow HOS (Nat.le_refl _) (by simp; omega)))
                     obtain ⟨g9, c9_, rfl, hg9, hc9, hm9⟩ := own_form hown (by omega)
                     have HO9 : Hid (Os fG 3 53 w9 ww.heap.size (.slice (some ⟨g9, 0, none⟩) (xs5.length + 1) c9_) (xs5 ++ [⟨(m : Int), .slice A8 n8 c8_, .slice A11 n11 c11⟩])) := Lib.hid (os_append (ys := [(⟨(m : Int), .slice A8 n8 c8_, .slice A11 n11 c11⟩ : PgV)]) (by rw [List.flatMap_cons, List.flatMap_nil, List.append_nil]; exact hown) rfl)
                     have XV9 := Lib.hid (KT9.out _ _ _ (by decide) (XV5.out.below B7.out))
                     have c19 : w9.cell? ⟨q, k * 11 + 10, none⟩ = some (.slice Ap np cpp) := by rw [XV9.out.cell]; exact Array.getElem?_setIfInBounds_self_of_lt (by have := S8.out; omega)
                     have f19 : w9.frozen? ⟨q, k * 11 + 10, none⟩ = false := XV9.out.free _
                     have lq9 : q < w9.heap.size := XV9.out.lt
                     clear HOS
                     clear hown hgrow))
                all_goals
                  go_wp2
                  go_roundw
                  case rel =>
                    exact ⟨m + 1, by omega, by go_num, Lib.hid (LpP.push X8.out HKV.out (K5.out.trans (B7.out.mono K5.out.size)) LB9.out XV9.out HL5.out (fun i x n hx hn => (HP5.out i x n hx hn).keepT (E := fun _ => True) (KeepT.of B7.out) trivial trivial) KT9.out HO9.out N8.out N11.out HPT.out)⟩
                  case measure => simp [intOf]; omega
            · obtain rfl : m = 64 := by omega
              have HFIN := Lib.hid (LpS.push HPE.out K8.out X8.out S8.out E8.out V8.out HL.out (Nat.le_trans L1.out.size K8.out.size) G8.out.1 G8.out.2.1 O8.out G8.out.2.2.2 hlt)
              clear HL
              go_wp2
              go_roundw
              case rel => exact ⟨k + 1, by omega, by go_num, HFIN⟩
              case measure => simp [intOf]; omega
        · obtain rfl : k = 4 := by omega
          obtain ⟨cs, hx, hs, ho, hv⟩ := HL.out.arr
          have HX4 := Lib.hid hx
          have HS4 := Lib.hid hs
          have HO4 := Lib.hid ho
          have HV4 := Lib.hid hv
          have HK4 := Lib.hid HL.out.keep
          have KT4 : Hid (KeepT (fun T' => T' ≠ 32) ws wr) := Lib.hid (KeepT.of_keep HK4.out HQ0.out)
          have A4 := Lib.hid (A1.out.keepT KT4.out (by decide))
          have R4 : Hid (Bx wr w.heap.size 32 zS4) := Lib.hid (HK4.out.bx R1.out (by omega))
          have L4 := Lib.hid (L1.out.trans (HK4.out.below (B := w.heap.size) (by rintro k rfl; omega) L1.out.size))
          clear hx hs ho hv HL
          go_wp2
          refine wp_relt 3 [] (by kernel_rfl) (by kernel_rfl) (by kernel_rfl) ?_
          intro V hV
          simp only [List.take_succ_cons, List.take_zero, List.drop_succ_cons, List.drop_zero]
          refine rq rfl rfl ?_; go_big_quiet_step (fail); refine wpQuiet_nil ?_
          refine rf (.agg cs) (by kernel_rfl) rfl (fun w' hb hf => ex_ld rfl (run_ld Try.underlying32 rfl infoS4 (HX4.out.below hb) (Sub.all _) HS4.out)) ?_
          go_big_quiet_step (fail)
          refine wpQuiet_nil ?_
          refine rq rfl rfl ?_; go_big_quiet_step (fail); refine wpQuiet_nil ?_
          refine rend ?_
          intro w7 hb7 hf
          clear hf hV
          have R7 := Lib.hid (R4.out.below hb7)
          have A7 := Lib.hid (A4.out.below hb7 (Nat.le_refl _))
          have L7 := Lib.hid (L4.out.trans (hb7.mono L4.out.size))
          have V7 : Hid (Seem w7 w.heap.size cs S.1) := Lib.hid ⟨HS4.out, HO4.out, fun k hk => (HV4.out k hk).keepT (KeepT.of hb7)⟩
          have HZ4 : Hid (zS4.size = 44) := Lib.hid rfl
          clear hb7
          refine stB infoS4 w.heap.size cs rfl rfl R7.out HZ4.out HS4.out HO4.out ?_
          have KR : KeepT (fun T' => T' ≠ 32) w7 (w7.setRow w.heap.size cs) := fun g T' cs' hT hb => hb.orow (bx_ne hb R7.out hT) cs
          have A8 := Lib.hid (A7.out.keepT KR (by decide))
          have V8 := Lib.hid (V7.out.keepT (KR.weak fun T hT => by unfold Seen at hT; rcases hT with rfl | rfl | rfl | rfl | rfl <;> decide))
          have L8 := Lib.hid (below_setRow L7.out (Nat.le_refl _) cs)
          have R8 := Lib.hid (R7.out.row cs)
          clear KR
          go_wp2
          try simp only [Exit.inBlock, Exit.then]
          refine bodyPost_ret (v := .tuple #[u5, .agg cs]) ?_ rfl ?_
          rotate_left
          · exact ⟨u5, cs, rfl, by rw [← HSX.out]; exact A8.out, by rw [← HSX.out]; exact V8.out, L8.out⟩
          · rw [results_tmp_cell rfl]; simp [asAddr, Result.andThen, Act.put, run_ldv Try.underlying32 rfl infoS4 R8.out (Sub.all _) HS4.out]
end Go.Proofs.Ytglnnplijienbaa

/- alive14: what it asks first. -/
namespace Go.Proofs.Ytglnnplijienbaa
open Go.ChangeShapes Go.WideShapes Go.ChangeAt Go.RowKit Go.Joins
set_option linter.unusedVariables false
set_option linter.unusedSimpArgs false
set_option maxRecDepth 100000
def L14 : List Fop := [⟨1, 0, 0, 2, 3, 0, true, 0, 0, 0, 0, 0⟩, ⟨13, 0, 0, 1, 0, 0, false, 0, 48, 0, 0, 5⟩, ⟨11, 0, 0, 0, 0, 0, false, 0, 62, 2, 258, 5⟩, ⟨10, 0, 0, 0, 0, 0, false, 0, 60, 4, 0, 5⟩, ⟨10, 0, 0, 0, 0, 0, false, 0, 63, 2, 0, 5⟩]
theorem l14_ans : (runF L14).2.length = 5 ∧ (runF L14).2[3]? = some ⟨0, 16908288, 0, 0⟩ ∧ (runF L14).2[4]? = some ⟨8, 0, 4, 64⟩ := by decide +kernel
theorem l14_live : ((runF L14).1 0).live = true := by decide +kernel
theorem l14_pages : (pagesN ((runF L14).1 0).rg).length = 2 := by decide +kernel
abbrev c14 : Array Value := #[.int .i64 1, .int .i64 0, .int .i64 0, .int .i64 2, .int .i64 3, .int .i64 0, .bool true, .int .i64 0, .int .i64 0, .int .i64 0, .int .i64 0, .int .i64 0, .int .i64 13, .int .i64 0, .int .i64 0, .int .i64 1, .int .i64 0, .int .i64 0, .bool false, .int .i64 0, .int .i64 48, .int .i64 0, .int .i64 0, .int .i64 5, .int .i64 11, .int .i64 0, .int .i64 0, .int .i64 0, .int .i64 0, .int .i64 0, .bool false, .int .i64 0, .int .i64 62, .int .i64 2, .int .i64 258, .int .i64 5, .int .i64 10, .int .i64 0, .int .i64 0, .int .i64 0, .int .i64 0, .int .i64 0, .bool false, .int .i64 0, .int .i64 60, .int .i64 4, .int .i64 0, .int .i64 5, .int .i64 10, .int .i64 0, .int .i64 0, .int .i64 0, .int .i64 0, .int .i64 0, .bool false, .int .i64 0, .int .i64 63, .int .i64 2, .int .i64 0, .int .i64 5]
theorem c14_eq : c14 = (L14.flatMap fO).toArray := rfl
theorem rw_new {α : Type} {f : α → List Value} {sz : Nat} (hf : ∀ x, (f x).length = sz) {T : TypeId} {w : World} {g : Nat} {xs : List α} (h : Bx w g T (xs.flatMap f).toArray) (hl : xs.length ≤ maxLen) : Rw f sz w w.heap.size (some ⟨g, 0, none⟩) xs.length xs :=
  ⟨rfl, hl, fun _ => ⟨g, 0, rfl, h.lt, fun i x hx j v hv => by
    have hj : j < sz := by have := (List.getElem?_eq_some_iff.1 hv).1; rwa [hf] at this
    rw [h.cell, Nat.zero_add, List.getElem?_toArray, flat_at hf xs i x hx j hj, hv]⟩⟩
theorem run_eqN (a0 a1 a2 a3 b0 b1 b2 b3 : Int) (w : World) : (Op.equalIn 10000 47 (.agg #[.int .i64 a0, .int .i64 a1, .int .i64 a2, .int .i64 a3]) (.agg #[.int .i64 b0, .int .i64 b1, .int .i64 b2, .int .i64 b3])).run Try.prog w = .ok (a0 == b0 && a1 == b1 && a2 == b2 && a3 == b3) w := by
  by_cases h0 : a0 = b0 <;> by_cases h1 : a1 = b1 <;> by_cases h2 : a2 = b2 <;> by_cases h3 : a3 = b3 <;> simp [go_sem, Try.underlying47, Try.underlying3, Try.underlying45, h0, h1, h2, h3]
/-- The answers' cells. -/
theorem ans_cells {w : World} {base : Nat} {v : Value} {l : List Fan} (h : Os fN 4 47 w base v l) (h0 : 0 < l.length) : ∃ g c, v = .slice (some ⟨g, 0, none⟩) l.length c ∧ g < w.heap.size ∧ ∀ i a, l[i]? = some a → ∀ j u, (fN a)[j]? = some u → w.cell? ⟨g, i * 4 + j, none⟩ = some u := by
  obtain ⟨g, c, e, _, _, _⟩ := own_form h h0
  subst e
  obtain ⟨A, c', e, _, _, hr⟩ := h.row fN_len
  injection e with e1 e2 e3
  subst e1
  obtain ⟨b, o, e, hb⟩ := hr.open h0
  injection e with e
  injection e with e1 e2
  subst e1 e2
  exact ⟨_, c, rfl, hb, fun i a ha j u hu => by have := hr.at_ fN_len ha j u hu; rwa [Nat.zero_add] at this⟩
attribute [local go_sem] run_eqN
set_option maxHeartbeats 8000000 in
theorem alive14_any (w : World) : Calls Try.prog 8 #[] w fun e w' => e = .returned (.bool true) ∧ Below w.heap.size w w' := by
  have HB0 := Lib.hid (below1 w (.cells c14 43))
  have HRW := Lib.hid (rw_new (f := fO) (sz := 12) fO_len (w := w.alloc (.cells c14 43)) (T := 43) (g := w.heap.size) (xs := L14) (Bx.new _ _ _) (by decide))
  have HRUN := Lib.hid (run_any (some ⟨w.heap.size, 0, none⟩) 5 5 L14 (w.alloc (.cells c14 43)) _ HRW.out (Nat.le_refl _) (by decide) (by
    intro x hx
    simp only [L14, List.mem_cons, List.not_mem_nil, or_false] at hx
    rcases hx with rfl | rfl | rfl | rfl | rfl <;> (unfold Fop.fits I64; simp)))
  go_enter Try.func8, Try.ntmps8
  go_wp2_with (first
    | (go_at_call 9
       refine HRUN.out.mono ?_
       rintro e w2 ⟨va, cs, rfl, ha, hs, hb2⟩
       obtain ⟨hl, h3, h4⟩ := l14_ans
       obtain ⟨g, c, rfl, hg, hc⟩ := ans_cells ha (by omega)
       rw [hl]
       have d0 : w2.cell? ⟨g, 13, none⟩ = some (.int .i64 16908288) := hc 3 _ h3 1 _ rfl
       have d1 : w2.cell? ⟨g, 16, none⟩ = some (.int .i64 8) := hc 4 _ h4 0 _ rfl
       have d2 : w2.cell? ⟨g, 17, none⟩ = some (.int .i64 0) := hc 4 _ h4 1 _ rfl
       have d3 : w2.cell? ⟨g, 18, none⟩ = some (.int .i64 4) := hc 4 _ h4 2 _ rfl
       have d4 : w2.cell? ⟨g, 19, none⟩ = some (.int .i64 64) := hc 4 _ h4 3 _ rfl
       have HS := Lib.hid hs.size
       have HO := Lib.hid hs.one
       have hv := hs.each 0 (by decide)
       have q0 : cs[0]? = some (.bool true) := by have := hv.live; rw [l14_live] at this; simpa using this
       have HQ0 := Lib.hid q0
       obtain ⟨vp, q1, q2⟩ := hv.pg
       have HQ1 := Lib.hid q1
       obtain ⟨xs, q3, q4, _⟩ := q2
       obtain ⟨Ap, cp, rfl, _, _, _⟩ := q3.row fG_len
       rw [q4, l14_pages] at HQ1
       have HB2 := Lib.hid (HB0.out.trans (hb2.mono HB0.out.size))
       have k0 : (w2.alloc (.cells cs 32)).cell? ⟨w2.heap.size, 0, none⟩ = some (.bool true) := by rw [(Bx.new _ _ _).cell]; exact HQ0.out
       have k1 : (w2.alloc (.cells cs 32)).cell? ⟨w2.heap.size, 10, none⟩ = some (.slice Ap 2 cp) := by rw [(Bx.new _ _ _).cell]; exact HQ1.out
       clear ha hs hc hv q0 q1 q3 q4 h3 h4 hb2)
    | ((with_reducible refine stN infoS4 cs ?_ ?_ rfl HS.out HO.out ?_); rfl; rfl))
  go_ret
  exact ⟨ret_b rfl, HB2.out.trans ((below1 _ _).mono HB2.out.size)⟩
end Go.Proofs.Ytglnnplijienbaa
