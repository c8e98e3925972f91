/- flat.Shape. -/
import Derived.Test.YtglnnplijienbaaCFlc
namespace Go.Proofs.Ytglnnplijienbaa
open Go.ChangeShapes Go.WideShapes Go.ChangeAt Go.RowKit Go.Joins
set_option linter.unusedVariables false
set_option linter.unusedSimpArgs false
set_option maxRecDepth 100000
theorem sealed_ans : AnsA 45 (fun a => a.s) := by
  intro W x
  go_enter Try.func45, Try.ntmps45
  go_wp2
  go_ret
  exact ⟨ret_b rfl, (Below.refl _ _).alloc (Nat.le_refl _) _⟩
set_option maxHeartbeats 16000000 in
theorem shape2 {w : World} {v : Value} {l : List Rgn} (h : Rv w v l) (K : Key4) (o : Fop) (ho : o.fits) (hkd : o.kind = 2) :
    Calls Try.prog 34 #[v, K.v, o.v] w (GivesMA w (shapeF l K o)) := by
  obtain ⟨k, pr, pg, cn, ri, ke, tgd, dr, ad, sz, va, ta⟩ := o
  obtain ⟨t0, d0, t1, d1, t2, d2, t3, d3⟩ := K
  simp only at hkd
  subst hkd
  unfold Fop.fits I64 at ho
  simp only at ho
  obtain ⟨fk, fp, fpg, fc, fri, fke, fdr, fad, fsz, fva, fta⟩ := ho
  simp only [Fop.v, Key4.v]
  have HFA := Lib.hid (fun (e : Int) (W : World) => fails_any e W)
  have HWR := Lib.hid (fun (W : World) => wrong_any ri W)
  have HSP := Lib.hid (fun (W : World) => spanF_any pg cn fpg fc W)
  have HE1 : Hid ((w.alloc (.cells #[.bool t0, .int .i64 d0, .bool t1, .int .i64 d1, .bool t2, .int .i64 d2, .bool t3, .int .i64 d3] 28)).heap.size = w.heap.size + 1) := Lib.hid (by simp)
  have HE2 : Hid (((w.alloc (.cells #[.bool t0, .int .i64 d0, .bool t1, .int .i64 d1, .bool t2, .int .i64 d2, .bool t3, .int .i64 d3] 28)).alloc (.cells #[.int .i64 2, .int .i64 pr, .int .i64 pg, .int .i64 cn, .int .i64 ri, .int .i64 ke, .bool tgd, .int .i64 dr, .int .i64 ad, .int .i64 sz, .int .i64 va, .int .i64 ta] 43)).heap.size = w.heap.size + 1 + 1) := Lib.hid (by simp)
  have HW3 : Hid (Below w.heap.size w (((w.alloc (.cells #[.bool t0, .int .i64 d0, .bool t1, .int .i64 d1, .bool t2, .int .i64 d2, .bool t3, .int .i64 d3] 28)).alloc (.cells #[.int .i64 2, .int .i64 pr, .int .i64 pg, .int .i64 cn, .int .i64 ri, .int .i64 ke, .bool tgd, .int .i64 dr, .int .i64 ad, .int .i64 sz, .int .i64 va, .int .i64 ta] 43)).alloc (.cells #[.int .i64 0, .int .i64 0, .int .i64 0, .int .i64 0] 47))) := Lib.hid ((((Below.refl _ _).alloc (Nat.le_refl _) _).alloc (by simp) _).alloc (by simp; omega) _)
  have HX3 : Hid (Bx (((w.alloc (.cells #[.bool t0, .int .i64 d0, .bool t1, .int .i64 d1, .bool t2, .int .i64 d2, .bool t3, .int .i64 d3] 28)).alloc (.cells #[.int .i64 2, .int .i64 pr, .int .i64 pg, .int .i64 cn, .int .i64 ri, .int .i64 ke, .bool tgd, .int .i64 dr, .int .i64 ad, .int .i64 sz, .int .i64 va, .int .i64 ta] 43)).alloc (.cells #[.int .i64 0, .int .i64 0, .int .i64 0, .int .i64 0] 47)) (w.heap.size + 1 + 1) 47 #[.int .i64 0, .int .i64 0, .int .i64 0, .int .i64 0]) := Lib.hid (by rw [← HE2.out]; exact Bx.new _ _ _)
  have HO3 : Hid (Bx (((w.alloc (.cells #[.bool t0, .int .i64 d0, .bool t1, .int .i64 d1, .bool t2, .int .i64 d2, .bool t3, .int .i64 d3] 28)).alloc (.cells #[.int .i64 2, .int .i64 pr, .int .i64 pg, .int .i64 cn, .int .i64 ri, .int .i64 ke, .bool tgd, .int .i64 dr, .int .i64 ad, .int .i64 sz, .int .i64 va, .int .i64 ta] 43)).alloc (.cells #[.int .i64 0, .int .i64 0, .int .i64 0, .int .i64 0] 47)) (w.heap.size + 1) 43 #[.int .i64 2, .int .i64 pr, .int .i64 pg, .int .i64 cn, .int .i64 ri, .int .i64 ke, .bool tgd, .int .i64 dr, .int .i64 ad, .int .i64 sz, .int .i64 va, .int .i64 ta]) := Lib.hid (by rw [← HE1.out]; exact (Bx.new _ _ _).below (below1 _ _))
  have HD3 : Hid (∀ m, Below w.heap.size w ((((w.alloc (.cells #[.bool t0, .int .i64 d0, .bool t1, .int .i64 d1, .bool t2, .int .i64 d2, .bool t3, .int .i64 d3] 28)).alloc (.cells #[.int .i64 2, .int .i64 pr, .int .i64 pg, .int .i64 cn, .int .i64 ri, .int .i64 ke, .bool tgd, .int .i64 dr, .int .i64 ad, .int .i64 sz, .int .i64 va, .int .i64 ta] 43)).alloc (.cells #[.int .i64 0, .int .i64 0, .int .i64 0, .int .i64 0] 47)).drewN m)) := Lib.hid (fun m => HW3.out.trans (below_drewN _ _ _))
  have XD3 : Hid (∀ m, Bx ((((w.alloc (.cells #[.bool t0, .int .i64 d0, .bool t1, .int .i64 d1, .bool t2, .int .i64 d2, .bool t3, .int .i64 d3] 28)).alloc (.cells #[.int .i64 2, .int .i64 pr, .int .i64 pg, .int .i64 cn, .int .i64 ri, .int .i64 ke, .bool tgd, .int .i64 dr, .int .i64 ad, .int .i64 sz, .int .i64 va, .int .i64 ta] 43)).alloc (.cells #[.int .i64 0, .int .i64 0, .int .i64 0, .int .i64 0] 47)).drewN m) (w.heap.size + 1 + 1) 47 #[.int .i64 0, .int .i64 0, .int .i64 0, .int .i64 0]) := Lib.hid (fun m => HX3.out.below (below_drewN _ _ _))
  have OD3 : Hid (∀ m, Bx ((((w.alloc (.cells #[.bool t0, .int .i64 d0, .bool t1, .int .i64 d1, .bool t2, .int .i64 d2, .bool t3, .int .i64 d3] 28)).alloc (.cells #[.int .i64 2, .int .i64 pr, .int .i64 pg, .int .i64 cn, .int .i64 ri, .int .i64 ke, .bool tgd, .int .i64 dr, .int .i64 ad, .int .i64 sz, .int .i64 va, .int .i64 ta] 43)).alloc (.cells #[.int .i64 0, .int .i64 0, .int .i64 0, .int .i64 0] 47)).drewN m) (w.heap.size + 1) 43 #[.int .i64 2, .int .i64 pr, .int .i64 pg, .int .i64 cn, .int .i64 ri, .int .i64 ke, .bool tgd, .int .i64 dr, .int .i64 ad, .int .i64 sz, .int .i64 va, .int .i64 ta]) := Lib.hid (fun m => HO3.out.below (below_drewN _ _ _))
  obtain ⟨A, n, c, rfl, hz, hn⟩ := h
  have HSE := Lib.hid (fun (W : World) (hb : Below w.heap.size w W) => (show Calls Try.prog 43 #[.slice A n c, .int .i64 pg, .int .i64 (pg + cn)] W (TR (turnL l pg (pg + cn) sealA) (turnE l pg (pg + cn)) W) from Seal_any A n c l pg (pg + cn) W w.heap.size (hz.below hb) hb.size (by omega)))
  have HSO := Lib.hid (fun (W : World) (hb : Below w.heap.size w W) => some_any _ (enters_of Try.func45 (by kernel_rfl) rfl) _ sealed_ans A n c l pg (pg + cn) W w.heap.size (hz.below hb) hb.size (by omega))
  have HCU := Lib.hid (fun (W : World) (hb : Below w.heap.size w W) => rcut_any A n c l pg (pg + cn) W w.heap.size (hz.below hb) hb.size (by omega))
  have HGU := Lib.hid (fun (W : World) (hb : Below w.heap.size w W) => (show Calls Try.prog 47 #[.slice A n c, .int .i64 pg, .int .i64 (pg + cn), .int .i64 ri, .int .i64 ke] W (TR (turnL l pg (pg + cn) (guardA ri ke)) (turnE l pg (pg + cn)) W) from Guard_any A n c l pg (pg + cn) ri ke W w.heap.size (hz.below hb) hb.size (by omega)))
  have HS := Lib.hid (show shapeF l ⟨t0, d0, t1, d1, t2, d2, t3, d3⟩ ⟨2, pr, pg, cn, ri, ke, tgd, dr, ad, sz, va, ta⟩ = (if spanF pg cn = false then (([], failA 2) : List Rgn × Fan)
    else if (if (2 : Int) = 3 then (if wrongE ri ≠ 0 then wrongE ri else if (Key4.mk t0 d0 t1 d1 t2 d2 t3 d3).tk ke = false then 3 else 0) else 0) ≠ 0 then ([], failA (if (2 : Int) = 3 then (if wrongE ri ≠ 0 then wrongE ri else if (Key4.mk t0 d0 t1 d1 t2 d2 t3 d3).tk ke = false then 3 else 0) else 0))
    else if turnE l pg (pg + cn) ≠ 0 ∧ (2 : Int) ≠ 2 then ([], failA 1)
    else if (2 : Int) = 4 then (turnL l pg (pg + cn) sealA, failA 0)
    else if ((inL pg (pg + cn) l).any fun x => x.a.s) = true then ([], failA 7)
    else if (2 : Int) = 2 then (cutL l pg (pg + cn), failA (cutE l pg (pg + cn)))
    else (turnL l pg (pg + cn) (guardA ri ke), failA (turnE l pg (pg + cn)))) from rfl)
  clear hz
  generalize shapeF l ⟨t0, d0, t1, d1, t2, d2, t3, d3⟩ ⟨2, pr, pg, cn, ri, ke, tgd, dr, ad, sz, va, ta⟩ = rs at *
  have hsp2 : spanF pg cn = true → 0 ≤ pg ∧ 1 ≤ cn ∧ cn ≤ 64 ∧ pg ≤ 64 - cn := fun h => by unfold spanF at h; simp at h; omega
  obtain ⟨se, hse⟩ : ∃ e, e = turnE l pg (pg + cn) := ⟨_, rfl⟩
  obtain ⟨sl, hsl⟩ : ∃ e, e = turnL l pg (pg + cn) sealA := ⟨_, rfl⟩
  obtain ⟨gl, hgl⟩ : ∃ e, e = turnL l pg (pg + cn) (guardA ri ke) := ⟨_, rfl⟩
  obtain ⟨sm, hsm⟩ : ∃ e, e = ((inL pg (pg + cn) l).any fun x => x.a.s) := ⟨_, rfl⟩
  obtain ⟨cl, hcl⟩ : ∃ e, e = cutL l pg (pg + cn) := ⟨_, rfl⟩
  obtain ⟨ce, hce⟩ : ∃ e, e = cutE l pg (pg + cn) := ⟨_, rfl⟩
  obtain ⟨sp, hsp⟩ : ∃ e, e = spanF pg cn := ⟨_, rfl⟩
  obtain ⟨er, her⟩ : ∃ e, e = wrongE ri := ⟨_, rfl⟩
  rw [← hse, ← hsl] at HSE
  rw [← hse, ← hgl] at HGU
  rw [← hsm] at HSO
  rw [← hcl, ← hce] at HCU
  rw [← hse, ← hsl, ← hgl, ← hsm, ← hcl, ← hce, ← hsp, ← her] at HS
  rw [← hsp] at HSP hsp2
  rw [← her] at HWR
  clear hse hsl hgl hsm hcl hce hsp her
  cases sp with
  | false =>
    have HRES : Hid (rs = ([], failA 2)) := Lib.hid (by rw [HS.out, if_pos rfl])
    clear HS HSE HSO HCU HGU hsp2
    go_enter Try.func34, Try.ntmps34
    go_wp2_with (first
      | (go_at_call 42; refine (HSP.out _).mono ?_; rintro e w' ⟨rfl, rfl⟩)
      | ((with_reducible refine stB infoN (w.heap.size + 1 + 1) (nA (failA 2)) ?_ ?_ X9.out rfl rfl (nA_one _) ?_); rfl; rfl)
      | (go_at_call 31; refine (HFA.out 2 _).mono ?_; rintro e w9 ⟨rfl, hb9⟩; have X9 := Lib.hid (HX3.out.below hb9); have K9 := Lib.hid (HW3.out.trans (hb9.mono HW3.out.size)); clear hb9))
    try simp only [Exit.inBlock, Exit.then]
    refine bodyPost_ret (v := .tuple #[.slice none 0 0, ((failA 2) : Fan).v]) ?_ rfl ?_
    rotate_left
    · rw [HRES.out]; exact finMA (r := ([], (failA 2))) X9.out Os.nil K9.out (by omega) (fun k h => by cases h)
    · rw [results_tmp_cell rfl]; simp [asAddr, Result.andThen, Act.put, run_ansv (X9.out.row _)]
  | true =>
    obtain ⟨q0, q1, q2, q3⟩ := hsp2 rfl
    clear hsp2
    have HS2 : Hid (rs = if sm = true then (([], failA 7) : List Rgn × Fan) else (cl, failA ce)) := Lib.hid (by rw [HS.out, if_neg (by intro h; cases h), if_neg (by simp), if_neg (by simp), if_neg (by decide)]; cases sm <;> simp)
    clear HS HGU
    have hse : (se != 0) = decide (se ≠ 0) := by by_cases e : se = 0 <;> simp [e]
    cases sm with
    | true =>
      have HRES : Hid (rs = ([], failA 7)) := Lib.hid (by rw [HS2.out, if_pos rfl])
      clear HS2 HCU
      by_cases c1 : se = 0
      · subst c1
        go_enter Try.func34, Try.ntmps34
        go_wp2_with (first
          | (go_at_call 42; refine (HSP.out _).mono ?_; rintro e w' ⟨rfl, rfl⟩))
        go_quiet (fail)
        go_wp2_with (first
          | (go_at_call 43
             refine (HSE.out _ (HD3.out _)).mono ?_
             rintro e w4 ⟨u4, rfl, ho4, hb4⟩
             have X4 := Lib.hid ((XD3.out _).below hb4)
             have K4 := Lib.hid ((HD3.out _).trans (hb4.mono (HD3.out _).size))
             have U4 := Lib.hid (ho4.rebase (HD3.out _).size)
             have N4 : Hid (∀ k, u4.ownBlock = some k → k ≠ w.heap.size + 1 + 1) := Lib.hid (fun k hk => Nat.ne_of_gt (Nat.lt_of_lt_of_le (XD3.out _).lt (ho4.blk_lt2 k hk).2))
             have O4 := Lib.hid ((OD3.out _).below hb4)
             have hz4 : w.heap.size + 1 + 1 < w4.heap.size := X4.out.lt
             have o0 : w4.cell? ⟨w.heap.size + 1, 0, none⟩ = some (.int .i64 2) := by rw [O4.out.cell]; rfl
             clear hb4 ho4)
          | (go_at_call 44
             refine (HSO.out w4 K4.out).mono ?_
             rintro e w5 ⟨rfl, hb5⟩
             have X5 := Lib.hid (X4.out.below hb5)
             have K5 := Lib.hid (K4.out.trans (hb5.mono K4.out.size))
             have O5 := Lib.hid (O4.out.below hb5)
             have hz5 : w.heap.size + 1 + 1 < w5.heap.size := X5.out.lt
             have p0 : w5.cell? ⟨w.heap.size + 1, 0, none⟩ = some (.int .i64 2) := by rw [O5.out.cell]; rfl
             clear hb5)
          | ((with_reducible refine stB infoN (w.heap.size + 1 + 1) (nA (failA 7)) ?_ ?_ X9.out rfl rfl (nA_one _) ?_); rfl; rfl)
          | (go_at_call 31; refine (HFA.out 7 _).mono ?_; rintro e w9 ⟨rfl, hb9⟩; have X9 := Lib.hid (X5.out.below hb9); have K9 := Lib.hid (K5.out.trans (hb9.mono K5.out.size)); clear hb9))
        try simp only [Exit.inBlock, Exit.then]
        refine bodyPost_ret (v := .tuple #[.slice none 0 0, ((failA 7) : Fan).v]) ?_ rfl ?_
        rotate_left
        · rw [HRES.out]; exact finMA (r := ([], (failA 7))) X9.out Os.nil K9.out (by omega) (fun k h => by cases h)
        · rw [results_tmp_cell rfl]; simp [asAddr, Result.andThen, Act.put, run_ansv (X9.out.row _)]
      · have hne : (se != 0) = true := by rw [bne_iff_ne]; exact c1
        go_enter Try.func34, Try.ntmps34
        go_wp2_with (first
          | (go_at_call 42; refine (HSP.out _).mono ?_; rintro e w' ⟨rfl, rfl⟩))
        go_quiet (fail)
        go_wp2_with (first
          | (go_at_call 43
             refine (HSE.out _ (HD3.out _)).mono ?_
             rintro e w4 ⟨u4, rfl, ho4, hb4⟩
             have X4 := Lib.hid ((XD3.out _).below hb4)
             have K4 := Lib.hid ((HD3.out _).trans (hb4.mono (HD3.out _).size))
             have U4 := Lib.hid (ho4.rebase (HD3.out _).size)
             have N4 : Hid (∀ k, u4.ownBlock = some k → k ≠ w.heap.size + 1 + 1) := Lib.hid (fun k hk => Nat.ne_of_gt (Nat.lt_of_lt_of_le (XD3.out _).lt (ho4.blk_lt2 k hk).2))
             have O4 := Lib.hid ((OD3.out _).below hb4)
             have hz4 : w.heap.size + 1 + 1 < w4.heap.size := X4.out.lt
             have o0 : w4.cell? ⟨w.heap.size + 1, 0, none⟩ = some (.int .i64 2) := by rw [O4.out.cell]; rfl
             clear hb4 ho4)
          | (go_at_call 44
             refine (HSO.out w4 K4.out).mono ?_
             rintro e w5 ⟨rfl, hb5⟩
             have X5 := Lib.hid (X4.out.below hb5)
             have K5 := Lib.hid (K4.out.trans (hb5.mono K4.out.size))
             have O5 := Lib.hid (O4.out.below hb5)
             have hz5 : w.heap.size + 1 + 1 < w5.heap.size := X5.out.lt
             have p0 : w5.cell? ⟨w.heap.size + 1, 0, none⟩ = some (.int .i64 2) := by rw [O5.out.cell]; rfl
             clear hb5)
          | ((with_reducible refine stB infoN (w.heap.size + 1 + 1) (nA (failA 7)) ?_ ?_ X9.out rfl rfl (nA_one _) ?_); rfl; rfl)
          | (go_at_call 31; refine (HFA.out 7 _).mono ?_; rintro e w9 ⟨rfl, hb9⟩; have X9 := Lib.hid (X5.out.below hb9); have K9 := Lib.hid (K5.out.trans (hb9.mono K5.out.size)); clear hb9))
        try simp only [Exit.inBlock, Exit.then]
        refine bodyPost_ret (v := .tuple #[.slice none 0 0, ((failA 7) : Fan).v]) ?_ rfl ?_
        rotate_left
        · rw [HRES.out]; exact finMA (r := ([], (failA 7))) X9.out Os.nil K9.out (by omega) (fun k h => by cases h)
        · rw [results_tmp_cell rfl]; simp [asAddr, Result.andThen, Act.put, run_ansv (X9.out.row _)]
    | false =>
      have HRES : Hid (rs = (cl, failA ce)) := Lib.hid (by rw [HS2.out, if_neg (by intro h; cases h)])
      clear HS2
      by_cases c1 : se = 0
      · subst c1
        go_enter Try.func34, Try.ntmps34
        go_wp2_with (first
          | (go_at_call 42; refine (HSP.out _).mono ?_; rintro e w' ⟨rfl, rfl⟩))
        go_quiet (fail)
        go_wp2_with (first
          | (go_at_call 43
             refine (HSE.out _ (HD3.out _)).mono ?_
             rintro e w4 ⟨u4, rfl, ho4, hb4⟩
             have X4 := Lib.hid ((XD3.out _).below hb4)
             have K4 := Lib.hid ((HD3.out _).trans (hb4.mono (HD3.out _).size))
             have U4 := Lib.hid (ho4.rebase (HD3.out _).size)
             have N4 : Hid (∀ k, u4.ownBlock = some k → k ≠ w.heap.size + 1 + 1) := Lib.hid (fun k hk => Nat.ne_of_gt (Nat.lt_of_lt_of_le (XD3.out _).lt (ho4.blk_lt2 k hk).2))
             have O4 := Lib.hid ((OD3.out _).below hb4)
             have hz4 : w.heap.size + 1 + 1 < w4.heap.size := X4.out.lt
             have o0 : w4.cell? ⟨w.heap.size + 1, 0, none⟩ = some (.int .i64 2) := by rw [O4.out.cell]; rfl
             clear hb4 ho4)
          | (go_at_call 44
             refine (HSO.out w4 K4.out).mono ?_
             rintro e w5 ⟨rfl, hb5⟩
             have X5 := Lib.hid (X4.out.below hb5)
             have K5 := Lib.hid (K4.out.trans (hb5.mono K4.out.size))
             have O5 := Lib.hid (O4.out.below hb5)
             have hz5 : w.heap.size + 1 + 1 < w5.heap.size := X5.out.lt
             have p0 : w5.cell? ⟨w.heap.size + 1, 0, none⟩ = some (.int .i64 2) := by rw [O5.out.cell]; rfl
             clear hb5)
          | (go_at_call 46
             refine (HCU.out w5 K5.out).mono ?_
             rintro e w6 ⟨u6, rfl, ho6, hb6⟩
             have X6 := Lib.hid (X5.out.below hb6)
             have K6 := Lib.hid (K5.out.trans (hb6.mono K5.out.size))
             have U6 := Lib.hid (ho6.rebase K5.out.size)
             have N6 : Hid (∀ k, u6.ownBlock = some k → k ≠ w.heap.size + 1 + 1) := Lib.hid (fun k hk => by have := (ho6.blk_lt2 k hk).2; omega)
             clear hb6 ho6)
          | ((with_reducible refine stB infoN (w.heap.size + 1 + 1) (nA (failA ce)) ?_ ?_ X9.out rfl rfl (nA_one _) ?_); rfl; rfl)
          | (go_at_call 31; refine (HFA.out ce _).mono ?_; rintro e w9 ⟨rfl, hb9⟩; have X9 := Lib.hid (X6.out.below hb9); have B9 := Lib.hid hb9; have K9 := Lib.hid (K6.out.trans (hb9.mono K6.out.size)); clear hb9))
        try simp only [Exit.inBlock, Exit.then]
        refine bodyPost_ret (v := .tuple #[u6, ((failA ce) : Fan).v]) ?_ rfl ?_
        rotate_left
        · rw [HRES.out]; exact finMA (r := (cl, (failA ce))) X9.out (U6.out.below B9.out (Nat.le_refl _)) K9.out (by omega) N6.out
        · rw [results_tmp_cell rfl]; simp [asAddr, Result.andThen, Act.put, run_ansv (X9.out.row _)]
      · have hne : (se != 0) = true := by rw [bne_iff_ne]; exact c1
        go_enter Try.func34, Try.ntmps34
        go_wp2_with (first
          | (go_at_call 42; refine (HSP.out _).mono ?_; rintro e w' ⟨rfl, rfl⟩))
        go_quiet (fail)
        go_wp2_with (first
          | (go_at_call 43
             refine (HSE.out _ (HD3.out _)).mono ?_
             rintro e w4 ⟨u4, rfl, ho4, hb4⟩
             have X4 := Lib.hid ((XD3.out _).below hb4)
             have K4 := Lib.hid ((HD3.out _).trans (hb4.mono (HD3.out _).size))
             have U4 := Lib.hid (ho4.rebase (HD3.out _).size)
             have N4 : Hid (∀ k, u4.ownBlock = some k → k ≠ w.heap.size + 1 + 1) := Lib.hid (fun k hk => Nat.ne_of_gt (Nat.lt_of_lt_of_le (XD3.out _).lt (ho4.blk_lt2 k hk).2))
             have O4 := Lib.hid ((OD3.out _).below hb4)
             have hz4 : w.heap.size + 1 + 1 < w4.heap.size := X4.out.lt
             have o0 : w4.cell? ⟨w.heap.size + 1, 0, none⟩ = some (.int .i64 2) := by rw [O4.out.cell]; rfl
             clear hb4 ho4)
          | (go_at_call 44
             refine (HSO.out w4 K4.out).mono ?_
             rintro e w5 ⟨rfl, hb5⟩
             have X5 := Lib.hid (X4.out.below hb5)
             have K5 := Lib.hid (K4.out.trans (hb5.mono K4.out.size))
             have O5 := Lib.hid (O4.out.below hb5)
             have hz5 : w.heap.size + 1 + 1 < w5.heap.size := X5.out.lt
             have p0 : w5.cell? ⟨w.heap.size + 1, 0, none⟩ = some (.int .i64 2) := by rw [O5.out.cell]; rfl
             clear hb5)
          | (go_at_call 46
             refine (HCU.out w5 K5.out).mono ?_
             rintro e w6 ⟨u6, rfl, ho6, hb6⟩
             have X6 := Lib.hid (X5.out.below hb6)
             have K6 := Lib.hid (K5.out.trans (hb6.mono K5.out.size))
             have U6 := Lib.hid (ho6.rebase K5.out.size)
             have N6 : Hid (∀ k, u6.ownBlock = some k → k ≠ w.heap.size + 1 + 1) := Lib.hid (fun k hk => by have := (ho6.blk_lt2 k hk).2; omega)
             clear hb6 ho6)
          | ((with_reducible refine stB infoN (w.heap.size + 1 + 1) (nA (failA ce)) ?_ ?_ X9.out rfl rfl (nA_one _) ?_); rfl; rfl)
          | (go_at_call 31; refine (HFA.out ce _).mono ?_; rintro e w9 ⟨rfl, hb9⟩; have X9 := Lib.hid (X6.out.below hb9); have B9 := Lib.hid hb9; have K9 := Lib.hid (K6.out.trans (hb9.mono K6.out.size)); clear hb9))
        try simp only [Exit.inBlock, Exit.then]
        refine bodyPost_ret (v := .tuple #[u6, ((failA ce) : Fan).v]) ?_ rfl ?_
        rotate_left
        · rw [HRES.out]; exact finMA (r := (cl, (failA ce))) X9.out (U6.out.below B9.out (Nat.le_refl _)) K9.out (by omega) N6.out
        · rw [results_tmp_cell rfl]; simp [asAddr, Result.andThen, Act.put, run_ansv (X9.out.row _)]
set_option maxHeartbeats 16000000 in
theorem shape3 {w : World} {v : Value} {l : List Rgn} (h : Rv w v l) (K : Key4) (o : Fop) (ho : o.fits) (hkd : o.kind = 3) :
    Calls Try.prog 34 #[v, K.v, o.v] w (GivesMA w (shapeF l K o)) := by
  obtain ⟨k, pr, pg, cn, ri, ke, tgd, dr, ad, sz, va, ta⟩ := o
  obtain ⟨t0, d0, t1, d1, t2, d2, t3, d3⟩ := K
  simp only at hkd
  subst hkd
  unfold Fop.fits I64 at ho
  simp only at ho
  obtain ⟨fk, fp, fpg, fc, fri, fke, fdr, fad, fsz, fva, fta⟩ := ho
  simp only [Fop.v, Key4.v]
  have HFA := Lib.hid (fun (e : Int) (W : World) => fails_any e W)
  have HWR := Lib.hid (fun (W : World) => wrong_any ri W)
  have HSP := Lib.hid (fun (W : World) => spanF_any pg cn fpg fc W)
  have HE1 : Hid ((w.alloc (.cells #[.bool t0, .int .i64 d0, .bool t1, .int .i64 d1, .bool t2, .int .i64 d2, .bool t3, .int .i64 d3] 28)).heap.size = w.heap.size + 1) := Lib.hid (by simp)
  have HE2 : Hid (((w.alloc (.cells #[.bool t0, .int .i64 d0, .bool t1, .int .i64 d1, .bool t2, .int .i64 d2, .bool t3, .int .i64 d3] 28)).alloc (.cells #[.int .i64 3, .int .i64 pr, .int .i64 pg, .int .i64 cn, .int .i64 ri, .int .i64 ke, .bool tgd, .int .i64 dr, .int .i64 ad, .int .i64 sz, .int .i64 va, .int .i64 ta] 43)).heap.size = w.heap.size + 1 + 1) := Lib.hid (by simp)
  have HW3 : Hid (Below w.heap.size w (((w.alloc (.cells #[.bool t0, .int .i64 d0, .bool t1, .int .i64 d1, .bool t2, .int .i64 d2, .bool t3, .int .i64 d3] 28)).alloc (.cells #[.int .i64 3, .int .i64 pr, .int .i64 pg, .int .i64 cn, .int .i64 ri, .int .i64 ke, .bool tgd, .int .i64 dr, .int .i64 ad, .int .i64 sz, .int .i64 va, .int .i64 ta] 43)).alloc (.cells #[.int .i64 0, .int .i64 0, .int .i64 0, .int .i64 0] 47))) := Lib.hid ((((Below.refl _ _).alloc (Nat.le_refl _) _).alloc (by simp) _).alloc (by simp; omega) _)
  have HX3 : Hid (Bx (((w.alloc (.cells #[.bool t0, .int .i64 d0, .bool t1, .int .i64 d1, .bool t2, .int .i64 d2, .bool t3, .int .i64 d3] 28)).alloc (.cells #[.int .i64 3, .int .i64 pr, .int .i64 pg, .int .i64 cn, .int .i64 ri, .int .i64 ke, .bool tgd, .int .i64 dr, .int .i64 ad, .int .i64 sz, .int .i64 va, .int .i64 ta] 43)).alloc (.cells #[.int .i64 0, .int .i64 0, .int .i64 0, .int .i64 0] 47)) (w.heap.size + 1 + 1) 47 #[.int .i64 0, .int .i64 0, .int .i64 0, .int .i64 0]) := Lib.hid (by rw [← HE2.out]; exact Bx.new _ _ _)
  have HO3 : Hid (Bx (((w.alloc (.cells #[.bool t0, .int .i64 d0, .bool t1, .int .i64 d1, .bool t2, .int .i64 d2, .bool t3, .int .i64 d3] 28)).alloc (.cells #[.int .i64 3, .int .i64 pr, .int .i64 pg, .int .i64 cn, .int .i64 ri, .int .i64 ke, .bool tgd, .int .i64 dr, .int .i64 ad, .int .i64 sz, .int .i64 va, .int .i64 ta] 43)).alloc (.cells #[.int .i64 0, .int .i64 0, .int .i64 0, .int .i64 0] 47)) (w.heap.size + 1) 43 #[.int .i64 3, .int .i64 pr, .int .i64 pg, .int .i64 cn, .int .i64 ri, .int .i64 ke, .bool tgd, .int .i64 dr, .int .i64 ad, .int .i64 sz, .int .i64 va, .int .i64 ta]) := Lib.hid (by rw [← HE1.out]; exact (Bx.new _ _ _).below (below1 _ _))
  have HD3 : Hid (∀ m, Below w.heap.size w ((((w.alloc (.cells #[.bool t0, .int .i64 d0, .bool t1, .int .i64 d1, .bool t2, .int .i64 d2, .bool t3, .int .i64 d3] 28)).alloc (.cells #[.int .i64 3, .int .i64 pr, .int .i64 pg, .int .i64 cn, .int .i64 ri, .int .i64 ke, .bool tgd, .int .i64 dr, .int .i64 ad, .int .i64 sz, .int .i64 va, .int .i64 ta] 43)).alloc (.cells #[.int .i64 0, .int .i64 0, .int .i64 0, .int .i64 0] 47)).drewN m)) := Lib.hid (fun m => HW3.out.trans (below_drewN _ _ _))
  have XD3 : Hid (∀ m, Bx ((((w.alloc (.cells #[.bool t0, .int .i64 d0, .bool t1, .int .i64 d1, .bool t2, .int .i64 d2, .bool t3, .int .i64 d3] 28)).alloc (.cells #[.int .i64 3, .int .i64 pr, .int .i64 pg, .int .i64 cn, .int .i64 ri, .int .i64 ke, .bool tgd, .int .i64 dr, .int .i64 ad, .int .i64 sz, .int .i64 va, .int .i64 ta] 43)).alloc (.cells #[.int .i64 0, .int .i64 0, .int .i64 0, .int .i64 0] 47)).drewN m) (w.heap.size + 1 + 1) 47 #[.int .i64 0, .int .i64 0, .int .i64 0, .int .i64 0]) := Lib.hid (fun m => HX3.out.below (below_drewN _ _ _))
  have OD3 : Hid (∀ m, Bx ((((w.alloc (.cells #[.bool t0, .int .i64 d0, .bool t1, .int .i64 d1, .bool t2, .int .i64 d2, .bool t3, .int .i64 d3] 28)).alloc (.cells #[.int .i64 3, .int .i64 pr, .int .i64 pg, .int .i64 cn, .int .i64 ri, .int .i64 ke, .bool tgd, .int .i64 dr, .int .i64 ad, .int .i64 sz, .int .i64 va, .int .i64 ta] 43)).alloc (.cells #[.int .i64 0, .int .i64 0, .int .i64 0, .int .i64 0] 47)).drewN m) (w.heap.size + 1) 43 #[.int .i64 3, .int .i64 pr, .int .i64 pg, .int .i64 cn, .int .i64 ri, .int .i64 ke, .bool tgd, .int .i64 dr, .int .i64 ad, .int .i64 sz, .int .i64 va, .int .i64 ta]) := Lib.hid (fun m => HO3.out.below (below_drewN _ _ _))
  obtain ⟨A, n, c, rfl, hz, hn⟩ := h
  have HSE := Lib.hid (fun (W : World) (hb : Below w.heap.size w W) => (show Calls Try.prog 43 #[.slice A n c, .int .i64 pg, .int .i64 (pg + cn)] W (TR (turnL l pg (pg + cn) sealA) (turnE l pg (pg + cn)) W) from Seal_any A n c l pg (pg + cn) W w.heap.size (hz.below hb) hb.size (by omega)))
  have HSO := Lib.hid (fun (W : World) (hb : Below w.heap.size w W) => some_any _ (enters_of Try.func45 (by kernel_rfl) rfl) _ sealed_ans A n c l pg (pg + cn) W w.heap.size (hz.below hb) hb.size (by omega))
  have HCU := Lib.hid (fun (W : World) (hb : Below w.heap.size w W) => rcut_any A n c l pg (pg + cn) W w.heap.size (hz.below hb) hb.size (by omega))
  have HGU := Lib.hid (fun (W : World) (hb : Below w.heap.size w W) => (show Calls Try.prog 47 #[.slice A n c, .int .i64 pg, .int .i64 (pg + cn), .int .i64 ri, .int .i64 ke] W (TR (turnL l pg (pg + cn) (guardA ri ke)) (turnE l pg (pg + cn)) W) from Guard_any A n c l pg (pg + cn) ri ke W w.heap.size (hz.below hb) hb.size (by omega)))
  have HS := Lib.hid (show shapeF l ⟨t0, d0, t1, d1, t2, d2, t3, d3⟩ ⟨3, pr, pg, cn, ri, ke, tgd, dr, ad, sz, va, ta⟩ = (if spanF pg cn = false then (([], failA 2) : List Rgn × Fan)
    else if (if (3 : Int) = 3 then (if wrongE ri ≠ 0 then wrongE ri else if (Key4.mk t0 d0 t1 d1 t2 d2 t3 d3).tk ke = false then 3 else 0) else 0) ≠ 0 then ([], failA (if (3 : Int) = 3 then (if wrongE ri ≠ 0 then wrongE ri else if (Key4.mk t0 d0 t1 d1 t2 d2 t3 d3).tk ke = false then 3 else 0) else 0))
    else if turnE l pg (pg + cn) ≠ 0 ∧ (3 : Int) ≠ 2 then ([], failA 1)
    else if (3 : Int) = 4 then (turnL l pg (pg + cn) sealA, failA 0)
    else if ((inL pg (pg + cn) l).any fun x => x.a.s) = true then ([], failA 7)
    else if (3 : Int) = 2 then (cutL l pg (pg + cn), failA (cutE l pg (pg + cn)))
    else (turnL l pg (pg + cn) (guardA ri ke), failA (turnE l pg (pg + cn)))) from rfl)
  clear hz
  generalize shapeF l ⟨t0, d0, t1, d1, t2, d2, t3, d3⟩ ⟨3, pr, pg, cn, ri, ke, tgd, dr, ad, sz, va, ta⟩ = rs at *
  have hsp2 : spanF pg cn = true → 0 ≤ pg ∧ 1 ≤ cn ∧ cn ≤ 64 ∧ pg ≤ 64 - cn := fun h => by unfold spanF at h; simp at h; omega
  obtain ⟨se, hse⟩ : ∃ e, e = turnE l pg (pg + cn) := ⟨_, rfl⟩
  obtain ⟨sl, hsl⟩ : ∃ e, e = turnL l pg (pg + cn) sealA := ⟨_, rfl⟩
  obtain ⟨gl, hgl⟩ : ∃ e, e = turnL l pg (pg + cn) (guardA ri ke) := ⟨_, rfl⟩
  obtain ⟨sm, hsm⟩ : ∃ e, e = ((inL pg (pg + cn) l).any fun x => x.a.s) := ⟨_, rfl⟩
  obtain ⟨cl, hcl⟩ : ∃ e, e = cutL l pg (pg + cn) := ⟨_, rfl⟩
  obtain ⟨ce, hce⟩ : ∃ e, e = cutE l pg (pg + cn) := ⟨_, rfl⟩
  obtain ⟨sp, hsp⟩ : ∃ e, e = spanF pg cn := ⟨_, rfl⟩
  obtain ⟨er, her⟩ : ∃ e, e = wrongE ri := ⟨_, rfl⟩
  rw [← hse, ← hsl] at HSE
  rw [← hse, ← hgl] at HGU
  rw [← hsm] at HSO
  rw [← hcl, ← hce] at HCU
  rw [← hse, ← hsl, ← hgl, ← hsm, ← hcl, ← hce, ← hsp, ← her] at HS
  rw [← hsp] at HSP hsp2
  rw [← her] at HWR
  clear hse hsl hgl hsm hcl hce hsp her
  cases sp with
  | false =>
    have HRES : Hid (rs = ([], failA 2)) := Lib.hid (by rw [HS.out, if_pos rfl])
    clear HS HSE HSO HCU HGU hsp2
    go_enter Try.func34, Try.ntmps34
    go_wp2_with (first
      | (go_at_call 42; refine (HSP.out _).mono ?_; rintro e w' ⟨rfl, rfl⟩)
      | ((with_reducible refine stB infoN (w.heap.size + 1 + 1) (nA (failA 2)) ?_ ?_ X9.out rfl rfl (nA_one _) ?_); rfl; rfl)
      | (go_at_call 31; refine (HFA.out 2 _).mono ?_; rintro e w9 ⟨rfl, hb9⟩; have X9 := Lib.hid (HX3.out.below hb9); have K9 := Lib.hid (HW3.out.trans (hb9.mono HW3.out.size)); clear hb9))
    try simp only [Exit.inBlock, Exit.then]
    refine bodyPost_ret (v := .tuple #[.slice none 0 0, ((failA 2) : Fan).v]) ?_ rfl ?_
    rotate_left
    · rw [HRES.out]; exact finMA (r := ([], (failA 2))) X9.out Os.nil K9.out (by omega) (fun k h => by cases h)
    · rw [results_tmp_cell rfl]; simp [asAddr, Result.andThen, Act.put, run_ansv (X9.out.row _)]
  | true =>
    obtain ⟨q0, q1, q2, q3⟩ := hsp2 rfl
    clear hsp2
    by_cases c3 : er = 0
    · subst c3
      have HS1 := Lib.hid (show rs = (if (Key4.mk t0 d0 t1 d1 t2 d2 t3 d3).tk ke = false then ([], failA 3) else if se ≠ 0 then (([], failA 1) : List Rgn × Fan) else if sm = true then ([], failA 7) else (gl, failA se)) from by
        rw [HS.out, if_neg (by intro h; cases h)]
        cases (Key4.mk t0 d0 t1 d1 t2 d2 t3 d3).tk ke <;> by_cases e : se = 0 <;> simp [e])
      clear HS HCU
      by_cases c4 : ke < 0
      · have HRES : Hid (rs = ([], failA 3)) := Lib.hid (by rw [HS1.out, if_pos (by unfold Key4.tk; rw [if_neg (by omega), if_neg (by omega), if_neg (by omega), if_neg (by omega)])])
        have hd : decide (ke < 0) = true := decide_eq_true c4
        clear HS1 HSE HSO HGU
        go_enter Try.func34, Try.ntmps34
        go_wp2_with (first
          | (go_at_call 42; refine (HSP.out _).mono ?_; rintro e w' ⟨rfl, rfl⟩))
        go_quiet (fail)
        go_wp2_with (first
          | (go_at_call 39; refine (HWR.out _).mono ?_; rintro e w' ⟨rfl, rfl⟩)
          | ((with_reducible refine stB infoN (w.heap.size + 1 + 1) (nA (failA 3)) ?_ ?_ X9.out rfl rfl (nA_one _) ?_); rfl; rfl)
          | (go_at_call 31; refine (HFA.out 3 _).mono ?_; rintro e w9 ⟨rfl, hb9⟩; have X9 := Lib.hid ((XD3.out _).below hb9); have K9 := Lib.hid ((HD3.out _).trans (hb9.mono (HD3.out _).size)); clear hb9))
        try simp only [Exit.inBlock, Exit.then]
        refine bodyPost_ret (v := .tuple #[.slice none 0 0, ((failA 3) : Fan).v]) ?_ rfl ?_
        rotate_left
        · rw [HRES.out]; exact finMA (r := ([], (failA 3))) X9.out Os.nil K9.out (by omega) (fun k h => by cases h)
        · rw [results_tmp_cell rfl]; simp [asAddr, Result.andThen, Act.put, run_ansv (X9.out.row _)]
      by_cases c5 : 4 ≤ ke
      · have HRES : Hid (rs = ([], failA 3)) := Lib.hid (by rw [HS1.out, if_pos (by unfold Key4.tk; rw [if_neg (by omega), if_neg (by omega), if_neg (by omega), if_neg (by omega)])])
        have hd : decide (4 ≤ ke) = true := decide_eq_true c5
        have hd0 : decide (ke < 0) = false := decide_eq_false c4
        clear HS1 HSE HSO HGU
        go_enter Try.func34, Try.ntmps34
        go_wp2_with (first
          | (go_at_call 42; refine (HSP.out _).mono ?_; rintro e w' ⟨rfl, rfl⟩))
        go_quiet (fail)
        go_wp2_with (first
          | (go_at_call 39; refine (HWR.out _).mono ?_; rintro e w' ⟨rfl, rfl⟩)
          | ((with_reducible refine stB infoN (w.heap.size + 1 + 1) (nA (failA 3)) ?_ ?_ X9.out rfl rfl (nA_one _) ?_); rfl; rfl)
          | (go_at_call 31; refine (HFA.out 3 _).mono ?_; rintro e w9 ⟨rfl, hb9⟩; have X9 := Lib.hid ((XD3.out _).below hb9); have K9 := Lib.hid ((HD3.out _).trans (hb9.mono (HD3.out _).size)); clear hb9))
        try simp only [Exit.inBlock, Exit.then]
        refine bodyPost_ret (v := .tuple #[.slice none 0 0, ((failA 3) : Fan).v]) ?_ rfl ?_
        rotate_left
        · rw [HRES.out]; exact finMA (r := ([], (failA 3))) X9.out Os.nil K9.out (by omega) (fun k h => by cases h)
        · rw [results_tmp_cell rfl]; simp [asAddr, Result.andThen, Act.put, run_ansv (X9.out.row _)]
      have hke : ke = 0 ∨ ke = 1 ∨ ke = 2 ∨ ke = 3 := by omega
      clear c4 c5
      obtain ⟨kv, hkv⟩ : ∃ kv, kv = ke := ⟨_, rfl⟩
      cases ht : (Key4.mk t0 d0 t1 d1 t2 d2 t3 d3).tk ke with
      | false =>
        have HRES : Hid (rs = ([], failA 3)) := Lib.hid (by rw [HS1.out, if_pos ht])
        clear HS1 HSE HSO HGU
        rcases hke with rfl | rfl | rfl | rfl
        all_goals
          simp [Key4.tk] at ht
          subst ht
          go_enter Try.func34, Try.ntmps34
          go_wp2_with (first
            | (go_at_call 42; refine (HSP.out _).mono ?_; rintro e w' ⟨rfl, rfl⟩))
          go_quiet (fail)
          go_wp2_with (first
            | (go_at_call 39; refine (HWR.out _).mono ?_; rintro e w' ⟨rfl, rfl⟩)
            | ((with_reducible refine stB infoN (w.heap.size + 1 + 1) (nA (failA 3)) ?_ ?_ X9.out rfl rfl (nA_one _) ?_); rfl; rfl)
            | (go_at_call 31; refine (HFA.out 3 _).mono ?_; rintro e w9 ⟨rfl, hb9⟩; have X9 := Lib.hid ((XD3.out _).below hb9); have K9 := Lib.hid ((HD3.out _).trans (hb9.mono (HD3.out _).size)); clear hb9))
          try simp only [Exit.inBlock, Exit.then]
          refine bodyPost_ret (v := .tuple #[.slice none 0 0, ((failA 3) : Fan).v]) ?_ rfl ?_
          rotate_left
          · rw [HRES.out]; exact finMA (r := ([], (failA 3))) X9.out Os.nil K9.out (by omega) (fun k h => by cases h)
          · rw [results_tmp_cell rfl]; simp [asAddr, Result.andThen, Act.put, run_ansv (X9.out.row _)]
      | true =>
        have HS2 : Hid (rs = if se ≠ 0 then (([], failA 1) : List Rgn × Fan) else if sm = true then ([], failA 7) else (gl, failA se)) := Lib.hid (by rw [HS1.out, if_neg (by rw [ht]; intro h; cases h)])
        clear HS1
        by_cases c1 : se = 0
        · subst c1
          cases sm with
          | true =>
            have HRES : Hid (rs = ([], failA 7)) := Lib.hid (by rw [HS2.out]; rfl)
            clear HS2 HGU
            rcases hke with rfl | rfl | rfl | rfl
            all_goals
              simp [Key4.tk] at ht
              subst ht
              go_enter Try.func34, Try.ntmps34
              go_wp2_with (first
                | (go_at_call 42; refine (HSP.out _).mono ?_; rintro e w' ⟨rfl, rfl⟩))
              go_quiet (fail)
              go_wp2_with (first
                | (go_at_call 39; refine (HWR.out _).mono ?_; rintro e w' ⟨rfl, rfl⟩)
                | (go_at_call 43
                   refine (HSE.out _ (HD3.out _)).mono ?_
                   rintro e w4 ⟨u4, rfl, ho4, hb4⟩
                   have X4 := Lib.hid ((XD3.out _).below hb4)
                   have K4 := Lib.hid ((HD3.out _).trans (hb4.mono (HD3.out _).size))
                   have U4 := Lib.hid (ho4.rebase (HD3.out _).size)
                   have N4 : Hid (∀ k, u4.ownBlock = some k → k ≠ w.heap.size + 1 + 1) := Lib.hid (fun k hk => Nat.ne_of_gt (Nat.lt_of_lt_of_le (XD3.out _).lt (ho4.blk_lt2 k hk).2))
                   have O4 := Lib.hid ((OD3.out _).below hb4)
                   have hz4 : w.heap.size + 1 + 1 < w4.heap.size := X4.out.lt
                   have o0 : w4.cell? ⟨w.heap.size + 1, 0, none⟩ = some (.int .i64 3) := by rw [O4.out.cell]; rfl
                   clear hb4 ho4)
                | (go_at_call 44
                   refine (HSO.out w4 K4.out).mono ?_
                   rintro e w5 ⟨rfl, hb5⟩
                   have X5 := Lib.hid (X4.out.below hb5)
                   have K5 := Lib.hid (K4.out.trans (hb5.mono K4.out.size))
                   have O5 := Lib.hid (O4.out.below hb5)
                   have hz5 : w.heap.size + 1 + 1 < w5.heap.size := X5.out.lt
                   have p0 : w5.cell? ⟨w.heap.size + 1, 0, none⟩ = some (.int .i64 3) := by rw [O5.out.cell]; rfl
                   have p4 : w5.cell? ⟨w.heap.size + 1, 4, none⟩ = some (.int .i64 ri) := by rw [O5.out.cell]; rfl
                   have p5 : w5.cell? ⟨w.heap.size + 1, 5, none⟩ = some (.int .i64 kv) := by rw [O5.out.cell, hkv]; rfl
                   rw [hkv] at p5
                   clear hb5)
                | ((with_reducible refine stB infoN (w.heap.size + 1 + 1) (nA (failA 7)) ?_ ?_ X9.out rfl rfl (nA_one _) ?_); rfl; rfl)
                | (go_at_call 31; refine (HFA.out 7 _).mono ?_; rintro e w9 ⟨rfl, hb9⟩; have X9 := Lib.hid (X5.out.below hb9); have K9 := Lib.hid (K5.out.trans (hb9.mono K5.out.size)); clear hb9))
              try simp only [Exit.inBlock, Exit.then]
              refine bodyPost_ret (v := .tuple #[.slice none 0 0, ((failA 7) : Fan).v]) ?_ rfl ?_
              rotate_left
              · rw [HRES.out]; exact finMA (r := ([], (failA 7))) X9.out Os.nil K9.out (by omega) (fun k h => by cases h)
              · rw [results_tmp_cell rfl]; simp [asAddr, Result.andThen, Act.put, run_ansv (X9.out.row _)]
          | false =>
            have HRES : Hid (rs = (gl, failA 0)) := Lib.hid (by rw [HS2.out]; rfl)
            clear HS2
            rcases hke with rfl | rfl | rfl | rfl
            all_goals
              simp [Key4.tk] at ht
              subst ht
              go_enter Try.func34, Try.ntmps34
              go_wp2_with (first
                | (go_at_call 42; refine (HSP.out _).mono ?_; rintro e w' ⟨rfl, rfl⟩))
              go_quiet (fail)
              go_wp2_with (first
                | (go_at_call 39; refine (HWR.out _).mono ?_; rintro e w' ⟨rfl, rfl⟩)
                | (go_at_call 43
                   refine (HSE.out _ (HD3.out _)).mono ?_
                   rintro e w4 ⟨u4, rfl, ho4, hb4⟩
                   have X4 := Lib.hid ((XD3.out _).below hb4)
                   have K4 := Lib.hid ((HD3.out _).trans (hb4.mono (HD3.out _).size))
                   have U4 := Lib.hid (ho4.rebase (HD3.out _).size)
                   have N4 : Hid (∀ k, u4.ownBlock = some k → k ≠ w.heap.size + 1 + 1) := Lib.hid (fun k hk => Nat.ne_of_gt (Nat.lt_of_lt_of_le (XD3.out _).lt (ho4.blk_lt2 k hk).2))
                   have O4 := Lib.hid ((OD3.out _).below hb4)
                   have hz4 : w.heap.size + 1 + 1 < w4.heap.size := X4.out.lt
                   have o0 : w4.cell? ⟨w.heap.size + 1, 0, none⟩ = some (.int .i64 3) := by rw [O4.out.cell]; rfl
                   clear hb4 ho4)
                | (go_at_call 44
                   refine (HSO.out w4 K4.out).mono ?_
                   rintro e w5 ⟨rfl, hb5⟩
                   have X5 := Lib.hid (X4.out.below hb5)
                   have K5 := Lib.hid (K4.out.trans (hb5.mono K4.out.size))
                   have O5 := Lib.hid (O4.out.below hb5)
                   have hz5 : w.heap.size + 1 + 1 < w5.heap.size := X5.out.lt
                   have p0 : w5.cell? ⟨w.heap.size + 1, 0, none⟩ = some (.int .i64 3) := by rw [O5.out.cell]; rfl
                   have p4 : w5.cell? ⟨w.heap.size + 1, 4, none⟩ = some (.int .i64 ri) := by rw [O5.out.cell]; rfl
                   have p5 : w5.cell? ⟨w.heap.size + 1, 5, none⟩ = some (.int .i64 kv) := by rw [O5.out.cell, hkv]; rfl
                   rw [hkv] at p5
                   clear hb5)
                | (go_at_call 47
                   refine (HGU.out w5 K5.out).mono ?_
                   rintro e w6 ⟨u6, rfl, ho6, hb6⟩
                   have X6 := Lib.hid (X5.out.below hb6)
                   have K6 := Lib.hid (K5.out.trans (hb6.mono K5.out.size))
                   have U6 := Lib.hid (ho6.rebase K5.out.size)
                   have N6 : Hid (∀ k, u6.ownBlock = some k → k ≠ w.heap.size + 1 + 1) := Lib.hid (fun k hk => by have := (ho6.blk_lt2 k hk).2; omega)
                   clear hb6 ho6)
                | ((with_reducible refine stB infoN (w.heap.size + 1 + 1) (nA (failA 0)) ?_ ?_ X9.out rfl rfl (nA_one _) ?_); rfl; rfl)
                | (go_at_call 31; refine (HFA.out 0 _).mono ?_; rintro e w9 ⟨rfl, hb9⟩; have X9 := Lib.hid (X6.out.below hb9); have B9 := Lib.hid hb9; have K9 := Lib.hid (K6.out.trans (hb9.mono K6.out.size)); clear hb9))
              try simp only [Exit.inBlock, Exit.then]
              refine bodyPost_ret (v := .tuple #[u6, ((failA 0) : Fan).v]) ?_ rfl ?_
              rotate_left
              · rw [HRES.out]; exact finMA (r := (gl, (failA 0))) X9.out (U6.out.below B9.out (Nat.le_refl _)) K9.out (by omega) N6.out
              · rw [results_tmp_cell rfl]; simp [asAddr, Result.andThen, Act.put, run_ansv (X9.out.row _)]
        · have HRES : Hid (rs = ([], failA 1)) := Lib.hid (by rw [HS2.out, if_pos c1])
          have hne : (se != 0) = true := by rw [bne_iff_ne]; exact c1
          clear HS2 HGU HSO
          rcases hke with rfl | rfl | rfl | rfl
          all_goals
            simp [Key4.tk] at ht
            subst ht
            go_enter Try.func34, Try.ntmps34
            go_wp2_with (first
              | (go_at_call 42; refine (HSP.out _).mono ?_; rintro e w' ⟨rfl, rfl⟩))
            go_quiet (fail)
            go_wp2_with (first
              | (go_at_call 39; refine (HWR.out _).mono ?_; rintro e w' ⟨rfl, rfl⟩)
              | (go_at_call 43
                 refine (HSE.out _ (HD3.out _)).mono ?_
                 rintro e w4 ⟨u4, rfl, ho4, hb4⟩
                 have X4 := Lib.hid ((XD3.out _).below hb4)
                 have K4 := Lib.hid ((HD3.out _).trans (hb4.mono (HD3.out _).size))
                 have U4 := Lib.hid (ho4.rebase (HD3.out _).size)
                 have N4 : Hid (∀ k, u4.ownBlock = some k → k ≠ w.heap.size + 1 + 1) := Lib.hid (fun k hk => Nat.ne_of_gt (Nat.lt_of_lt_of_le (XD3.out _).lt (ho4.blk_lt2 k hk).2))
                 have O4 := Lib.hid ((OD3.out _).below hb4)
                 have hz4 : w.heap.size + 1 + 1 < w4.heap.size := X4.out.lt
                 have o0 : w4.cell? ⟨w.heap.size + 1, 0, none⟩ = some (.int .i64 3) := by rw [O4.out.cell]; rfl
                 clear hb4 ho4)
              | ((with_reducible refine stB infoN (w.heap.size + 1 + 1) (nA (failA 1)) ?_ ?_ X9.out rfl rfl (nA_one _) ?_); rfl; rfl)
              | (go_at_call 31; refine (HFA.out 1 _).mono ?_; rintro e w9 ⟨rfl, hb9⟩; have X9 := Lib.hid (X4.out.below hb9); have K9 := Lib.hid (K4.out.trans (hb9.mono K4.out.size)); clear hb9))
            try simp only [Exit.inBlock, Exit.then]
            refine bodyPost_ret (v := .tuple #[.slice none 0 0, ((failA 1) : Fan).v]) ?_ rfl ?_
            rotate_left
            · rw [HRES.out]; exact finMA (r := ([], (failA 1))) X9.out Os.nil K9.out (by omega) (fun k h => by cases h)
            · rw [results_tmp_cell rfl]; simp [asAddr, Result.andThen, Act.put, run_ansv (X9.out.row _)]
    · have HRES : Hid (rs = ([], failA er)) := Lib.hid (by rw [HS.out, if_neg (by intro h; cases h)]; simp [c3])
      have hne : (er != 0) = true := by rw [bne_iff_ne]; exact c3
      clear HS HSE HSO HCU HGU
      go_enter Try.func34, Try.ntmps34
      go_wp2_with (first
        | (go_at_call 42; refine (HSP.out _).mono ?_; rintro e w' ⟨rfl, rfl⟩))
      go_quiet (fail)
      go_wp2_with (first
        | (go_at_call 39; refine (HWR.out _).mono ?_; rintro e w' ⟨rfl, rfl⟩)
        | ((with_reducible refine stB infoN (w.heap.size + 1 + 1) (nA (failA er)) ?_ ?_ X9.out rfl rfl (nA_one _) ?_); rfl; rfl)
        | (go_at_call 31; refine (HFA.out er _).mono ?_; rintro e w9 ⟨rfl, hb9⟩; have X9 := Lib.hid ((XD3.out _).below hb9); have K9 := Lib.hid ((HD3.out _).trans (hb9.mono (HD3.out _).size)); clear hb9))
      try simp only [Exit.inBlock, Exit.then]
      refine bodyPost_ret (v := .tuple #[.slice none 0 0, ((failA er) : Fan).v]) ?_ rfl ?_
      rotate_left
      · rw [HRES.out]; exact finMA (r := ([], (failA er))) X9.out Os.nil K9.out (by omega) (fun k h => by cases h)
      · rw [results_tmp_cell rfl]; simp [asAddr, Result.andThen, Act.put, run_ansv (X9.out.row _)]
set_option maxHeartbeats 16000000 in
theorem shape4 {w : World} {v : Value} {l : List Rgn} (h : Rv w v l) (K : Key4) (o : Fop) (ho : o.fits) (hkd : o.kind = 4) :
    Calls Try.prog 34 #[v, K.v, o.v] w (GivesMA w (shapeF l K o)) := by
  obtain ⟨k, pr, pg, cn, ri, ke, tgd, dr, ad, sz, va, ta⟩ := o
  obtain ⟨t0, d0, t1, d1, t2, d2, t3, d3⟩ := K
  simp only at hkd
  subst hkd
  unfold Fop.fits I64 at ho
  simp only at ho
  obtain ⟨fk, fp, fpg, fc, fri, fke, fdr, fad, fsz, fva, fta⟩ := ho
  simp only [Fop.v, Key4.v]
  have HFA := Lib.hid (fun (e : Int) (W : World) => fails_any e W)
  have HWR := Lib.hid (fun (W : World) => wrong_any ri W)
  have HSP := Lib.hid (fun (W : World) => spanF_any pg cn fpg fc W)
  have HE1 : Hid ((w.alloc (.cells #[.bool t0, .int .i64 d0, .bool t1, .int .i64 d1, .bool t2, .int .i64 d2, .bool t3, .int .i64 d3] 28)).heap.size = w.heap.size + 1) := Lib.hid (by simp)
  have HE2 : Hid (((w.alloc (.cells #[.bool t0, .int .i64 d0, .bool t1, .int .i64 d1, .bool t2, .int .i64 d2, .bool t3, .int .i64 d3] 28)).alloc (.cells #[.int .i64 4, .int .i64 pr, .int .i64 pg, .int .i64 cn, .int .i64 ri, .int .i64 ke, .bool tgd, .int .i64 dr, .int .i64 ad, .int .i64 sz, .int .i64 va, .int .i64 ta] 43)).heap.size = w.heap.size + 1 + 1) := Lib.hid (by simp)
  have HW3 : Hid (Below w.heap.size w (((w.alloc (.cells #[.bool t0, .int .i64 d0, .bool t1, .int .i64 d1, .bool t2, .int .i64 d2, .bool t3, .int .i64 d3] 28)).alloc (.cells #[.int .i64 4, .int .i64 pr, .int .i64 pg, .int .i64 cn, .int .i64 ri, .int .i64 ke, .bool tgd, .int .i64 dr, .int .i64 ad, .int .i64 sz, .int .i64 va, .int .i64 ta] 43)).alloc (.cells #[.int .i64 0, .int .i64 0, .int .i64 0, .int .i64 0] 47))) := Lib.hid ((((Below.refl _ _).alloc (Nat.le_refl _) _).alloc (by simp) _).alloc (by simp; omega) _)
  have HX3 : Hid (Bx (((w.alloc (.cells #[.bool t0, .int .i64 d0, .bool t1, .int .i64 d1, .bool t2, .int .i64 d2, .bool t3, .int .i64 d3] 28)).alloc (.cells #[.int .i64 4, .int .i64 pr, .int .i64 pg, .int .i64 cn, .int .i64 ri, .int .i64 ke, .bool tgd, .int .i64 dr, .int .i64 ad, .int .i64 sz, .int .i64 va, .int .i64 ta] 43)).alloc (.cells #[.int .i64 0, .int .i64 0, .int .i64 0, .int .i64 0] 47)) (w.heap.size + 1 + 1) 47 #[.int .i64 0, .int .i64 0, .int .i64 0, .int .i64 0]) := Lib.hid (by rw [← HE2.out]; exact Bx.new _ _ _)
  have HO3 : Hid (Bx (((w.alloc (.cells #[.bool t0, .int .i64 d0, .bool t1, .int .i64 d1, .bool t2, .int .i64 d2, .bool t3, .int .i64 d3] 28)).alloc (.cells #[.int .i64 4, .int .i64 pr, .int .i64 pg, .int .i64 cn, .int .i64 ri, .int .i64 ke, .bool tgd, .int .i64 dr, .int .i64 ad, .int .i64 sz, .int .i64 va, .int .i64 ta] 43)).alloc (.cells #[.int .i64 0, .int .i64 0, .int .i64 0, .int .i64 0] 47)) (w.heap.size + 1) 43 #[.int .i64 4, .int .i64 pr, .int .i64 pg, .int .i64 cn, .int .i64 ri, .int .i64 ke, .bool tgd, .int .i64 dr, .int .i64 ad, .int .i64 sz, .int .i64 va, .int .i64 ta]) := Lib.hid (by rw [← HE1.out]; exact (Bx.new _ _ _).below (below1 _ _))
  have HD3 : Hid (∀ m, Below w.heap.size w ((((w.alloc (.cells #[.bool t0, .int .i64 d0, .bool t1, .int .i64 d1, .bool t2, .int .i64 d2, .bool t3, .int .i64 d3] 28)).alloc (.cells #[.int .i64 4, .int .i64 pr, .int .i64 pg, .int .i64 cn, .int .i64 ri, .int .i64 ke, .bool tgd, .int .i64 dr, .int .i64 ad, .int .i64 sz, .int .i64 va, .int .i64 ta] 43)).alloc (.cells #[.int .i64 0, .int .i64 0, .int .i64 0, .int .i64 0] 47)).drewN m)) := Lib.hid (fun m => HW3.out.trans (below_drewN _ _ _))
  have XD3 : Hid (∀ m, Bx ((((w.alloc (.cells #[.bool t0, .int .i64 d0, .bool t1, .int .i64 d1, .bool t2, .int .i64 d2, .bool t3, .int .i64 d3] 28)).alloc (.cells #[.int .i64 4, .int .i64 pr, .int .i64 pg, .int .i64 cn, .int .i64 ri, .int .i64 ke, .bool tgd, .int .i64 dr, .int .i64 ad, .int .i64 sz, .int .i64 va, .int .i64 ta] 43)).alloc (.cells #[.int .i64 0, .int .i64 0, .int .i64 0, .int .i64 0] 47)).drewN m) (w.heap.size + 1 + 1) 47 #[.int .i64 0, .int .i64 0, .int .i64 0, .int .i64 0]) := Lib.hid (fun m => HX3.out.below (below_drewN _ _ _))
  have OD3 : Hid (∀ m, Bx ((((w.alloc (.cells #[.bool t0, .int .i64 d0, .bool t1, .int .i64 d1, .bool t2, .int .i64 d2, .bool t3, .int .i64 d3] 28)).alloc (.cells #[.int .i64 4, .int .i64 pr, .int .i64 pg, .int .i64 cn, .int .i64 ri, .int .i64 ke, .bool tgd, .int .i64 dr, .int .i64 ad, .int .i64 sz, .int .i64 va, .int .i64 ta] 43)).alloc (.cells #[.int .i64 0, .int .i64 0, .int .i64 0, .int .i64 0] 47)).drewN m) (w.heap.size + 1) 43 #[.int .i64 4, .int .i64 pr, .int .i64 pg, .int .i64 cn, .int .i64 ri, .int .i64 ke, .bool tgd, .int .i64 dr, .int .i64 ad, .int .i64 sz, .int .i64 va, .int .i64 ta]) := Lib.hid (fun m => HO3.out.below (below_drewN _ _ _))
  obtain ⟨A, n, c, rfl, hz, hn⟩ := h
  have HSE := Lib.hid (fun (W : World) (hb : Below w.heap.size w W) => (show Calls Try.prog 43 #[.slice A n c, .int .i64 pg, .int .i64 (pg + cn)] W (TR (turnL l pg (pg + cn) sealA) (turnE l pg (pg + cn)) W) from Seal_any A n c l pg (pg + cn) W w.heap.size (hz.below hb) hb.size (by omega)))
  have HSO := Lib.hid (fun (W : World) (hb : Below w.heap.size w W) => some_any _ (enters_of Try.func45 (by kernel_rfl) rfl) _ sealed_ans A n c l pg (pg + cn) W w.heap.size (hz.below hb) hb.size (by omega))
  have HCU := Lib.hid (fun (W : World) (hb : Below w.heap.size w W) => rcut_any A n c l pg (pg + cn) W w.heap.size (hz.below hb) hb.size (by omega))
  have HGU := Lib.hid (fun (W : World) (hb : Below w.heap.size w W) => (show Calls Try.prog 47 #[.slice A n c, .int .i64 pg, .int .i64 (pg + cn), .int .i64 ri, .int .i64 ke] W (TR (turnL l pg (pg + cn) (guardA ri ke)) (turnE l pg (pg + cn)) W) from Guard_any A n c l pg (pg + cn) ri ke W w.heap.size (hz.below hb) hb.size (by omega)))
  have HS := Lib.hid (show shapeF l ⟨t0, d0, t1, d1, t2, d2, t3, d3⟩ ⟨4, pr, pg, cn, ri, ke, tgd, dr, ad, sz, va, ta⟩ = (if spanF pg cn = false then (([], failA 2) : List Rgn × Fan)
    else if (if (4 : Int) = 3 then (if wrongE ri ≠ 0 then wrongE ri else if (Key4.mk t0 d0 t1 d1 t2 d2 t3 d3).tk ke = false then 3 else 0) else 0) ≠ 0 then ([], failA (if (4 : Int) = 3 then (if wrongE ri ≠ 0 then wrongE ri else if (Key4.mk t0 d0 t1 d1 t2 d2 t3 d3).tk ke = false then 3 else 0) else 0))
    else if turnE l pg (pg + cn) ≠ 0 ∧ (4 : Int) ≠ 2 then ([], failA 1)
    else if (4 : Int) = 4 then (turnL l pg (pg + cn) sealA, failA 0)
    else if ((inL pg (pg + cn) l).any fun x => x.a.s) = true then ([], failA 7)
    else if (4 : Int) = 2 then (cutL l pg (pg + cn), failA (cutE l pg (pg + cn)))
    else (turnL l pg (pg + cn) (guardA ri ke), failA (turnE l pg (pg + cn)))) from rfl)
  clear hz
  generalize shapeF l ⟨t0, d0, t1, d1, t2, d2, t3, d3⟩ ⟨4, pr, pg, cn, ri, ke, tgd, dr, ad, sz, va, ta⟩ = rs at *
  have hsp2 : spanF pg cn = true → 0 ≤ pg ∧ 1 ≤ cn ∧ cn ≤ 64 ∧ pg ≤ 64 - cn := fun h => by unfold spanF at h; simp at h; omega
  obtain ⟨se, hse⟩ : ∃ e, e = turnE l pg (pg + cn) := ⟨_, rfl⟩
  obtain ⟨sl, hsl⟩ : ∃ e, e = turnL l pg (pg + cn) sealA := ⟨_, rfl⟩
  obtain ⟨gl, hgl⟩ : ∃ e, e = turnL l pg (pg + cn) (guardA ri ke) := ⟨_, rfl⟩
  obtain ⟨sm, hsm⟩ : ∃ e, e = ((inL pg (pg + cn) l).any fun x => x.a.s) := ⟨_, rfl⟩
  obtain ⟨cl, hcl⟩ : ∃ e, e = cutL l pg (pg + cn) := ⟨_, rfl⟩
  obtain ⟨ce, hce⟩ : ∃ e, e = cutE l pg (pg + cn) := ⟨_, rfl⟩
  obtain ⟨sp, hsp⟩ : ∃ e, e = spanF pg cn := ⟨_, rfl⟩
  obtain ⟨er, her⟩ : ∃ e, e = wrongE ri := ⟨_, rfl⟩
  rw [← hse, ← hsl] at HSE
  rw [← hse, ← hgl] at HGU
  rw [← hsm] at HSO
  rw [← hcl, ← hce] at HCU
  rw [← hse, ← hsl, ← hgl, ← hsm, ← hcl, ← hce, ← hsp, ← her] at HS
  rw [← hsp] at HSP hsp2
  rw [← her] at HWR
  clear hse hsl hgl hsm hcl hce hsp her
  cases sp with
  | false =>
    have HRES : Hid (rs = ([], failA 2)) := Lib.hid (by rw [HS.out, if_pos rfl])
    clear HS HSE HSO HCU HGU hsp2
    go_enter Try.func34, Try.ntmps34
    go_wp2_with (first
      | (go_at_call 42; refine (HSP.out _).mono ?_; rintro e w' ⟨rfl, rfl⟩)
      | ((with_reducible refine stB infoN (w.heap.size + 1 + 1) (nA (failA 2)) ?_ ?_ X9.out rfl rfl (nA_one _) ?_); rfl; rfl)
      | (go_at_call 31; refine (HFA.out 2 _).mono ?_; rintro e w9 ⟨rfl, hb9⟩; have X9 := Lib.hid (HX3.out.below hb9); have K9 := Lib.hid (HW3.out.trans (hb9.mono HW3.out.size)); clear hb9))
    try simp only [Exit.inBlock, Exit.then]
    refine bodyPost_ret (v := .tuple #[.slice none 0 0, ((failA 2) : Fan).v]) ?_ rfl ?_
    rotate_left
    · rw [HRES.out]; exact finMA (r := ([], (failA 2))) X9.out Os.nil K9.out (by omega) (fun k h => by cases h)
    · rw [results_tmp_cell rfl]; simp [asAddr, Result.andThen, Act.put, run_ansv (X9.out.row _)]
  | true =>
    obtain ⟨q0, q1, q2, q3⟩ := hsp2 rfl
    clear hsp2
    have HS2 : Hid (rs = if se ≠ 0 then (([], failA 1) : List Rgn × Fan) else (sl, failA 0)) := Lib.hid (by rw [HS.out, if_neg (by intro h; cases h), if_neg (by simp)]; by_cases e : se = 0 <;> simp [e])
    clear HS HSO HCU HGU
    by_cases c1 : se = 0
    · subst c1
      have HRES : Hid (rs = (sl, failA 0)) := Lib.hid (by rw [HS2.out, if_neg (fun h => h rfl)])
      clear HS2
      go_enter Try.func34, Try.ntmps34
      go_wp2_with (first
        | (go_at_call 42; refine (HSP.out _).mono ?_; rintro e w' ⟨rfl, rfl⟩))
      go_quiet (fail)
      go_wp2_with (first
        | (go_at_call 43
           refine (HSE.out _ (HD3.out _)).mono ?_
           rintro e w4 ⟨u4, rfl, ho4, hb4⟩
           have X4 := Lib.hid ((XD3.out _).below hb4)
           have K4 := Lib.hid ((HD3.out _).trans (hb4.mono (HD3.out _).size))
           have U4 := Lib.hid (ho4.rebase (HD3.out _).size)
           have N4 : Hid (∀ k, u4.ownBlock = some k → k ≠ w.heap.size + 1 + 1) := Lib.hid (fun k hk => Nat.ne_of_gt (Nat.lt_of_lt_of_le (XD3.out _).lt (ho4.blk_lt2 k hk).2))
           have O4 := Lib.hid ((OD3.out _).below hb4)
           have hz4 : w.heap.size + 1 + 1 < w4.heap.size := X4.out.lt
           have o0 : w4.cell? ⟨w.heap.size + 1, 0, none⟩ = some (.int .i64 4) := by rw [O4.out.cell]; rfl
           clear hb4 ho4)
        | ((with_reducible refine stB infoN (w.heap.size + 1 + 1) (nA (failA 0)) ?_ ?_ X4.out rfl rfl (nA_one _) ?_); rfl; rfl))
      try simp only [Exit.inBlock, Exit.then]
      refine bodyPost_ret (v := .tuple #[u4, ((failA 0) : Fan).v]) ?_ rfl ?_
      rotate_left
      · rw [HRES.out]; exact finMA (r := (sl, (failA 0))) X4.out U4.out K4.out (by omega) N4.out
      · rw [results_tmp_cell rfl]; simp [asAddr, Result.andThen, Act.put, run_ansv (X4.out.row _)]
    · have HRES : Hid (rs = ([], failA 1)) := Lib.hid (by rw [HS2.out, if_pos c1])
      have hne : (se != 0) = true := by rw [bne_iff_ne]; exact c1
      clear HS2
      go_enter Try.func34, Try.ntmps34
      go_wp2_with (first
        | (go_at_call 42; refine (HSP.out _).mono ?_; rintro e w' ⟨rfl, rfl⟩))
      go_quiet (fail)
      go_wp2_with (first
        | (go_at_call 43
           refine (HSE.out _ (HD3.out _)).mono ?_
           rintro e w4 ⟨u4, rfl, ho4, hb4⟩
           have X4 := Lib.hid ((XD3.out _).below hb4)
           have K4 := Lib.hid ((HD3.out _).trans (hb4.mono (HD3.out _).size))
           have U4 := Lib.hid (ho4.rebase (HD3.out _).size)
           have N4 : Hid (∀ k, u4.ownBlock = some k → k ≠ w.heap.size + 1 + 1) := Lib.hid (fun k hk => Nat.ne_of_gt (Nat.lt_of_lt_of_le (XD3.out _).lt (ho4.blk_lt2 k hk).2))
           have O4 := Lib.hid ((OD3.out _).below hb4)
           have hz4 : w.heap.size + 1 + 1 < w4.heap.size := X4.out.lt
           have o0 : w4.cell? ⟨w.heap.size + 1, 0, none⟩ = some (.int .i64 4) := by rw [O4.out.cell]; rfl
           clear hb4 ho4)
        | ((with_reducible refine stB infoN (w.heap.size + 1 + 1) (nA (failA 1)) ?_ ?_ X9.out rfl rfl (nA_one _) ?_); rfl; rfl)
        | (go_at_call 31; refine (HFA.out 1 _).mono ?_; rintro e w9 ⟨rfl, hb9⟩; have X9 := Lib.hid (X4.out.below hb9); have K9 := Lib.hid (K4.out.trans (hb9.mono K4.out.size)); clear hb9))
      try simp only [Exit.inBlock, Exit.then]
      refine bodyPost_ret (v := .tuple #[.slice none 0 0, ((failA 1) : Fan).v]) ?_ rfl ?_
      rotate_left
      · rw [HRES.out]; exact finMA (r := ([], (failA 1))) X9.out Os.nil K9.out (by omega) (fun k h => by cases h)
      · rw [results_tmp_cell rfl]; simp [asAddr, Result.andThen, Act.put, run_ansv (X9.out.row _)]
theorem shape_any {w : World} {v : Value} {l : List Rgn} (h : Rv w v l) (K : Key4) (o : Fop) (ho : o.fits) (hkd : o.kind = 2 ∨ o.kind = 3 ∨ o.kind = 4) :
    Calls Try.prog 34 #[v, K.v, o.v] w (GivesMA w (shapeF l K o)) := by
  rcases hkd with hk | hk | hk
  · exact shape2 h K o ho hk
  · exact shape3 h K o ho hk
  · exact shape4 h K o ho hk
end Go.Proofs.Ytglnnplijienbaa
