/- Several texts in one: Fme, Fmf. -/
import Derived.Test.YtglnnplijienbaaM38
import Derived.Test.YtglnnplijienbaaCFld
/- flat: Do, regions. -/
namespace Go.Proofs.Ytglnnplijienbaa
open Go.ChangeShapes Go.WideShapes Go.ChangeAt Go.RowKit Go.Joins Go.Sort
set_option linter.unusedVariables false
set_option linter.unusedSimpArgs false
set_option maxRecDepth 100000
def Sp.ma (k B : Nat) (l : List Rgn) (a : Fan) : Sp := ⟨k, fun v => ∃ u, v = .tuple #[u, .agg (nA a)], fun v w => ∃ u, v = .tuple #[u, .agg (nA a)] ∧ Os fR 6 40 w B u l, ⟨_, .slice none 0 0, rfl⟩, fun v w w' h hb => by
  obtain ⟨u, e, ho⟩ := h
  exact ⟨u, e, ho.below hb (Nat.le_refl _)⟩⟩
theorem Pv.regs {w : World} {cs : Array Value} {p : Fp} (h : Pv w cs p) {v : Value} {l : List Rgn} (hr : Rt w v l) : Pv w (cs.setIfInBounds 1 v) { p with rg := l } := by
  have hs := h.size
  have hne : ∀ j, j ≠ 1 → (cs.setIfInBounds 1 v)[j]? = cs[j]? := fun j hj => Array.getElem?_setIfInBounds_ne (by omega)
  refine ⟨by rw [Array.size_setIfInBounds]; exact hs, all_set h.one _ ?_, by rw [hne 0 (by omega)]; exact h.live, ⟨v, Array.getElem?_setIfInBounds_self_of_lt (by rw [hs]; omega), hr⟩, fun i u hu => ?_, fun n i hn hi => ?_, fun n i hn hi => ?_⟩
  · obtain ⟨A, n, c, rfl, _⟩ := hr; rfl
  · rw [hne _ (by omega)]; exact h.ks i u hu
  · rw [hne _ (by omega)]; exact h.bt n i hn hi
  · rw [hne _ (by omega)]; exact h.tg n i hn hi
theorem map_len {l : List Rgn} {K : Key4} {all : Int} {o : Fop} (h : (mapF l K all o).2.err = 0) : (mapF l K all o).1.length ≤ 64 := by
  obtain ⟨e1, e2, _⟩ := map_ok h
  rw [e1]
  exact rightL_len (add_has e2).1
theorem shape_len {l : List Rgn} {K : Key4} {o : Fop} (hk : o.kind = 2 ∨ o.kind = 3 ∨ o.kind = 4) (h : (shapeF l K o).2.err = 0) : (shapeF l K o).1.length ≤ 64 := by
  rcases (shape_ok hk h).2 with ⟨_, e1, e2, _⟩ | ⟨_, _, _, e1, e2, _⟩ | ⟨_, e1, e2⟩
  · rw [e2]; exact rightL_len (cut_has e1).1
  · rw [e2]; exact rightL_len (turn_has e1).1
  · rw [e2]; exact rightL_len (turn_has e1).1
set_option maxHeartbeats 16000000 in
theorem do_map {w : World} {gw : Nat} {gs : Nat → Nat} {W : Fw} (h : Ws w gw gs W) (hok : OkW W) (o : Fop) (ho : o.fits) (hk : o.kind = 1) (h0 : 0 ≤ o.proc) (h4 : o.proc < 4) (hl : (W o.proc.toNat).live = true) :
    Calls Try.prog 22 #[.pointer (some ⟨gw, 0, none⟩), .agg (opA o)] w (GivesW gw gs (doF W o) w) := by
  have HFA := Lib.hid (fun (e : Int) (W : World) => fails_any e W)
  have HWS := Lib.hid h
  have hgw := h.top.lt
  have HR : Hid (doF W o = (if (mapF (W o.proc.toNat).rg (W o.proc.toNat).ks (mappedF W) o).2.err = 0 then (updW W o.proc.toNat (cleanF { W o.proc.toNat with rg := (mapF (W o.proc.toNat).rg (W o.proc.toNat).ks (mappedF W) o).1 }), (mapF (W o.proc.toNat).rg (W o.proc.toNat).ks (mappedF W) o).2) else (W, (mapF (W o.proc.toNat).rg (W o.proc.toNat).ks (mappedF W) o).2))) := Lib.hid (by
    unfold doF
    rw [if_neg (by omega), if_neg (by omega), if_neg (by rintro (h | h | h); omega; omega; rw [hl] at h; cases h)]
    rw [if_pos (by omega)]
    simp only [if_pos hk])
  have hW1 : Below w.heap.size w ((w.alloc (.cells (opA o) 43)).alloc (.cells #[.int .i64 0, .int .i64 0, .int .i64 0, .int .i64 0] 47)) := (below1 _ _).alloc (by simp) _
  have hO1 : Bx ((w.alloc (.cells (opA o) 43)).alloc (.cells #[.int .i64 0, .int .i64 0, .int .i64 0, .int .i64 0] 47)) w.heap.size 43 (opA o) := (Bx.new _ _ _).below (below1 _ _)
  have hA1 : Bx ((w.alloc (.cells (opA o) 43)).alloc (.cells #[.int .i64 0, .int .i64 0, .int .i64 0, .int .i64 0] 47)) (w.heap.size + 1) 47 #[.int .i64 0, .int .i64 0, .int .i64 0, .int .i64 0] := by
    have := Bx.new (w.alloc (.cells (opA o) 43)) 47 #[.int .i64 0, .int .i64 0, .int .i64 0, .int .i64 0]
    rwa [World.size_alloc] at this
  obtain ⟨w1, hw1⟩ : ∃ w1, w1 = ((w.alloc (.cells (opA o) 43)).alloc (.cells #[.int .i64 0, .int .i64 0, .int .i64 0, .int .i64 0] 47)) := ⟨_, rfl⟩
  have HW1 := Lib.hid hw1
  rw [← hw1] at hW1 hO1 hA1
  have K1 := Lib.hid hW1
  have O1 := Lib.hid hO1
  have A1 := Lib.hid hA1
  have c0 : ((w.alloc (.cells (opA o) 43)).alloc (.cells #[.int .i64 0, .int .i64 0, .int .i64 0, .int .i64 0] 47)).cell? ⟨w.heap.size, 0, none⟩ = some (.int .i64 o.kind) := by rw [← hw1, O1.out.cell]; rfl
  clear h hw1 hW1 hO1 hA1
  have OP : Hid ((opA o)[1]? = some (.int .i64 o.proc)) := Lib.hid rfl
  have OK : Hid ((opA o)[0]? = some (.int .i64 o.kind)) := Lib.hid rfl
  have HOZ : Hid ((opA o).size = 12) := Lib.hid rfl
  generalize doF W o = rs at *
  obtain ⟨kd, hkd⟩ : ∃ kd, kd = o.kind := ⟨_, rfl⟩
  obtain ⟨pr, hpr⟩ : ∃ pr, pr = o.proc := ⟨_, rfl⟩
  have hko := hk
  rw [← hkd] at c0 OK hk
  rw [← hpr] at OP h0 h4 hl
  rw [← hpr] at HR
  clear hkd hpr
  obtain ⟨k, rfl⟩ := Int.eq_ofNat_of_zero_le h0
  have hk4 : k < 4 := by omega
  simp only [Int.toNat_natCast] at hl HR
  have hd : decide ((k : Int) < 0) = false := decide_eq_false (by omega)
  have hd4 : decide (4 ≤ (k : Int)) = false := decide_eq_false (by omega)
  have hd5 : decide (4 ≤ k) = false := decide_eq_false (by omega)
  obtain ⟨cs, hxk, hpk⟩ := HWS.out.each k hk4
  obtain ⟨v, hv, hrt⟩ := hpk.rg
  have HX := Lib.hid hxk
  have HP := Lib.hid hpk
  have HV := Lib.hid hv
  have HKS := Lib.hid hpk.ks
  have HLN : Hid ((mapF (W k).rg (W k).ks (mappedF W) o).2.err = 0 → (mapF (W k).rg (W k).ks (mappedF W) o).1.length ≤ 64) := Lib.hid (fun h => map_len h)
  have HMP := Lib.hid (fun (w' : World) (hb : Below w.heap.size w w') => mapped_any (HWS.out.below hb) (fun k _ => (hok.p k).r))
  have hm0 : 0 ≤ mappedF W ∧ mappedF W ≤ 64 := by
    have h0 := tot_nonneg (hok.p 0).r
    have h1 := tot_nonneg (hok.p 1).r
    have h2 := tot_nonneg (hok.p 2).r
    have h3 := tot_nonneg (hok.p 3).r
    have := hok.sum
    unfold mappedF at this ⊢
    omega
  have HMC : Hid (∀ (w' : World), Below w.heap.size w w' → Calls Try.prog 32 #[v, .agg (kA (W k).ks), .int .i64 (mappedF W), .agg (opA o)] w' fun e w'' => ∃ u, e = .returned (.tuple #[u, .agg (nA (mapF (W k).rg (W k).ks (mappedF W) o).2)]) ∧ Os fR 6 40 w'' w'.heap.size u (mapF (W k).rg (W k).ks (mappedF W) o).1 ∧ Below w'.heap.size w' w'') := Lib.hid (fun w' hb => (map_any (hrt.rv.below hb) (hok.p k).r (W k).ks (mappedF W) hm0.1 (by omega) o ho).mono fun e w2 h => h)
  clear hxk hpk hv hrt
  clear hko
  obtain ⟨oA, hoA⟩ : ∃ oA, oA = opA o := ⟨_, rfl⟩
  rw [← hoA] at HW1 O1 c0 OP OK HOZ HMC ⊢
  clear hoA ho h0 h4
  obtain ⟨r, hr⟩ : ∃ r, r = mapF (W k).rg (W k).ks (mappedF W) o := ⟨_, rfl⟩
  rw [← hr] at HMC HR HLN
  clear hr hok
  obtain ⟨KK, hKK⟩ : ∃ KK, KK = (W k).ks := ⟨_, rfl⟩
  rw [← hKK] at HMC HKS
  clear hKK
  obtain ⟨rl, na⟩ := r
  simp only at HMC HR HLN
  have NA0 : Hid ((nA na)[0]? = some (.int .i64 na.err)) := Lib.hid rfl
  have HN4 : Hid ((nA na).size = 4) := Lib.hid rfl
  obtain ⟨mp, hmp⟩ : ∃ mp, mp = mappedF W := ⟨_, rfl⟩
  rw [← hmp] at HMC HMP
  clear hmp hm0
  subst hk
  all_goals
    go_enter Try.func22, Try.ntmps22
    go_wp2
    rw [← HW1.out]
    clear c0
    have c1 : w1.cell? ⟨w.heap.size, 1, none⟩ = some (.int .i64 k) := by rw [O1.out.cell]; exact OP.out
    have l1 : w.heap.size < w1.heap.size := O1.out.lt
    have gc : ∀ (d : Nat) (os : Array Obj) (b o : Nat), b < w1.heap.size → (grow (redrawn w1 d) os).cell? ⟨b, o, none⟩ = w1.cell? ⟨b, o, none⟩ := fun d os b o h => (below_regrown _ d os).cell (p := ⟨b, o, none⟩) h
    have WS1 := Lib.hid (HWS.out.below K1.out)
    have cw : w1.cell? ⟨gw, k, none⟩ = some (.pointer (some ⟨gs k, 0, none⟩)) := WS1.out.at_ hk4
    have lw : gw < w1.heap.size := WS1.out.top.lt
    have cl : w1.cell? ⟨gs k, 0, none⟩ = some (.bool true) := by rw [WS1.out.cells hk4, hl]
    have ll : gs k < w1.heap.size := lt_of_cell cl
    refine wp_rel [] (by kernel_rfl) (by kernel_rfl) ?_
    intro V hV
    iterate 12 (refine rq rfl rfl ?_; go_big_quiet_step (fail); refine wpQuiet_nil ?_)
    refine rn ⟨gw, 0, none⟩ (by kernel_rfl) rfl rfl ?_; go_big_quiet_step (fail); refine wpQuiet_nil ?_
    iterate 3 (refine rq rfl rfl ?_; go_big_quiet_step (fail); refine wpQuiet_nil ?_)
    refine rn ⟨gs k, 0, none⟩ (by kernel_rfl) rfl rfl ?_; go_big_quiet_step (fail); refine wpQuiet_nil ?_
    iterate 4 (refine rq rfl rfl ?_; go_big_quiet_step (fail); refine wpQuiet_nil ?_)
    refine rend ?_
    intro w3 hb3 hf
    clear hf hV gc c1 l1 cw lw cl ll
    have A3 := Lib.hid (A1.out.below hb3)
    have O3 := Lib.hid (O1.out.below hb3)
    have K3 := Lib.hid (K1.out.trans (hb3.mono K1.out.size))
    have WS3 := Lib.hid (WS1.out.below hb3)
    clear hb3
    go_wp2
    have c1 : w3.cell? ⟨w.heap.size, 1, none⟩ = some (.int .i64 k) := by rw [O3.out.cell]; exact OP.out
    have l1 : w.heap.size < w3.heap.size := O3.out.lt
    have cw : w3.cell? ⟨gw, k, none⟩ = some (.pointer (some ⟨gs k, 0, none⟩)) := WS3.out.at_ hk4
    have lw : gw < w3.heap.size := WS3.out.top.lt
    have gc : ∀ (d : Nat) (os : Array Obj) (b o : Nat), b < w3.heap.size → (grow (redrawn w3 d) os).cell? ⟨b, o, none⟩ = w3.cell? ⟨b, o, none⟩ := fun d os b o h => (below_regrown _ d os).cell (p := ⟨b, o, none⟩) h
    refine wp_rel [] (by kernel_rfl) (by kernel_rfl) ?_
    intro V hV
    iterate 3 (refine rq rfl rfl ?_; go_big_quiet_step (fail); refine wpQuiet_nil ?_)
    refine rn ⟨gw, 0, none⟩ (by kernel_rfl) rfl rfl ?_; go_big_quiet_step (fail); refine wpQuiet_nil ?_
    iterate 4 (refine rq rfl rfl ?_; go_big_quiet_step (fail); refine wpQuiet_nil ?_)
    refine rend ?_
    intro w5 hb5 hf
    clear hf hV gc c1 l1 cw lw
    have A5 := Lib.hid (A3.out.below hb5)
    have O5 := Lib.hid (O3.out.below hb5)
    have K5 := Lib.hid (K3.out.trans (hb5.mono K3.out.size))
    have WS5 := Lib.hid (WS3.out.below hb5)
    clear hb5
    have c0 := (O5.out.cell 0).trans OK.out
    have l0 : w.heap.size < w5.heap.size := O5.out.lt
    go_wp2
    have K6 : Hid (Below w.heap.size w (w5.alloc (.cells #[.int .i64 0, .int .i64 0, .int .i64 0, .int .i64 0] 47))) := Lib.hid (K5.out.trans ((below1 _ _).mono K5.out.size))
    have B6 : Hid (Bx (w5.alloc (.cells #[.int .i64 0, .int .i64 0, .int .i64 0, .int .i64 0] 47)) w5.heap.size 47 #[.int .i64 0, .int .i64 0, .int .i64 0, .int .i64 0]) := Lib.hid (Bx.new _ _ _)
    have W56 := below1 w5 (.cells #[.int .i64 0, .int .i64 0, .int .i64 0, .int .i64 0] 47)
    have LB : Hid (w.heap.size + 1 < w5.heap.size) := Lib.hid A5.out.lt
    obtain ⟨tb, htb⟩ : ∃ tb, tb = w5.heap.size := ⟨_, rfl⟩
    rw [← htb] at B6 LB ⊢
    obtain ⟨w6, hw6⟩ : ∃ w6, w6 = w5.alloc (.cells #[.int .i64 0, .int .i64 0, .int .i64 0, .int .i64 0] 47) := ⟨_, rfl⟩
    rw [← hw6] at K6 B6 W56 ⊢
    have A6 := Lib.hid (A5.out.below W56)
    have O6 := Lib.hid (O5.out.below W56)
    have WS6 := Lib.hid (WS5.out.below W56)
    have X6 := Lib.hid (HX.out.below K6.out)
    have P6 := Lib.hid (HP.out.below K6.out)
    clear hw6 htb W56 c0 l0
    have cv : w6.cell? ⟨gs k, 1, none⟩ = some v := by rw [X6.out.cell]; exact HV.out
    have lv : gs k < w6.heap.size := X6.out.lt
    have gc : ∀ (d : Nat) (os : Array Obj) (b o : Nat), b < w6.heap.size → (grow (redrawn w6 d) os).cell? ⟨b, o, none⟩ = w6.cell? ⟨b, o, none⟩ := fun d os b o h => (below_regrown _ d os).cell (p := ⟨b, o, none⟩) h
    refine wp_relt 16 [Sp.call 9 (.int .i64 mp), Sp.ma 11 w6.heap.size rl na] (by kernel_rfl) (by kernel_rfl) (by kernel_rfl) ?_
    intro V hV
    have e9 : V 9 = .int .i64 mp := hV 9
    obtain ⟨u, e11⟩ : ∃ u, V 11 = .tuple #[u, .agg (nA na)] := hV 11
    simp only [List.take_succ_cons, List.take_zero, List.drop_succ_cons, List.drop_zero]
    refine rq rfl rfl ?_; go_big_quiet_step (fail); refine wpQuiet_nil ?_
    refine rn ⟨gs k, 0, none⟩ (by kernel_rfl) rfl rfl ?_; go_big_quiet_step (fail); refine wpQuiet_nil ?_
    iterate 3 (refine rq rfl rfl ?_; go_big_quiet_step (fail); refine wpQuiet_nil ?_)
    refine rn ⟨gs k, 0, none⟩ (by kernel_rfl) rfl rfl ?_; go_big_quiet_step (fail); refine wpQuiet_nil ?_
    refine rq rfl rfl ?_; go_big_quiet_step (fail); refine wpQuiet_nil ?_
    refine rf (.agg (kA KK)) (by kernel_rfl) rfl (fun w' hb hf => ex_ld rfl (run_ld Try.underlying28 rfl infoKs (X6.out.below hb) HKS.out rfl)) ?_
    go_big_quiet_step (fail)
    refine wpQuiet_nil ?_
    refine rq rfl rfl ?_; go_big_quiet_step (fail); refine wpQuiet_nil ?_
    refine rsp (Sp.call 9 (.int .i64 mp)) (by kernel_rfl) rfl (fun w' hb hf => ?_) ?_
    · refine becomes_known (f := 33) (args := #[.pointer (some ⟨gw, 0, none⟩)]) ?_ (HMP.out w' (K6.out.trans (hb.mono K6.out.size)))
      go_simp
    go_big_quiet_step (fail)
    refine wpQuiet_nil ?_
    simp only [e9]
    refine rf (.agg oA) (by kernel_rfl) rfl (fun w' hb hf => ex_ld rfl (run_ld Try.underlying43 rfl infoOp (O6.out.below hb) (Sub.all _) HOZ.out)) ?_
    go_big_quiet_step (fail)
    refine wpQuiet_nil ?_
    refine rsp (Sp.ma 11 w6.heap.size rl na) (by kernel_rfl) rfl (fun w' hb hf => ?_) ?_
    · refine becomes_call (f := 32) (args := #[v, .agg (kA KK), .int .i64 mp, .agg oA]) ?_ ((HMC.out w' (K6.out.trans (hb.mono K6.out.size))).mono ?_)
      · go_simp
      · rintro e w'' ⟨u0, rfl, ho, hb2⟩
        exact ⟨_, rfl, hb2, ⟨u0, rfl⟩, u0, rfl, ho.rebase hb.size⟩
    go_big_quiet_step (fail)
    refine wpQuiet_nil ?_
    simp only [e11]
    iterate 4 (refine rq rfl rfl ?_; go_big_quiet_step (fail); refine wpQuiet_nil ?_)
    refine rend ?_
    clear e9 e11
    intro w7 hb7 hf
    obtain ⟨u2, hu2, HO⟩ : ∃ u2, Value.tuple #[u, .agg (nA na)] = .tuple #[u2, .agg (nA na)] ∧ Os fR 6 40 w7 w6.heap.size u2 rl := hf _ (List.Mem.head _)
    obtain rfl : u = u2 := by
      injection hu2 with h1
      injection h1 with h1
      injection h1 with h1 h2
    clear hf hV gc cv lv hu2
    have B7 := Lib.hid (B6.out.below hb7)
    have A7 := Lib.hid (A6.out.below hb7)
    have K7 := Lib.hid (K6.out.trans (hb7.mono K6.out.size))
    have WS7 := Lib.hid (WS6.out.below hb7)
    have X7 := Lib.hid (X6.out.below hb7)
    have P7 := Lib.hid (P6.out.below hb7)
    have LW : Hid (tb < w6.heap.size) := Lib.hid B6.out.lt
    clear hb7
    refine stB infoN tb (nA na) rfl rfl B7.out rfl rfl (nA_one _) ?_
    have B8 := Lib.hid (B7.out.row (nA na))
    have A8 := Lib.hid (A7.out.orow (q := tb) (by have := LB.out; omega) (nA na))
    have K8 := Lib.hid (below_setRow K7.out (g := tb) (by have := LB.out; omega) (nA na))
    have WS8 := Lib.hid (WS7.out.row B7.out (by decide) (by decide) (by decide) (nA na))
    have X8 := Lib.hid (X7.out.orow (bx_ne X7.out B7.out (by decide)) (nA na))
    have P8 := Lib.hid (P7.out.rt (w' := w7.setRow tb (nA na)) fun v h => h.row B7.out (by decide) _)
    have HO8 := Lib.hid (HO.orow LW.out (nA na))
    obtain ⟨w8, hw8⟩ : ∃ w8, w8 = w7.setRow tb (nA na) := ⟨_, rfl⟩
    rw [← hw8] at B8 A8 K8 WS8 X8 P8 HO8 ⊢
    clear hw8 HO
    have ca : w8.cell? ⟨tb, 0, none⟩ = some (.int .i64 na.err) := by rw [B8.out.cell]; exact NA0.out
    have la : tb < w8.heap.size := B8.out.lt
    by_cases he : na.err = 0
    · have HR2 := Lib.hid (HR.out.trans (if_pos he))
      rw [he] at ca
      clear HR
      have HR := HR2
      have HRT := Lib.hid (Rt.of HO8.out (HLN.out he))
      obtain ⟨Au, nu, cu, rfl, _⟩ := HRT.out
      have c9 : w8.cell? ⟨gs k, 1, none⟩ = some v := by rw [X8.out.cell]; exact HV.out
      have f9 : w8.frozen? ⟨gs k, 1, none⟩ = false := X8.out.free _
      have l9 : gs k < w8.heap.size := X8.out.lt
      have X9 := Lib.hid (X8.out.set 1 (.slice Au nu cu))
      have P9 : Hid (Pv (w8.setCell ⟨gs k, 1, none⟩ (.slice Au nu cu)) (cs.setIfInBounds 1 (.slice Au nu cu)) { W k with rg := rl }) := Lib.hid ((P8.out.regs HRT.out).rt fun v h => h.cell X8.out (by decide) _ _)
      have K9 : Hid (Keep (fun b => b = gs k) w8 (w8.setCell ⟨gs k, 1, none⟩ (.slice Au nu cu))) := Lib.hid (Keep.cell (S := fun b => b = gs k) (Keep.refl _ _) (.inl rfl) _ _)
      have HCL := Lib.hid (clean_any X9.out P9.out)
      go_wp2_with (first
        | (go_at_call 35
           refine HCL.out.mono ?_
           rintro e w10 ⟨rfl, hpk⟩
           have PK : Hid (PvK (gs k) (cleanF { W k with rg := rl }) w8 w10) := Lib.hid (by obtain ⟨c, h1, h2, h3⟩ := hpk; exact ⟨c, h1, h2, K9.out.trans h3 (fun _ _ h => h)⟩)
           have WK := Lib.hid (WsK.of_p WS8.out hk4 PK.out)
           have A10 : Hid (Bx w10 (w.heap.size + 1) 47 #[.int .i64 0, .int .i64 0, .int .i64 0, .int .i64 0]) := Lib.hid (by obtain ⟨_, _, _, h⟩ := PK.out; exact h.bx A8.out (bx_ne A8.out X8.out (by decide)))
           have B10 : Hid (Bx w10 tb 47 (nA na)) := Lib.hid (by obtain ⟨_, _, _, h⟩ := PK.out; exact h.bx B8.out (bx_ne B8.out X8.out (by decide)))
           clear hpk)
        | ((with_reducible refine ldB Try.underlying47 rfl infoN tb 0 (nA na) ?_ ?_ B10.out (Sub.all _) HN4.out ?_); rfl; rfl)
        | ((with_reducible refine stB infoN (w.heap.size + 1) (nA na) ?_ ?_ A10.out rfl rfl (nA_one _) ?_); rfl; rfl))
      try simp only [Exit.inBlock, Exit.then]
      refine bodyPost_ret (v := (na : Fan).v) ?_ rfl ?_
      rotate_left
      · rw [HR.out]; exact ⟨rfl, (WsK.trans K8.out WK.out).row A10.out (by omega) (by decide) (by decide) (by decide) _⟩
      · rw [results_cell1 rfl]; simp [asAddr, Result.andThen, Act.put, run_ansv (A10.out.row _)]
    · have HR2 := Lib.hid (HR.out.trans (if_neg he))
      clear HR
      have HR := HR2
      have hne : (na.err == 0) = false := by rw [beq_eq_false_iff_ne]; exact he
      go_wp2_with (first
        | ((with_reducible refine ldB Try.underlying47 rfl infoN tb 0 (nA na) ?_ ?_ B8.out (Sub.all _) HN4.out ?_); rfl; rfl)
        | ((with_reducible refine stB infoN (w.heap.size + 1) (nA na) ?_ ?_ A8.out rfl rfl (nA_one _) ?_); rfl; rfl))
      try simp only [Exit.inBlock, Exit.then]
      refine bodyPost_ret (v := (na : Fan).v) ?_ rfl ?_
      rotate_left
      · rw [HR.out]; exact ⟨rfl, (WsK.of HWS.out K8.out).row A8.out (by omega) (by decide) (by decide) (by decide) _⟩
      · rw [results_cell1 rfl]; simp [asAddr, Result.andThen, Act.put, run_ansv (A8.out.row _)]
set_option maxHeartbeats 16000000 in
theorem do_shape {w : World} {gw : Nat} {gs : Nat → Nat} {W : Fw} (h : Ws w gw gs W) (hok : OkW W) (o : Fop) (ho : o.fits) (hk : 2 ≤ o.kind ∧ o.kind ≤ 4) (h0 : 0 ≤ o.proc) (h4 : o.proc < 4) (hl : (W o.proc.toNat).live = true) :
    Calls Try.prog 22 #[.pointer (some ⟨gw, 0, none⟩), .agg (opA o)] w (GivesW gw gs (doF W o) w) := by
  have HFA := Lib.hid (fun (e : Int) (W : World) => fails_any e W)
  have HWS := Lib.hid h
  have hgw := h.top.lt
  have HR : Hid (doF W o = (if (shapeF (W o.proc.toNat).rg (W o.proc.toNat).ks o).2.err = 0 then (updW W o.proc.toNat (cleanF { W o.proc.toNat with rg := (shapeF (W o.proc.toNat).rg (W o.proc.toNat).ks o).1 }), (shapeF (W o.proc.toNat).rg (W o.proc.toNat).ks o).2) else (W, (shapeF (W o.proc.toNat).rg (W o.proc.toNat).ks o).2))) := Lib.hid (by
    unfold doF
    rw [if_neg (by omega), if_neg (by omega), if_neg (by rintro (h | h | h); omega; omega; rw [hl] at h; cases h)]
    rw [if_pos (by omega)]
    simp only [if_neg (show ¬ o.kind = 1 by omega)])
  have hW1 : Below w.heap.size w ((w.alloc (.cells (opA o) 43)).alloc (.cells #[.int .i64 0, .int .i64 0, .int .i64 0, .int .i64 0] 47)) := (below1 _ _).alloc (by simp) _
  have hO1 : Bx ((w.alloc (.cells (opA o) 43)).alloc (.cells #[.int .i64 0, .int .i64 0, .int .i64 0, .int .i64 0] 47)) w.heap.size 43 (opA o) := (Bx.new _ _ _).below (below1 _ _)
  have hA1 : Bx ((w.alloc (.cells (opA o) 43)).alloc (.cells #[.int .i64 0, .int .i64 0, .int .i64 0, .int .i64 0] 47)) (w.heap.size + 1) 47 #[.int .i64 0, .int .i64 0, .int .i64 0, .int .i64 0] := by
    have := Bx.new (w.alloc (.cells (opA o) 43)) 47 #[.int .i64 0, .int .i64 0, .int .i64 0, .int .i64 0]
    rwa [World.size_alloc] at this
  obtain ⟨w1, hw1⟩ : ∃ w1, w1 = ((w.alloc (.cells (opA o) 43)).alloc (.cells #[.int .i64 0, .int .i64 0, .int .i64 0, .int .i64 0] 47)) := ⟨_, rfl⟩
  have HW1 := Lib.hid hw1
  rw [← hw1] at hW1 hO1 hA1
  have K1 := Lib.hid hW1
  have O1 := Lib.hid hO1
  have A1 := Lib.hid hA1
  have c0 : ((w.alloc (.cells (opA o) 43)).alloc (.cells #[.int .i64 0, .int .i64 0, .int .i64 0, .int .i64 0] 47)).cell? ⟨w.heap.size, 0, none⟩ = some (.int .i64 o.kind) := by rw [← hw1, O1.out.cell]; rfl
  clear h hw1 hW1 hO1 hA1
  have OP : Hid ((opA o)[1]? = some (.int .i64 o.proc)) := Lib.hid rfl
  have OK : Hid ((opA o)[0]? = some (.int .i64 o.kind)) := Lib.hid rfl
  have HOZ : Hid ((opA o).size = 12) := Lib.hid rfl
  generalize doF W o = rs at *
  obtain ⟨kd, hkd⟩ : ∃ kd, kd = o.kind := ⟨_, rfl⟩
  obtain ⟨pr, hpr⟩ : ∃ pr, pr = o.proc := ⟨_, rfl⟩
  have hko := hk
  rw [← hkd] at c0 OK hk
  rw [← hpr] at OP h0 h4 hl
  rw [← hpr] at HR
  clear hkd hpr
  obtain ⟨k, rfl⟩ := Int.eq_ofNat_of_zero_le h0
  have hk4 : k < 4 := by omega
  simp only [Int.toNat_natCast] at hl HR
  have hd : decide ((k : Int) < 0) = false := decide_eq_false (by omega)
  have hd4 : decide (4 ≤ (k : Int)) = false := decide_eq_false (by omega)
  have hd5 : decide (4 ≤ k) = false := decide_eq_false (by omega)
  obtain ⟨cs, hxk, hpk⟩ := HWS.out.each k hk4
  obtain ⟨v, hv, hrt⟩ := hpk.rg
  have HX := Lib.hid hxk
  have HP := Lib.hid hpk
  have HV := Lib.hid hv
  have HKS := Lib.hid hpk.ks
  have HLN : Hid ((shapeF (W k).rg (W k).ks o).2.err = 0 → (shapeF (W k).rg (W k).ks o).1.length ≤ 64) := Lib.hid (fun h => shape_len (by omega) h)
  have HMC : Hid (∀ (w' : World), Below w.heap.size w w' → Calls Try.prog 34 #[v, .agg (kA (W k).ks), .agg (opA o)] w' fun e w'' => ∃ u, e = .returned (.tuple #[u, .agg (nA (shapeF (W k).rg (W k).ks o).2)]) ∧ Os fR 6 40 w'' w'.heap.size u (shapeF (W k).rg (W k).ks o).1 ∧ Below w'.heap.size w' w'') := Lib.hid (fun w' hb => (shape_any (hrt.rv.below hb) (W k).ks o ho (by omega)).mono fun e w2 h => h)
  clear hxk hpk hv hrt
  clear hko
  obtain ⟨oA, hoA⟩ : ∃ oA, oA = opA o := ⟨_, rfl⟩
  rw [← hoA] at HW1 O1 c0 OP OK HOZ HMC ⊢
  clear hoA ho h0 h4
  obtain ⟨r, hr⟩ : ∃ r, r = shapeF (W k).rg (W k).ks o := ⟨_, rfl⟩
  rw [← hr] at HMC HR HLN
  clear hr hok
  obtain ⟨KK, hKK⟩ : ∃ KK, KK = (W k).ks := ⟨_, rfl⟩
  rw [← hKK] at HMC HKS
  clear hKK
  obtain ⟨rl, na⟩ := r
  simp only at HMC HR HLN
  have NA0 : Hid ((nA na)[0]? = some (.int .i64 na.err)) := Lib.hid rfl
  have HN4 : Hid ((nA na).size = 4) := Lib.hid rfl
  have hkk : kd = 2 ∨ kd = 3 ∨ kd = 4 := by omega
  clear hk
  rcases hkk with rfl | rfl | rfl
  all_goals
    go_enter Try.func22, Try.ntmps22
    go_wp2
    rw [← HW1.out]
    clear c0
    have c1 : w1.cell? ⟨w.heap.size, 1, none⟩ = some (.int .i64 k) := by rw [O1.out.cell]; exact OP.out
    have l1 : w.heap.size < w1.heap.size := O1.out.lt
    have gc : ∀ (d : Nat) (os : Array Obj) (b o : Nat), b < w1.heap.size → (grow (redrawn w1 d) os).cell? ⟨b, o, none⟩ = w1.cell? ⟨b, o, none⟩ := fun d os b o h => (below_regrown _ d os).cell (p := ⟨b, o, none⟩) h
    have WS1 := Lib.hid (HWS.out.below K1.out)
    have cw : w1.cell? ⟨gw, k, none⟩ = some (.pointer (some ⟨gs k, 0, none⟩)) := WS1.out.at_ hk4
    have lw : gw < w1.heap.size := WS1.out.top.lt
    have cl : w1.cell? ⟨gs k, 0, none⟩ = some (.bool true) := by rw [WS1.out.cells hk4, hl]
    have ll : gs k < w1.heap.size := lt_of_cell cl
    refine wp_rel [] (by kernel_rfl) (by kernel_rfl) ?_
    intro V hV
    iterate 12 (refine rq rfl rfl ?_; go_big_quiet_step (fail); refine wpQuiet_nil ?_)
    refine rn ⟨gw, 0, none⟩ (by kernel_rfl) rfl rfl ?_; go_big_quiet_step (fail); refine wpQuiet_nil ?_
    iterate 3 (refine rq rfl rfl ?_; go_big_quiet_step (fail); refine wpQuiet_nil ?_)
    refine rn ⟨gs k, 0, none⟩ (by kernel_rfl) rfl rfl ?_; go_big_quiet_step (fail); refine wpQuiet_nil ?_
    iterate 4 (refine rq rfl rfl ?_; go_big_quiet_step (fail); refine wpQuiet_nil ?_)
    refine rend ?_
    intro w3 hb3 hf
    clear hf hV gc c1 l1 cw lw cl ll
    have A3 := Lib.hid (A1.out.below hb3)
    have O3 := Lib.hid (O1.out.below hb3)
    have K3 := Lib.hid (K1.out.trans (hb3.mono K1.out.size))
    have WS3 := Lib.hid (WS1.out.below hb3)
    clear hb3
    go_wp2
    have c1 : w3.cell? ⟨w.heap.size, 1, none⟩ = some (.int .i64 k) := by rw [O3.out.cell]; exact OP.out
    have l1 : w.heap.size < w3.heap.size := O3.out.lt
    have cw : w3.cell? ⟨gw, k, none⟩ = some (.pointer (some ⟨gs k, 0, none⟩)) := WS3.out.at_ hk4
    have lw : gw < w3.heap.size := WS3.out.top.lt
    have gc : ∀ (d : Nat) (os : Array Obj) (b o : Nat), b < w3.heap.size → (grow (redrawn w3 d) os).cell? ⟨b, o, none⟩ = w3.cell? ⟨b, o, none⟩ := fun d os b o h => (below_regrown _ d os).cell (p := ⟨b, o, none⟩) h
    refine wp_rel [] (by kernel_rfl) (by kernel_rfl) ?_
    intro V hV
    iterate 3 (refine rq rfl rfl ?_; go_big_quiet_step (fail); refine wpQuiet_nil ?_)
    refine rn ⟨gw, 0, none⟩ (by kernel_rfl) rfl rfl ?_; go_big_quiet_step (fail); refine wpQuiet_nil ?_
    iterate 4 (refine rq rfl rfl ?_; go_big_quiet_step (fail); refine wpQuiet_nil ?_)
    refine rend ?_
    intro w5 hb5 hf
    clear hf hV gc c1 l1 cw lw
    have A5 := Lib.hid (A3.out.below hb5)
    have O5 := Lib.hid (O3.out.below hb5)
    have K5 := Lib.hid (K3.out.trans (hb5.mono K3.out.size))
    have WS5 := Lib.hid (WS3.out.below hb5)
    clear hb5
    have c0 := (O5.out.cell 0).trans OK.out
    have l0 : w.heap.size < w5.heap.size := O5.out.lt
    go_wp2
    have K6 : Hid (Below w.heap.size w (w5.alloc (.cells #[.int .i64 0, .int .i64 0, .int .i64 0, .int .i64 0] 47))) := Lib.hid (K5.out.trans ((below1 _ _).mono K5.out.size))
    have B6 : Hid (Bx (w5.alloc (.cells #[.int .i64 0, .int .i64 0, .int .i64 0, .int .i64 0] 47)) w5.heap.size 47 #[.int .i64 0, .int .i64 0, .int .i64 0, .int .i64 0]) := Lib.hid (Bx.new _ _ _)
    have W56 := below1 w5 (.cells #[.int .i64 0, .int .i64 0, .int .i64 0, .int .i64 0] 47)
    have LB : Hid (w.heap.size + 1 < w5.heap.size) := Lib.hid A5.out.lt
    obtain ⟨tb, htb⟩ : ∃ tb, tb = w5.heap.size := ⟨_, rfl⟩
    rw [← htb] at B6 LB ⊢
    obtain ⟨w6, hw6⟩ : ∃ w6, w6 = w5.alloc (.cells #[.int .i64 0, .int .i64 0, .int .i64 0, .int .i64 0] 47) := ⟨_, rfl⟩
    rw [← hw6] at K6 B6 W56 ⊢
    have A6 := Lib.hid (A5.out.below W56)
    have O6 := Lib.hid (O5.out.below W56)
    have WS6 := Lib.hid (WS5.out.below W56)
    have X6 := Lib.hid (HX.out.below K6.out)
    have P6 := Lib.hid (HP.out.below K6.out)
    clear hw6 htb W56 c0 l0
    have cv : w6.cell? ⟨gs k, 1, none⟩ = some v := by rw [X6.out.cell]; exact HV.out
    have lv : gs k < w6.heap.size := X6.out.lt
    have gc : ∀ (d : Nat) (os : Array Obj) (b o : Nat), b < w6.heap.size → (grow (redrawn w6 d) os).cell? ⟨b, o, none⟩ = w6.cell? ⟨b, o, none⟩ := fun d os b o h => (below_regrown _ d os).cell (p := ⟨b, o, none⟩) h
    refine wp_relt 14 [Sp.ma 9 w6.heap.size rl na] (by kernel_rfl) (by kernel_rfl) (by kernel_rfl) ?_
    intro V hV
    obtain ⟨u, e9⟩ : ∃ u, V 9 = .tuple #[u, .agg (nA na)] := hV 9
    simp only [List.take_succ_cons, List.take_zero, List.drop_succ_cons, List.drop_zero]
    refine rq rfl rfl ?_; go_big_quiet_step (fail); refine wpQuiet_nil ?_
    refine rn ⟨gs k, 0, none⟩ (by kernel_rfl) rfl rfl ?_; go_big_quiet_step (fail); refine wpQuiet_nil ?_
    iterate 3 (refine rq rfl rfl ?_; go_big_quiet_step (fail); refine wpQuiet_nil ?_)
    refine rn ⟨gs k, 0, none⟩ (by kernel_rfl) rfl rfl ?_; go_big_quiet_step (fail); refine wpQuiet_nil ?_
    refine rq rfl rfl ?_; go_big_quiet_step (fail); refine wpQuiet_nil ?_
    refine rf (.agg (kA KK)) (by kernel_rfl) rfl (fun w' hb hf => ex_ld rfl (run_ld Try.underlying28 rfl infoKs (X6.out.below hb) HKS.out rfl)) ?_
    go_big_quiet_step (fail)
    refine wpQuiet_nil ?_
    refine rf (.agg oA) (by kernel_rfl) rfl (fun w' hb hf => ex_ld rfl (run_ld Try.underlying43 rfl infoOp (O6.out.below hb) (Sub.all _) HOZ.out)) ?_
    go_big_quiet_step (fail)
    refine wpQuiet_nil ?_
    refine rsp (Sp.ma 9 w6.heap.size rl na) (by kernel_rfl) rfl (fun w' hb hf => ?_) ?_
    · refine becomes_call (f := 34) (args := #[v, .agg (kA KK), .agg oA]) ?_ ((HMC.out w' (K6.out.trans (hb.mono K6.out.size))).mono ?_)
      · go_simp
      · rintro e w'' ⟨u0, rfl, ho, hb2⟩
        exact ⟨_, rfl, hb2, ⟨u0, rfl⟩, u0, rfl, ho.rebase hb.size⟩
    go_big_quiet_step (fail)
    refine wpQuiet_nil ?_
    simp only [e9]
    iterate 4 (refine rq rfl rfl ?_; go_big_quiet_step (fail); refine wpQuiet_nil ?_)
    refine rend ?_
    clear e9
    intro w7 hb7 hf
    obtain ⟨u2, hu2, HO⟩ : ∃ u2, Value.tuple #[u, .agg (nA na)] = .tuple #[u2, .agg (nA na)] ∧ Os fR 6 40 w7 w6.heap.size u2 rl := hf _ (List.Mem.head _)
    obtain rfl : u = u2 := by
      injection hu2 with h1
      injection h1 with h1
      injection h1 with h1 h2
    clear hf hV gc cv lv hu2
    have B7 := Lib.hid (B6.out.below hb7)
    have A7 := Lib.hid (A6.out.below hb7)
    have K7 := Lib.hid (K6.out.trans (hb7.mono K6.out.size))
    have WS7 := Lib.hid (WS6.out.below hb7)
    have X7 := Lib.hid (X6.out.below hb7)
    have P7 := Lib.hid (P6.out.below hb7)
    have LW : Hid (tb < w6.heap.size) := Lib.hid B6.out.lt
    clear hb7
    refine stB infoN tb (nA na) rfl rfl B7.out rfl rfl (nA_one _) ?_
    have B8 := Lib.hid (B7.out.row (nA na))
    have A8 := Lib.hid (A7.out.orow (q := tb) (by have := LB.out; omega) (nA na))
    have K8 := Lib.hid (below_setRow K7.out (g := tb) (by have := LB.out; omega) (nA na))
    have WS8 := Lib.hid (WS7.out.row B7.out (by decide) (by decide) (by decide) (nA na))
    have X8 := Lib.hid (X7.out.orow (bx_ne X7.out B7.out (by decide)) (nA na))
    have P8 := Lib.hid (P7.out.rt (w' := w7.setRow tb (nA na)) fun v h => h.row B7.out (by decide) _)
    have HO8 := Lib.hid (HO.orow LW.out (nA na))
    obtain ⟨w8, hw8⟩ : ∃ w8, w8 = w7.setRow tb (nA na) := ⟨_, rfl⟩
    rw [← hw8] at B8 A8 K8 WS8 X8 P8 HO8 ⊢
    clear hw8 HO
    have ca : w8.cell? ⟨tb, 0, none⟩ = some (.int .i64 na.err) := by rw [B8.out.cell]; exact NA0.out
    have la : tb < w8.heap.size := B8.out.lt
    by_cases he : na.err = 0
    · have HR2 := Lib.hid (HR.out.trans (if_pos he))
      rw [he] at ca
      clear HR
      have HR := HR2
      have HRT := Lib.hid (Rt.of HO8.out (HLN.out he))
      obtain ⟨Au, nu, cu, rfl, _⟩ := HRT.out
      have c9 : w8.cell? ⟨gs k, 1, none⟩ = some v := by rw [X8.out.cell]; exact HV.out
      have f9 : w8.frozen? ⟨gs k, 1, none⟩ = false := X8.out.free _
      have l9 : gs k < w8.heap.size := X8.out.lt
      have X9 := Lib.hid (X8.out.set 1 (.slice Au nu cu))
      have P9 : Hid (Pv (w8.setCell ⟨gs k, 1, none⟩ (.slice Au nu cu)) (cs.setIfInBounds 1 (.slice Au nu cu)) { W k with rg := rl }) := Lib.hid ((P8.out.regs HRT.out).rt fun v h => h.cell X8.out (by decide) _ _)
      have K9 : Hid (Keep (fun b => b = gs k) w8 (w8.setCell ⟨gs k, 1, none⟩ (.slice Au nu cu))) := Lib.hid (Keep.cell (S := fun b => b = gs k) (Keep.refl _ _) (.inl rfl) _ _)
      have HCL := Lib.hid (clean_any X9.out P9.out)
      go_wp2_with (first
        | (go_at_call 35
           refine HCL.out.mono ?_
           rintro e w10 ⟨rfl, hpk⟩
           have PK : Hid (PvK (gs k) (cleanF { W k with rg := rl }) w8 w10) := Lib.hid (by obtain ⟨c, h1, h2, h3⟩ := hpk; exact ⟨c, h1, h2, K9.out.trans h3 (fun _ _ h => h)⟩)
           have WK := Lib.hid (WsK.of_p WS8.out hk4 PK.out)
           have A10 : Hid (Bx w10 (w.heap.size + 1) 47 #[.int .i64 0, .int .i64 0, .int .i64 0, .int .i64 0]) := Lib.hid (by obtain ⟨_, _, _, h⟩ := PK.out; exact h.bx A8.out (bx_ne A8.out X8.out (by decide)))
           have B10 : Hid (Bx w10 tb 47 (nA na)) := Lib.hid (by obtain ⟨_, _, _, h⟩ := PK.out; exact h.bx B8.out (bx_ne B8.out X8.out (by decide)))
           clear hpk)
        | ((with_reducible refine ldB Try.underlying47 rfl infoN tb 0 (nA na) ?_ ?_ B10.out (Sub.all _) HN4.out ?_); rfl; rfl)
        | ((with_reducible refine stB infoN (w.heap.size + 1) (nA na) ?_ ?_ A10.out rfl rfl (nA_one _) ?_); rfl; rfl))
      try simp only [Exit.inBlock, Exit.then]
      refine bodyPost_ret (v := (na : Fan).v) ?_ rfl ?_
      rotate_left
      · rw [HR.out]; exact ⟨rfl, (WsK.trans K8.out WK.out).row A10.out (by omega) (by decide) (by decide) (by decide) _⟩
      · rw [results_cell1 rfl]; simp [asAddr, Result.andThen, Act.put, run_ansv (A10.out.row _)]
    · have HR2 := Lib.hid (HR.out.trans (if_neg he))
      clear HR
      have HR := HR2
      have hne : (na.err == 0) = false := by rw [beq_eq_false_iff_ne]; exact he
      go_wp2_with (first
        | ((with_reducible refine ldB Try.underlying47 rfl infoN tb 0 (nA na) ?_ ?_ B8.out (Sub.all _) HN4.out ?_); rfl; rfl)
        | ((with_reducible refine stB infoN (w.heap.size + 1) (nA na) ?_ ?_ A8.out rfl rfl (nA_one _) ?_); rfl; rfl))
      try simp only [Exit.inBlock, Exit.then]
      refine bodyPost_ret (v := (na : Fan).v) ?_ rfl ?_
      rotate_left
      · rw [HR.out]; exact ⟨rfl, (WsK.of HWS.out K8.out).row A8.out (by omega) (by decide) (by decide) (by decide) _⟩
      · rw [results_cell1 rfl]; simp [asAddr, Result.andThen, Act.put, run_ansv (A8.out.row _)]
end Go.Proofs.Ytglnnplijienbaa

/- flat: Do. -/
namespace Go.Proofs.Ytglnnplijienbaa
open Go.ChangeShapes Go.WideShapes Go.ChangeAt Go.RowKit Go.Joins Go.Sort
set_option linter.unusedVariables false
theorem do_any {w : World} {gw : Nat} {gs : Nat → Nat} {W : Fw} (h : Ws w gw gs W) (hok : OkW W) (o : Fop) (ho : o.fits) :
    Calls Try.prog 22 #[.pointer (some ⟨gw, 0, none⟩), .agg (opA o)] w (GivesW gw gs (doF W o) w) := by
  by_cases h1 : o.kind < 1 ∨ 14 < o.kind
  · exact do_kind h hok o ho h1
  by_cases h2 : o.kind = 14
  · exact do_14 h hok o ho h2
  by_cases h3 : o.proc < 0 ∨ 4 ≤ o.proc ∨ (W o.proc.toNat).live = false
  · exact do_proc h hok o ho (by omega) h3
  have h0 : 0 ≤ o.proc := by omega
  have h4 : o.proc < 4 := by omega
  have hl : (W o.proc.toNat).live = true := by
    cases hl : (W o.proc.toNat).live with
    | true => rfl
    | false => exact absurd (.inr (.inr hl)) h3
  by_cases k1 : o.kind = 1
  · exact do_map h hok o ho k1 h0 h4 hl
  by_cases k4 : o.kind ≤ 4
  · exact do_shape h hok o ho (by omega) h0 h4 hl
  by_cases k7 : o.kind ≤ 7
  · exact do_hold h hok o ho (by omega) h0 h4 hl
  by_cases k8 : o.kind = 8
  · exact do_fork h hok o ho k8 h0 h4 hl
  by_cases k9 : o.kind = 9
  · exact do_exit h hok o ho k9 h0 h4 hl
  · exact do_look h hok o ho (by omega) h0 h4 hl
end Go.Proofs.Ytglnnplijienbaa
