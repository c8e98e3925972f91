/- Several texts in one: Fmd, Fmg, Fop. -/
import Derived.Test.YtglnnplijienbaaM37
import Derived.Test.YtglnnplijienbaaM24
import Derived.Test.YtglnnplijienbaaM34
/- flat: Do, keys. -/
namespace Go.Proofs.Ytglnnplijienbaa
open Go.ChangeShapes Go.WideShapes Go.ChangeAt Go.RowKit Go.Joins Go.Sort
set_option linter.unusedVariables false
set_option linter.unusedSimpArgs false
set_option maxRecDepth 100000
theorem Pv.keys {w : World} {cs : Array Value} {p : Fp} (h : Pv w cs p) (K : Key4) : Pv w (Go.Sort.setMany cs 2 (kA K).toList) { p with ks := K } := by
  have hs := h.size
  have hl : (kA K).toList.length = 8 := by simp [kA]
  have hb : 2 + (kA K).toList.length ≤ cs.size := by rw [hl, hs]; omega
  have hget : ∀ j, j < 2 ∨ 10 ≤ j → (Go.Sort.setMany cs 2 (kA K).toList)[j]? = cs[j]? := fun j hj => by
    rw [setMany_get? _ _ _ _ hb, if_neg (by rw [hl]; omega)]
  refine ⟨by rw [Go.Sort.size_setMany]; exact hs, all_setMany _ _ _ h.one (fun u hu => ?_), by rw [hget 0 (by omega)]; exact h.live, ?_, fun i v hv => ?_, fun n i hn hi => ?_, fun n i hn hi => ?_⟩
  · have := kA_one K
    rw [Array.all_eq_true_iff_forall_mem] at this
    exact this u (by simpa using hu)
  · obtain ⟨v, h1, h2⟩ := h.rg
    exact ⟨v, by rw [hget 1 (by omega)]; exact h1, h2⟩
  · have hi : i < 8 := by
      have := (Array.getElem?_eq_some_iff.1 hv).1
      simpa [kA] using this
    rw [setMany_get? _ _ _ _ hb, if_pos (by rw [hl]; omega), show 2 + i - 2 = i by omega]
    simpa using hv
  · rw [hget _ (by omega)]; exact h.bt n i hn hi
  · rw [hget _ (by omega)]; exact h.tg n i hn hi
set_option maxHeartbeats 16000000 in
theorem do_hold {w : World} {gw : Nat} {gs : Nat → Nat} {W : Fw} (h : Ws w gw gs W) (hok : OkW W) (o : Fop) (ho : o.fits) (hk : 5 ≤ o.kind ∧ o.kind ≤ 7) (h0 : 0 ≤ o.proc) (h4 : o.proc < 4) (hl : (W o.proc.toNat).live = true) :
    Calls Try.prog 22 #[.pointer (some ⟨gw, 0, none⟩), .agg (opA o)] w (GivesW gw gs (doF W o) w) := by
  have HFA := Lib.hid (fun (e : Int) (W : World) => fails_any e W)
  have HWS := Lib.hid h
  have hgw := h.top.lt
  have HR : Hid (doF W o = (if (holdF (W o.proc.toNat).rg (W o.proc.toNat).ks o).2.err = 0 then (updW W o.proc.toNat { W o.proc.toNat with ks := (holdF (W o.proc.toNat).rg (W o.proc.toNat).ks o).1 }, (holdF (W o.proc.toNat).rg (W o.proc.toNat).ks o).2) else (W, (holdF (W o.proc.toNat).rg (W o.proc.toNat).ks o).2))) := Lib.hid (by
    unfold doF
    rw [if_neg (by omega), if_neg (by omega), if_neg (by rintro (h | h | h); omega; omega; rw [hl] at h; cases h)]
    rw [if_neg (by omega), if_pos (by omega)])
  have hW1 : Below w.heap.size w ((w.alloc (.cells (opA o) 43)).alloc (.cells #[.int .i64 0, .int .i64 0, .int .i64 0, .int .i64 0] 47)) := (below1 _ _).alloc (by simp) _
  have hO1 : Bx ((w.alloc (.cells (opA o) 43)).alloc (.cells #[.int .i64 0, .int .i64 0, .int .i64 0, .int .i64 0] 47)) w.heap.size 43 (opA o) := (Bx.new _ _ _).below (below1 _ _)
  have hA1 : Bx ((w.alloc (.cells (opA o) 43)).alloc (.cells #[.int .i64 0, .int .i64 0, .int .i64 0, .int .i64 0] 47)) (w.heap.size + 1) 47 #[.int .i64 0, .int .i64 0, .int .i64 0, .int .i64 0] := by
    have := Bx.new (w.alloc (.cells (opA o) 43)) 47 #[.int .i64 0, .int .i64 0, .int .i64 0, .int .i64 0]
    rwa [World.size_alloc] at this
  obtain ⟨w1, hw1⟩ : ∃ w1, w1 = ((w.alloc (.cells (opA o) 43)).alloc (.cells #[.int .i64 0, .int .i64 0, .int .i64 0, .int .i64 0] 47)) := ⟨_, rfl⟩
  have HW1 := Lib.hid hw1
  rw [← hw1] at hW1 hO1 hA1
  have K1 := Lib.hid hW1
  have O1 := Lib.hid hO1
  have A1 := Lib.hid hA1
  have c0 : ((w.alloc (.cells (opA o) 43)).alloc (.cells #[.int .i64 0, .int .i64 0, .int .i64 0, .int .i64 0] 47)).cell? ⟨w.heap.size, 0, none⟩ = some (.int .i64 o.kind) := by rw [← hw1, O1.out.cell]; rfl
  clear h hw1 hW1 hO1 hA1
  have OP : Hid ((opA o)[1]? = some (.int .i64 o.proc)) := Lib.hid rfl
  have OK : Hid ((opA o)[0]? = some (.int .i64 o.kind)) := Lib.hid rfl
  have HOZ : Hid ((opA o).size = 12) := Lib.hid rfl
  generalize doF W o = rs at *
  obtain ⟨kd, hkd⟩ : ∃ kd, kd = o.kind := ⟨_, rfl⟩
  obtain ⟨pr, hpr⟩ : ∃ pr, pr = o.proc := ⟨_, rfl⟩
  have hko := hk
  rw [← hkd] at c0 OK hk
  rw [← hpr] at OP h0 h4 hl
  rw [← hpr] at HR
  clear hkd hpr
  obtain ⟨k, rfl⟩ := Int.eq_ofNat_of_zero_le h0
  have hk4 : k < 4 := by omega
  simp only [Int.toNat_natCast] at hl HR
  have hd : decide ((k : Int) < 0) = false := decide_eq_false (by omega)
  have hd4 : decide (4 ≤ (k : Int)) = false := decide_eq_false (by omega)
  have hd5 : decide (4 ≤ k) = false := decide_eq_false (by omega)
  obtain ⟨cs, hxk, hpk⟩ := HWS.out.each k hk4
  obtain ⟨v, hv, hrt⟩ := hpk.rg
  have HX := Lib.hid hxk
  have HP := Lib.hid hpk
  have HV := Lib.hid hv
  have HKS := Lib.hid hpk.ks
  have HHD : Hid (∀ (w' : World), Below w.heap.size w w' → Calls Try.prog 36 #[v, .agg (kA (W k).ks), .agg (opA o)] w' fun e w'' => e = .returned (.tuple #[.agg (kA (holdF (W k).rg (W k).ks o).1), .agg (nA (holdF (W k).rg (W k).ks o).2)]) ∧ Below w'.heap.size w' w'') := Lib.hid (fun w' hb => (hold_any (hrt.rv.below hb) (W k).ks o ho).mono fun e w2 h => h)
  clear hxk hpk hv hrt
  clear hko
  obtain ⟨oA, hoA⟩ : ∃ oA, oA = opA o := ⟨_, rfl⟩
  rw [← hoA] at HW1 O1 c0 OP OK HOZ HHD ⊢
  clear hoA ho h0 h4
  obtain ⟨r, hr⟩ : ∃ r, r = holdF (W k).rg (W k).ks o := ⟨_, rfl⟩
  rw [← hr] at HHD HR
  clear hr hok
  obtain ⟨KK, hKK⟩ : ∃ KK, KK = (W k).ks := ⟨_, rfl⟩
  rw [← hKK] at HHD HKS
  clear hKK
  obtain ⟨nk, na⟩ := r
  simp only at HHD HR
  have NA0 : Hid ((nA na)[0]? = some (.int .i64 na.err)) := Lib.hid rfl
  have HN4 : Hid ((nA na).size = 4) := Lib.hid rfl
  have HK8 : Hid ((kA nk).size = 8) := Lib.hid rfl
  have hkk : kd = 5 ∨ kd = 6 ∨ kd = 7 := by omega
  clear hk
  rcases hkk with rfl | rfl | rfl
  all_goals
    go_enter Try.func22, Try.ntmps22
    go_wp2
    rw [← HW1.out]
    clear c0
    have c1 : w1.cell? ⟨w.heap.size, 1, none⟩ = some (.int .i64 k) := by rw [O1.out.cell]; exact OP.out
    have l1 : w.heap.size < w1.heap.size := O1.out.lt
    have gc : ∀ (d : Nat) (os : Array Obj) (b o : Nat), b < w1.heap.size → (grow (redrawn w1 d) os).cell? ⟨b, o, none⟩ = w1.cell? ⟨b, o, none⟩ := fun d os b o h => (below_regrown _ d os).cell (p := ⟨b, o, none⟩) h
    have WS1 := Lib.hid (HWS.out.below K1.out)
    have cw : w1.cell? ⟨gw, k, none⟩ = some (.pointer (some ⟨gs k, 0, none⟩)) := WS1.out.at_ hk4
    have lw : gw < w1.heap.size := WS1.out.top.lt
    have cl : w1.cell? ⟨gs k, 0, none⟩ = some (.bool true) := by rw [WS1.out.cells hk4, hl]
    have ll : gs k < w1.heap.size := lt_of_cell cl
    refine wp_rel [] (by kernel_rfl) (by kernel_rfl) ?_
    intro V hV
    iterate 12 (refine rq rfl rfl ?_; go_big_quiet_step (fail); refine wpQuiet_nil ?_)
    refine rn ⟨gw, 0, none⟩ (by kernel_rfl) rfl rfl ?_; go_big_quiet_step (fail); refine wpQuiet_nil ?_
    iterate 3 (refine rq rfl rfl ?_; go_big_quiet_step (fail); refine wpQuiet_nil ?_)
    refine rn ⟨gs k, 0, none⟩ (by kernel_rfl) rfl rfl ?_; go_big_quiet_step (fail); refine wpQuiet_nil ?_
    iterate 4 (refine rq rfl rfl ?_; go_big_quiet_step (fail); refine wpQuiet_nil ?_)
    refine rend ?_
    intro w3 hb3 hf
    clear hf hV gc c1 l1 cw lw cl ll
    have A3 := Lib.hid (A1.out.below hb3)
    have O3 := Lib.hid (O1.out.below hb3)
    have K3 := Lib.hid (K1.out.trans (hb3.mono K1.out.size))
    have WS3 := Lib.hid (WS1.out.below hb3)
    clear hb3
    go_wp2
    have c1 : w3.cell? ⟨w.heap.size, 1, none⟩ = some (.int .i64 k) := by rw [O3.out.cell]; exact OP.out
    have l1 : w.heap.size < w3.heap.size := O3.out.lt
    have cw : w3.cell? ⟨gw, k, none⟩ = some (.pointer (some ⟨gs k, 0, none⟩)) := WS3.out.at_ hk4
    have lw : gw < w3.heap.size := WS3.out.top.lt
    have gc : ∀ (d : Nat) (os : Array Obj) (b o : Nat), b < w3.heap.size → (grow (redrawn w3 d) os).cell? ⟨b, o, none⟩ = w3.cell? ⟨b, o, none⟩ := fun d os b o h => (below_regrown _ d os).cell (p := ⟨b, o, none⟩) h
    refine wp_rel [] (by kernel_rfl) (by kernel_rfl) ?_
    intro V hV
    iterate 3 (refine rq rfl rfl ?_; go_big_quiet_step (fail); refine wpQuiet_nil ?_)
    refine rn ⟨gw, 0, none⟩ (by kernel_rfl) rfl rfl ?_; go_big_quiet_step (fail); refine wpQuiet_nil ?_
    iterate 4 (refine rq rfl rfl ?_; go_big_quiet_step (fail); refine wpQuiet_nil ?_)
    refine rend ?_
    intro w5 hb5 hf
    clear hf hV gc c1 l1 cw lw
    have A5 := Lib.hid (A3.out.below hb5)
    have O5 := Lib.hid (O3.out.below hb5)
    have K5 := Lib.hid (K3.out.trans (hb5.mono K3.out.size))
    have WS5 := Lib.hid (WS3.out.below hb5)
    clear hb5
    have c0 := (O5.out.cell 0).trans OK.out
    have l0 : w.heap.size < w5.heap.size := O5.out.lt
    go_wp2
    have X5 := Lib.hid (HX.out.below K5.out)
    have cv : w5.cell? ⟨gs k, 1, none⟩ = some v := by rw [X5.out.cell]; exact HV.out
    have lv : gs k < w5.heap.size := X5.out.lt
    have gc : ∀ (d : Nat) (os : Array Obj) (b o : Nat), b < w5.heap.size → (grow (redrawn w5 d) os).cell? ⟨b, o, none⟩ = w5.cell? ⟨b, o, none⟩ := fun d os b o h => (below_regrown _ d os).cell (p := ⟨b, o, none⟩) h
    have hL1 : ∀ cs', (28, cs') ∈ [((28 : TypeId), kA nk), (47, nA na)] → cs' = kA nk := fun cs' h => by simpa using h
    have hL2 : ∀ cs', (47, cs') ∈ [((28 : TypeId), kA nk), (47, nA na)] → cs' = nA na := fun cs' h => by simpa using h
    refine wp_relM (Fresh w5.heap.size [(28, kA nk), (47, nA na)]) [SpM.call 9 (.tuple #[.agg (kA nk), .agg (nA na)]), SpM.box 13 28 8 (fun cs' h => by rw [hL1 cs' h]; rfl), SpM.box 14 47 4 (fun cs' h => by rw [hL2 cs' h]; rfl), SpM.st 15 13 28 (kA nk) hL1, SpM.st 16 14 47 (nA na) hL2] (by kernel_rfl) (fresh_kind (Nat.le_refl _)) (by kernel_rfl) (by kernel_rfl) ?_
    intro V hV
    have e9 : V 9 = .tuple #[.agg (kA nk), .agg (nA na)] := hV 9
    obtain ⟨kb, e13⟩ : ∃ b, V 13 = .pointer (some ⟨b, 0, none⟩) := hV 13
    obtain ⟨ab, e14⟩ : ∃ b, V 14 = .pointer (some ⟨b, 0, none⟩) := hV 14
    refine mq rfl rfl ?_; go_big_quiet_step (fail); refine wpQuiet_nil ?_
    refine mn ⟨gs k, 0, none⟩ (by kernel_rfl) rfl rfl ?_; go_big_quiet_step (fail); refine wpQuiet_nil ?_
    iterate 3 (refine mq rfl rfl ?_; go_big_quiet_step (fail); refine wpQuiet_nil ?_)
    refine mn ⟨gs k, 0, none⟩ (by kernel_rfl) rfl rfl ?_; go_big_quiet_step (fail); refine wpQuiet_nil ?_
    refine mq rfl rfl ?_; go_big_quiet_step (fail); refine wpQuiet_nil ?_
    refine mf (.agg (kA KK)) (by kernel_rfl) rfl (fun w' hb hf => ex_ld rfl (run_ld Try.underlying28 rfl infoKs (X5.out.below hb) HKS.out rfl)) ?_
    go_big_quiet_step (fail)
    refine wpQuiet_nil ?_
    refine mf (.agg oA) (by kernel_rfl) rfl (fun w' hb hf => ex_ld rfl (run_ld Try.underlying43 rfl infoOp (O5.out.below hb) (Sub.all _) HOZ.out)) ?_
    go_big_quiet_step (fail)
    refine wpQuiet_nil ?_
    refine msp (SpM.call 9 _) (by kernel_rfl) rfl (fun w' hb hf => ?_) ?_
    · refine becomes_knownM (f := 36) (args := #[v, .agg (kA KK), .agg oA]) ?_ (HHD.out w' (K5.out.trans (hb.mono K5.out.size)))
      go_simp
    go_big_quiet_step (fail)
    refine wpQuiet_nil ?_
    simp only [e9]
    iterate 3 (refine mq rfl rfl ?_; go_big_quiet_step (fail); refine wpQuiet_nil ?_)
    refine msp (SpM.box 13 28 8 (fun cs' h => by rw [hL1 cs' h]; rfl)) (by kernel_rfl) rfl (fun w' hb hf => ?_) ?_
    · refine becomesM_value (w' := w'.alloc (.cells #[.bool false, .int .i64 0, .bool false, .int .i64 0, .bool false, .int .i64 0, .bool false, .int .i64 0] 28)) (v := .pointer (some ⟨w'.heap.size, 0, none⟩)) ?_ (.inl (below1 _ _)) ⟨⟨_, rfl⟩, _, _, rfl, hb.size, Bx.new _ _ _, rfl⟩
      go_simp
    go_big_quiet_step (fail)
    refine wpQuiet_nil ?_
    simp only [e13]
    refine msp (SpM.box 14 47 4 (fun cs' h => by rw [hL2 cs' h]; rfl)) (by kernel_rfl) rfl (fun w' hb hf => ?_) ?_
    · refine becomesM_value (w' := w'.alloc (.cells #[.int .i64 0, .int .i64 0, .int .i64 0, .int .i64 0] 47)) (v := .pointer (some ⟨w'.heap.size, 0, none⟩)) ?_ (.inl (below1 _ _)) ⟨⟨_, rfl⟩, _, _, rfl, hb.size, Bx.new _ _ _, rfl⟩
      go_simp
    go_big_quiet_step (fail)
    refine wpQuiet_nil ?_
    simp only [e14]
    refine msp (SpM.st 15 13 28 (kA nk) hL1) (by kernel_rfl) rfl (fun w' hb hf => ?_) ?_
    · obtain ⟨b2, z, hab, hag, BA, hz⟩ : ∃ b z, Value.pointer (some ⟨kb, 0, none⟩) = .pointer (some ⟨b, 0, none⟩) ∧ w5.heap.size ≤ b ∧ Bx w' b 28 z ∧ z.size = 8 := hf _ (List.Mem.tail _ (List.Mem.head _)) (by kernel_rfl)
      cases hab
      exact becomesM_store infoKs kb (kA nk) rfl rfl BA hz rfl (kA_one _) (.inr ⟨kb, _, kA nk, z, List.mem_cons_self, hag, BA, hz, rfl⟩) ⟨rfl, kb, e13, BA.row _⟩
    go_big_quiet_step (fail)
    refine wpQuiet_nil ?_
    refine msp (SpM.st 16 14 47 (nA na) hL2) (by kernel_rfl) rfl (fun w' hb hf => ?_) ?_
    · obtain ⟨b2, z, hab, hag, BA, hz⟩ : ∃ b z, Value.pointer (some ⟨ab, 0, none⟩) = .pointer (some ⟨b, 0, none⟩) ∧ w5.heap.size ≤ b ∧ Bx w' b 47 z ∧ z.size = 4 := hf _ (List.Mem.tail _ (List.Mem.head _)) (by kernel_rfl)
      cases hab
      exact becomesM_store infoN ab (nA na) rfl rfl BA hz rfl (nA_one _) (.inr ⟨ab, _, nA na, z, List.mem_cons_of_mem _ List.mem_cons_self, hag, BA, hz, rfl⟩) ⟨rfl, ab, e14, BA.row _⟩
    go_big_quiet_step (fail)
    refine wpQuiet_nil (mend ?_)
    intro w6 hb6 hf
    obtain ⟨b2, hab, BA⟩ : ∃ b, V 14 = .pointer (some ⟨b, 0, none⟩) ∧ Bx w6 b 47 (nA na) := hf _ (List.Mem.head _)
    rw [e14] at hab
    cases hab
    obtain ⟨b3, hab, BK⟩ : ∃ b, V 13 = .pointer (some ⟨b, 0, none⟩) ∧ Bx w6 b 28 (kA nk) := hf _ (List.Mem.tail _ (List.Mem.head _))
    rw [e13] at hab
    cases hab
    clear hf hV gc c0 l0 e9 e13 e14 cv lv hL1 hL2
    have BA6 := Lib.hid BA
    have BK6 := Lib.hid BK
    have A6 := Lib.hid (A5.out.below hb6)
    have K6 := Lib.hid (K5.out.trans (hb6.mono K5.out.size))
    have WS6 := Lib.hid (WS5.out.below hb6)
    have X6 := Lib.hid (X5.out.below hb6)
    have P6 := Lib.hid ((HP.out.below K5.out).below hb6)
    clear hb6 BA BK
    have ca : w6.cell? ⟨ab, 0, none⟩ = some (.int .i64 na.err) := by rw [BA6.out.cell]; exact NA0.out
    have la : ab < w6.heap.size := BA6.out.lt
    by_cases he : na.err = 0
    · have HR2 := Lib.hid (HR.out.trans (if_pos he))
      rw [he] at ca
      clear HR
      have HR := HR2
      have X7 := Lib.hid (X6.out.many (kA nk).toList 2)
      have PK7 : Hid (PvK (gs k) { W k with ks := nk } w6 (w6.setCells (gs k) 2 (kA nk).toList)) := Lib.hid ⟨_, X7.out, (P6.out.keys nk).rt fun v h => Rt.cells (by decide) _ _ _ _ X6.out h, Keep.cells (S := fun b => b = gs k) (.inl rfl) _ _ _ (Keep.refl _ _)⟩
      obtain ⟨w7, hw7⟩ : ∃ w7, w7 = w6.setCells (gs k) 2 (kA nk).toList := ⟨_, rfl⟩
      have HW7 := Lib.hid hw7
      rw [← hw7] at PK7 X7
      clear hw7
      have WK7 := Lib.hid (WsK.of_p WS6.out hk4 PK7.out)
      have A7 : Hid (Bx w7 (w.heap.size + 1) 47 #[.int .i64 0, .int .i64 0, .int .i64 0, .int .i64 0]) := Lib.hid (by obtain ⟨_, _, _, h⟩ := PK7.out; exact h.bx A6.out (bx_ne A6.out X6.out (by decide)))
      have BA7 : Hid (Bx w7 ab 47 (nA na)) := Lib.hid (by obtain ⟨_, _, _, h⟩ := PK7.out; exact h.bx BA6.out (bx_ne BA6.out X6.out (by decide)))
      have HZX : Hid (2 + 8 ≤ cs.size) := Lib.hid (by rw [P6.out.size]; omega)
      go_wp2_with (first
        | ((with_reducible refine ldB Try.underlying28 rfl infoKs kb 0 (kA nk) ?_ ?_ BK6.out (Sub.all _) HK8.out ?_); rfl; rfl)
        | ((with_reducible refine stM infoKs (gs k) 2 (kA nk) ?_ ?_ X6.out HZX.out HK8.out (kA_one _) ?_); rfl; rfl; rw [← HW7.out])
        | ((with_reducible refine ldB Try.underlying47 rfl infoN ab 0 (nA na) ?_ ?_ BA7.out (Sub.all _) HN4.out ?_); rfl; rfl)
        | ((with_reducible refine stB infoN (w.heap.size + 1) (nA na) ?_ ?_ A7.out rfl rfl (nA_one _) ?_); rfl; rfl))
      try simp only [Exit.inBlock, Exit.then]
      refine bodyPost_ret (v := (na : Fan).v) ?_ rfl ?_
      rotate_left
      · rw [HR.out]; exact ⟨rfl, (WsK.trans K6.out WK7.out).row A7.out (by omega) (by decide) (by decide) (by decide) _⟩
      · rw [results_cell1 rfl]; simp [asAddr, Result.andThen, Act.put, run_ansv (A7.out.row _)]
    · have HR2 := Lib.hid (HR.out.trans (if_neg he))
      clear HR
      have HR := HR2
      have hne : (na.err == 0) = false := by rw [beq_eq_false_iff_ne]; exact he
      go_wp2_with (first
        | ((with_reducible refine ldB Try.underlying47 rfl infoN ab 0 (nA na) ?_ ?_ BA6.out (Sub.all _) HN4.out ?_); rfl; rfl)
        | ((with_reducible refine stB infoN (w.heap.size + 1) (nA na) ?_ ?_ A6.out rfl rfl (nA_one _) ?_); rfl; rfl))
      try simp only [Exit.inBlock, Exit.then]
      refine bodyPost_ret (v := (na : Fan).v) ?_ rfl ?_
      rotate_left
      · rw [HR.out]; exact ⟨rfl, (WsK.of HWS.out K6.out).row A6.out (by omega) (by decide) (by decide) (by decide) _⟩
      · rw [results_cell1 rfl]; simp [asAddr, Result.andThen, Act.put, run_ansv (A6.out.row _)]
end Go.Proofs.Ytglnnplijienbaa

/- flat: New. -/
namespace Go.Proofs.Ytglnnplijienbaa
open Go.ChangeShapes Go.WideShapes Go.ChangeAt Go.RowKit Go.Joins Go.Sort
set_option linter.unusedVariables false
set_option linter.unusedSimpArgs false
set_option maxRecDepth 100000
theorem Pv.live_ {w : World} {cs : Array Value} {p : Fp} (h : Pv w cs p) (b : Bool) : Pv w (cs.setIfInBounds 0 (.bool b)) { p with live := b } := by
  have hs := h.size
  have hne : ∀ j, j ≠ 0 → (cs.setIfInBounds 0 (.bool b))[j]? = cs[j]? := fun j hj => Array.getElem?_setIfInBounds_ne (by omega)
  refine ⟨by rw [Array.size_setIfInBounds]; exact hs, all_set h.one _ rfl, Array.getElem?_setIfInBounds_self_of_lt (by rw [hs]; omega), ?_, fun i u hu => ?_, fun n i hn hi => ?_, fun n i hn hi => ?_⟩
  · obtain ⟨v, h1, h2⟩ := h.rg
    exact ⟨v, by rw [hne 1 (by omega)]; exact h1, h2⟩
  · rw [hne _ (by omega)]; exact h.ks i u hu
  · rw [hne _ (by omega)]; exact h.bt n i hn hi
  · rw [hne _ (by omega)]; exact h.tg n i hn hi
/-- The world of New, ahead of its last statement. -/
def newW (z : Array Value) (w : World) : World := ((((w.alloc (.cells (ptrs fun i => w.heap.size + 1 + i) 71)).alloc (.cells z 78)).alloc (.cells z 78)).alloc (.cells z 78)).alloc (.cells z 78)
theorem new_ws (w : World) : Ws (newW Try.zeroCells78 w) w.heap.size (fun i => w.heap.size + 1 + i) (fun _ => zeroFp) ∧ Below w.heap.size w (newW Try.zeroCells78 w) := by
  have b0 := below1 w (.cells (ptrs fun i => w.heap.size + 1 + i) 71)
  obtain ⟨a1, h1⟩ : ∃ a, a = w.alloc (.cells (ptrs fun i => w.heap.size + 1 + i) 71) := ⟨_, rfl⟩
  have s1 : a1.heap.size = w.heap.size + 1 := by rw [h1]; simp
  have t0 : Bx a1 w.heap.size 71 (ptrs fun i => w.heap.size + 1 + i) := by rw [h1]; exact Bx.new _ _ _
  unfold newW
  rw [← h1] at b0 ⊢
  clear h1
  have b1 := below1 a1 (.cells Try.zeroCells78 78)
  have x1 := Bx.new a1 78 Try.zeroCells78
  obtain ⟨a2, h2⟩ : ∃ a, a = a1.alloc (.cells Try.zeroCells78 78) := ⟨_, rfl⟩
  have s2 : a2.heap.size = w.heap.size + 2 := by rw [h2]; simp [s1]
  rw [← h2] at b1 x1 ⊢
  clear h2
  have b2 := below1 a2 (.cells Try.zeroCells78 78)
  have x2 := Bx.new a2 78 Try.zeroCells78
  obtain ⟨a3, h3⟩ : ∃ a, a = a2.alloc (.cells Try.zeroCells78 78) := ⟨_, rfl⟩
  have s3 : a3.heap.size = w.heap.size + 3 := by rw [h3]; simp [s2]
  rw [← h3] at b2 x2 ⊢
  clear h3
  have b3 := below1 a3 (.cells Try.zeroCells78 78)
  have x3 := Bx.new a3 78 Try.zeroCells78
  obtain ⟨a4, h4⟩ : ∃ a, a = a3.alloc (.cells Try.zeroCells78 78) := ⟨_, rfl⟩
  have s4 : a4.heap.size = w.heap.size + 4 := by rw [h4]; simp [s3]
  rw [← h4] at b3 x3 ⊢
  clear h4
  have b4 := below1 a4 (.cells Try.zeroCells78 78)
  have x4 := Bx.new a4 78 Try.zeroCells78
  generalize a4.alloc (.cells Try.zeroCells78 78) = a5 at *
  rw [s1] at x1 b1
  rw [s2] at x2 b2
  rw [s3] at x3 b3
  rw [s4] at x4 b4
  have b34 := b3.trans (b4.mono (by omega))
  have b24 := b2.trans (b34.mono (by omega))
  have b14 := b1.trans (b24.mono (by omega))
  refine ⟨⟨(b14.block _ (by omega)).trans t0, fun k hk => ⟨Try.zeroCells78, ?_, zP_pv _⟩, fun j k _ _ e => by simpa using e⟩, b0.trans (b14.mono (by omega))⟩
  have : k = 0 ∨ k = 1 ∨ k = 2 ∨ k = 3 := by omega
  rcases this with rfl | rfl | rfl | rfl
  · exact (b24.block _ (by omega)).trans x1
  · exact (b34.block _ (by omega)).trans x2
  · exact (b4.block _ (by omega)).trans x3
  · exact x4
def GivesNew (w : World) (e : Ending) (w' : World) : Prop := ∃ gw gs, e = .returned (.pointer (some ⟨gw, 0, none⟩)) ∧ w.heap.size ≤ gw ∧ (∀ k, k < 4 → w.heap.size ≤ gs k) ∧ Ws w' gw gs newF ∧ Below w.heap.size w w'
set_option maxHeartbeats 8000000 in
theorem new_any (w : World) : Calls Try.prog 21 #[] w (GivesNew w) := by
  go_enter Try.func21, Try.ntmps21
  go_wp2
  refine wp_loop_rounds 5 ?_
  repeat any_goals (rw [rounds_succ]; go_wp2)
  have hWS := new_ws w
  obtain ⟨w5, hw5⟩ : ∃ w5, w5 = newW Try.zeroCells78 w := ⟨_, rfl⟩
  rw [← hw5] at hWS
  have HWS := Lib.hid hWS.1
  have HK := Lib.hid hWS.2
  show Code.wp _ _ _ _ (newW Try.zeroCells78 w)
  rw [← hw5]
  clear hw5 hWS
  have cw : w5.cell? ⟨w.heap.size, 0, none⟩ = some (.pointer (some ⟨w.heap.size + 1, 0, none⟩)) := HWS.out.at_ (k := 0) (by decide)
  have lw : w.heap.size < w5.heap.size := HWS.out.top.lt
  have gc : ∀ (d : Nat) (os : Array Obj) (b o : Nat), b < w5.heap.size → (grow (redrawn w5 d) os).cell? ⟨b, o, none⟩ = w5.cell? ⟨b, o, none⟩ := fun d os b o h => (below_regrown _ d os).cell (p := ⟨b, o, none⟩) h
  refine wp_relt 11 [Sp.call 10 (.agg (kA key1))] (by kernel_rfl) (by kernel_rfl) (by kernel_rfl) ?_
  intro V hV
  have e10 : V 10 = .agg (kA key1) := hV 10
  simp only [List.take_succ_cons, List.take_zero, List.drop_succ_cons, List.drop_zero]
  refine rq rfl rfl ?_; go_big_quiet_step (fail); refine wpQuiet_nil ?_
  refine rn ⟨w.heap.size, 0, none⟩ (by kernel_rfl) rfl rfl ?_; go_big_quiet_step (fail); refine wpQuiet_nil ?_
  iterate 4 (refine rq rfl rfl ?_; go_big_quiet_step (fail); refine wpQuiet_nil ?_)
  refine rn ⟨w.heap.size, 0, none⟩ (by kernel_rfl) rfl rfl ?_; go_big_quiet_step (fail); refine wpQuiet_nil ?_
  iterate 3 (refine rq rfl rfl ?_; go_big_quiet_step (fail); refine wpQuiet_nil ?_)
  refine rsp (Sp.call 10 _) (by kernel_rfl) rfl (fun w' hb hf => ?_) ?_
  · refine becomes_known (f := 30) (args := #[]) ?_ (keysFirst_any w')
    go_simp
  go_big_quiet_step (fail)
  refine wpQuiet_nil ?_
  simp only [e10]
  refine rend ?_
  intro w6 hb6 hf
  clear hf hV gc cw lw e10
  obtain ⟨cs, hx5, hp5⟩ := HWS.out.each 0 (by decide)
  have WS6 := Lib.hid (HWS.out.below hb6)
  have K6 := Lib.hid (HK.out.trans (hb6.mono HK.out.size))
  have X6 : Hid (Bx w6 (w.heap.size + 1) 78 cs) := Lib.hid (hx5.below hb6)
  have P6 := Lib.hid (hp5.below hb6)
  clear hx5 hp5 hb6
  have cl : w6.cell? ⟨w.heap.size + 1, 0, none⟩ = some (.bool false) := by rw [X6.out.cell]; exact P6.out.live
  have fl : w6.frozen? ⟨w.heap.size + 1, 0, none⟩ = false := X6.out.free _
  have ll : w.heap.size + 1 < w6.heap.size := X6.out.lt
  have X7 := Lib.hid (X6.out.set 0 (.bool true))
  have P7 : Hid (Pv (w6.setCell ⟨w.heap.size + 1, 0, none⟩ (.bool true)) (cs.setIfInBounds 0 (.bool true)) ⟨true, [], zero4, fun _ _ => 0, fun _ _ => 0⟩) := Lib.hid ((P6.out.live_ true).rt fun v h => h.cell X6.out (by decide) _ _)
  have HZX : Hid (2 + 8 ≤ (cs.setIfInBounds 0 (.bool true)).size) := Lib.hid (by rw [P7.out.size]; omega)
  have X8 := Lib.hid (X7.out.many (kA key1).toList 2)
  have PK8 : Hid (PvK (w.heap.size + 1) ⟨true, [], key1, fun _ _ => 0, fun _ _ => 0⟩ w6 ((w6.setCell ⟨w.heap.size + 1, 0, none⟩ (.bool true)).setCells (w.heap.size + 1) 2 (kA key1).toList)) := Lib.hid ⟨_, X8.out, (P7.out.keys key1).rt fun v h => Rt.cells (by decide) _ _ _ _ X7.out h, Keep.cells (S := fun b => b = w.heap.size + 1) (.inl rfl) _ _ _ (Keep.cell (S := fun b => b = w.heap.size + 1) (Keep.refl _ _) (.inl rfl) _ _)⟩
  have WS8 := Lib.hid (WS6.out.more (k := 0) (by decide) PK8.out)
  have K8 : Hid (Below w.heap.size w ((w6.setCell ⟨w.heap.size + 1, 0, none⟩ (.bool true)).setCells (w.heap.size + 1) 2 (kA key1).toList)) := Lib.hid (by
    obtain ⟨_, _, _, h⟩ := PK8.out
    exact K6.out.trans (h.below (B := w.heap.size) (by rintro i rfl; omega) K6.out.size))
  have HK8 : Hid ((kA key1).size = 8) := Lib.hid rfl
  obtain ⟨w8, hw8⟩ : ∃ w8, w8 = (w6.setCell ⟨w.heap.size + 1, 0, none⟩ (.bool true)).setCells (w.heap.size + 1) 2 (kA key1).toList := ⟨_, rfl⟩
  have HW8 := Lib.hid hw8
  rw [← hw8] at WS8 K8
  clear hw8 X8 PK8
  go_wp2_with ((with_reducible refine stM infoKs (w.heap.size + 1) 2 (kA key1) ?_ ?_ X7.out HZX.out HK8.out (kA_one _) ?_); rfl; rfl; rw [← HW8.out])
  go_ret
  exact ⟨w.heap.size, fun i => w.heap.size + 1 + i, rfl, Nat.le_refl _, fun k _ => by show w.heap.size ≤ w.heap.size + 1 + k; omega, WS8.out, K8.out⟩
end Go.Proofs.Ytglnnplijienbaa

/- api.Op: arguments opened. -/
namespace Go.Proofs.Ytglnnplijienbaa
open Go.ChangeShapes Go.WideShapes Go.ChangeAt Go.RowKit Go.Joins
set_option linter.unusedVariables false
set_option maxRecDepth 100000
section
variable {H : Type} {enc : TypeId × Value → H} {w : World} {base : Nat} {held : Bool}
set_option maxHeartbeats 2000000 in
theorem fop_cells {fuel : Nat} {cs : List Value} {x : DataW H × List MemPlace} (h : DataW.trod enc Try.prog w base (fun _ => true) held fuel 43 cs = some x) (hl : cs.length = 12) : ∃ a : Fop, cs = fO a ∧ a.fits := by
  match cs, hl with
  | [v0, v1, v2, v3, v4, v5, v6, v7, v8, v9, v10, v11], _ =>
    obtain ⟨ys, n, _, _, _, hyl, hf⟩ := DataW.trod_struct Try.underlying43 h
    match ys, hyl with
    | [y0, y1, y2, y3, y4, y5, y6, y7, y8, y9, y10, y11], _ =>
      have f0 := hf 0 _ rfl
      have f1 := hf 1 _ rfl
      have f2 := hf 2 _ rfl
      have f3 := hf 3 _ rfl
      have f4 := hf 4 _ rfl
      have f5 := hf 5 _ rfl
      have f6 := hf 6 _ rfl
      have f7 := hf 7 _ rfl
      have f8 := hf 8 _ rfl
      have f9 := hf 9 _ rfl
      have f10 := hf 10 _ rfl
      have f11 := hf 11 _ rfl
      simp only [List.getElem?_cons_zero] at f0
      simp only [List.getElem?_cons_succ, List.getElem?_cons_zero] at f1 f2 f3 f4 f5 f6 f7 f8 f9 f10 f11
      obtain ⟨a0, e0, _, w0⟩ := DataW.trod_int Try.underlying3 f0
      obtain ⟨a1, e1, _, w1⟩ := DataW.trod_int Try.underlying3 f1
      obtain ⟨a2, e2, _, w2⟩ := DataW.trod_int Try.underlying3 f2
      obtain ⟨a3, e3, _, w3⟩ := DataW.trod_int Try.underlying3 f3
      obtain ⟨a4, e4, _, w4⟩ := DataW.trod_int Try.underlying3 f4
      obtain ⟨a5, e5, _, w5⟩ := DataW.trod_int Try.underlying3 f5
      obtain ⟨a6, e6, _⟩ := DataW.trod_bool Try.underlying4 f6
      obtain ⟨a7, e7, _, w7⟩ := DataW.trod_int Try.underlying3 f7
      obtain ⟨a8, e8, _, w8⟩ := DataW.trod_int Try.underlying3 f8
      obtain ⟨a9, e9, _, w9⟩ := DataW.trod_int Try.underlying3 f9
      obtain ⟨a10, e10, _, w10⟩ := DataW.trod_int Try.underlying3 f10
      obtain ⟨a11, e11, _, w11⟩ := DataW.trod_int Try.underlying3 f11
      cases e0; cases e1; cases e2; cases e3; cases e4; cases e5; cases e6; cases e7; cases e8; cases e9; cases e10; cases e11
      exact ⟨⟨a0, a1, a2, a3, a4, a5, a6, a7, a8, a9, a10, a11⟩, rfl, i64_of_wf w0, i64_of_wf w1, i64_of_wf w2, i64_of_wf w3, i64_of_wf w4, i64_of_wf w5, i64_of_wf w7, i64_of_wf w8, i64_of_wf w9, i64_of_wf w10, i64_of_wf w11⟩
theorem fop_of {A : Option Addr} {n c : Nat} {d : DataW H} {p : List MemPlace} (h : DataW.Trod enc Try.prog w base (fun _ => true) held 22 (.slice A n c) d p) : ∃ xs, Rw fO 12 w w.heap.size A n xs ∧ (∀ x ∈ xs, x.fits) ∧ n ≤ c ∧ c ≤ maxLen :=
  row_of_structs fO Fop.fits Try.underlying22 (by kernel_rfl) (by decide) (fun _ _ _ h hl => fop_cells h hl) fO_len h
theorem fop_val {r : Reach} {b0 : Nat} {v : Value} {d : DataW H} {p : List MemPlace} (hv : Value.okWide Try.prog w r b0 43 v) (h : DataW.Trod enc Try.prog w base (fun _ => true) held 43 v d p) : ∃ x : Fop, v = .agg (opA x) ∧ x.fits := by
  obtain ⟨cs, rfl, hsz⟩ := okWide_struct Try.underlying43 hv
  obtain ⟨fuel, hf⟩ := h
  obtain ⟨x, e, hx⟩ := fop_cells hf (by simpa [Value.cells] using hsz.trans (by kernel_rfl : Try.prog.cellsOf 43 = 12))
  refine ⟨x, ?_, hx⟩
  have : cs = opA x := by
    apply Array.ext'
    simpa [Value.cells, opA, fO] using e
  rw [this]
end
end Go.Proofs.Ytglnnplijienbaa
