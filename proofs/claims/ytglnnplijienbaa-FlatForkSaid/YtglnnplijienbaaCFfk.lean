/- FlatFork: its walk. -/
import Derived.Test.YtglnnplijienbaaCFap
namespace Go.Proofs.Ytglnnplijienbaa
open Go.ChangeShapes Go.WideShapes Go.ChangeAt Go.RowKit Go.Joins Go.Sort
set_option linter.unusedVariables false
set_option linter.unusedSimpArgs false
set_option maxRecDepth 100000
theorem run_bdF (pr : Int) (w : World) : (Instr.build 43 #[(0, .int .i64 8), (1, .int .i64 pr)]).run Try.prog w = .ok (.agg (opA ⟨8, pr, 0, 0, 0, 0, false, 0, 0, 0, 0, 0⟩)) w := by kernel_rfl
theorem append_O {ops : Array Oper} {rest : List Oper} {o : Oper} {a : Act} {Q : Exit → Act → World → Prop} (hgd : o.guard = none) (s x : Operand) (ho : o.op = .call { callee := .builtin .append, args := #[s, x], argTypes := #[22, 22] })
    (base : Nat) (v : Value) (t : List Fop) (W : World) (c : Fop) (gx : Nat) (hs : a.eval s = v) (hx : a.eval x = .slice (some ⟨gx, 0, none⟩) 1 1) (hgx : gx = W.heap.size) (hos : Os fO 12 43 W base v t) (hb : base ≤ W.heap.size) (hlen : t.length + 1 ≤ 1466015503701)
    (hK : ∀ g' c' w', Os fO 12 43 w' base (.slice (some ⟨g', 0, none⟩) (t.length + 1) c') (t ++ [c]) → Below base W w' → KeepT (fun T' => T' ≠ 43) W w' → wpList Try.prog ops Q rest (a.put o.dst (.slice (some ⟨g', 0, none⟩) (t.length + 1) c')) w') :
    wpList Try.prog ops Q (o :: rest) a (W.alloc (.cells #[.int .i64 c.kind, .int .i64 c.proc, .int .i64 c.page, .int .i64 c.count, .int .i64 c.rights, .int .i64 c.key, .bool c.tagged, .int .i64 c.draw, .int .i64 c.addr, .int .i64 c.size, .int .i64 c.value, .int .i64 c.tag] 43)) :=
  append_oneK Try.underlying22 info_O rfl (by decide) fO_len hgd s x ho base v t W c (fO_one1 c) gx hs hx hgx hos hb (by unfold maxLen; omega) (by omega) hK
section
variable {P : Program} {dst : Option Tmp} {x y : Operand} {T type : TypeId} {pos : String} {after : Array Edge} {guard : Option (Nat × Bool)} {a : Act} {w : World} {u u' v : Value}
theorem ex_bd2F {i j : Nat} (hx : a.eval x = u) (hy : a.eval y = u') (h : (Instr.build T #[(i, u), (j, u')]).run P w = .ok v w) : (execOp a.eval ⟨dst, .build T #[(i, x), (j, y)], type, pos, after, guard⟩).run P w = .ok (.value v) w := by
  unfold execOp
  simp only [List.map_toArray, List.map_cons, List.map_nil, hx, hy, Sem.run_bind, h, Result.andThen_ok, Sem.run_pure]
end
set_option maxHeartbeats 16000000 in
theorem flatFork_no {w : World} (A : Option Addr) (n c : Nat) (xs : List Fop) (hz : Rw fO 12 w w.heap.size A n xs) (hwf : ∀ x ∈ xs, x.fits) (hcap : n ≤ c) (_ : c ≤ maxLen) (hbig : c ≤ 1466015503658) (pr : Int) (fp : I64 pr) (hee : (doF (runF xs).1 ⟨8, pr, 0, 0, 0, 0, false, 0, 0, 0, 0, 0⟩).2.err ≠ 0) :
    Calls Try.prog 6 #[.slice A n c, .int .i64 pr] w fun e w' => e = .returned (.bool true) ∧ Below w.heap.size w w' := by
  have hln := hz.1
  obtain ⟨o, ho⟩ : ∃ o : Fop, o = ⟨8, pr, 0, 0, 0, 0, false, 0, 0, 0, 0, 0⟩ := ⟨_, rfl⟩
  have fo : o.fits := by rw [ho]; unfold Fop.fits; simp only; exact ⟨by unfold I64; omega, fp, by unfold I64; omega, by unfold I64; omega, by unfold I64; omega, by unfold I64; omega, by unfold I64; omega, by unfold I64; omega, by unfold I64; omega, by unfold I64; omega, by unfold I64; omega⟩
  have HBD : Hid (∀ W, (Instr.build 43 #[(0, .int .i64 8), (1, .int .i64 pr)]).run Try.prog W = .ok (.agg (opA o)) W) := Lib.hid (fun W => by rw [ho]; exact run_bdF pr W)
  have HOE := Lib.hid ho
  obtain ⟨an, han⟩ : ∃ an, an = (doF (runF xs).1 o).2 := ⟨_, rfl⟩
  have HAN := Lib.hid han
  rw [← ho, ← han] at hee
  have hne : (an.err != 0) = true := by rw [bne_iff_ne]; exact hee
  clear ho han hee
  have HRUN : Hid (∀ w', Below w.heap.size w w' → Calls Try.prog 9 #[.slice A n c] w' (GivesRun w' xs)) := Lib.hid (fun w' hb => run_any A n c xs w' _ (hz.on hb (Nat.le_refl _)) (Nat.le_refl _) (by omega) hwf)
  have HCLO : Hid (∀ w', Below w.heap.size w w' → Calls Try.prog 12 #[.slice A n c] w' fun e w'' => ∃ v, e = .returned v ∧ Os fO 12 43 w'' w'.heap.size v xs ∧ Below w'.heap.size w' w'') := Lib.hid (fun w' hb => clone_O A n c xs w' _ (hz.on hb (Nat.le_refl _)) (Nat.le_refl _) (by omega))
  have HRU2 : Hid (∀ w' (b : Nat) v, Os fO 12 43 w' b v (xs ++ [o]) → Calls Try.prog 9 #[v] w' (GivesRun w' (xs ++ [o]))) := Lib.hid (fun w' b v h => by
    obtain ⟨A', c', rfl, h1, h2, h3⟩ := h.row fO_len
    exact run_any A' _ c' _ w' _ h3 (Nat.le_refl _) (by simp; omega) (by
      intro x hx
      rcases List.mem_append.1 hx with hx | hx
      · exact hwf x hx
      · simp at hx; subst hx; exact fo))
  have HOK := Lib.hid (ok_run xs)
  have HSN := Lib.hid (runF_snoc xs o)
  have HL1 : Hid ((runF xs).2.length = n) := Lib.hid (by rw [runF_len, hln])
  have HL2 : Hid ((runF (xs ++ [o])).2.length = n + 1) := Lib.hid (by rw [runF_len]; simp [hln])
  have HOZ : Hid ((opA o).size = 12) := Lib.hid rfl
  have HO1 := Lib.hid (opA_one o)
  have HOF : Hid (opA o = ([o].flatMap fO).toArray) := Lib.hid rfl
  have HXL := Lib.hid hln
  have HAL := Lib.hid (alive14_any w)
  have HBS := Lib.hid (fun W => run_bsO o W)
  clear hz hwf hln fo
  obtain ⟨oA, hoA⟩ : ∃ oA, oA = opA o := ⟨_, rfl⟩
  rw [← hoA] at HOZ HO1 HOF HBS HBD
  clear hoA
  go_enter Try.func6, Try.ntmps6
  go_wp2_with (first
    | (go_at_call 8; refine HAL.out.mono ?_; rintro e w1 ⟨rfl, hb1⟩; have HB1 := Lib.hid hb1; clear hb1)
    | (go_at_call 9
       refine (HRUN.out w1 HB1.out).mono ?_
       rintro e w2 ⟨va, cs, rfl, ha, hs, hb2⟩
       have HS := Lib.hid hs.size
       have HO := Lib.hid hs.one
       have HSE := Lib.hid hs
       have HB2 := Lib.hid (HB1.out.trans (hb2.mono HB1.out.size))
       obtain ⟨Aa, na, rfl⟩ : ∃ Aa na, va = .slice Aa (runF xs).2.length na := by obtain ⟨A', c', e, _⟩ := ha.form; exact ⟨A', c', e⟩
       clear ha hs hb2)
    | ((with_reducible refine stN infoS4 cs ?_ ?_ rfl HS.out HO.out ?_); rfl; rfl))
  try simp only [Act.put]
  have HB3 : Hid (Below w.heap.size w (w2.alloc (.cells cs 32))) := Lib.hid (HB2.out.trans ((below1 _ _).mono HB2.out.size))
  have HSE3 : Hid (Seem (w2.alloc (.cells cs 32)) w1.heap.size cs (runF xs).1) := Lib.hid (HSE.out.below (below1 _ _))
  have CX3 : Hid (Bx (w2.alloc (.cells cs 32)) w2.heap.size 32 cs) := Lib.hid (Bx.new _ _ _)
  obtain ⟨w3, hw3⟩ : ∃ w3, w3 = w2.alloc (.cells cs 32) := ⟨_, rfl⟩
  rw [← hw3] at HB3 HSE3 CX3 ⊢
  clear hw3 HB2 HSE HB1 HAL HRUN
  obtain ⟨q1, hq1⟩ : ∃ q1, q1 = w2.heap.size := ⟨_, rfl⟩
  rw [← hq1] at CX3 ⊢
  clear hq1
  go_wp2_with (first
    | (go_at_call 12
       refine (HCLO.out w3 HB3.out).mono ?_
       rintro e w4 ⟨v4, rfl, ho4, hb4⟩
       obtain ⟨A4, n4, c4, rfl⟩ := ho4.slice
       have HO4 := Lib.hid (ho4.rebase (B := w.heap.size) HB3.out.size)
       have HB4 := Lib.hid (HB3.out.trans (hb4.mono HB3.out.size))
       have CX4 := Lib.hid (CX3.out.below hb4)
       have SE4 := Lib.hid (HSE3.out.below hb4)
       have hs4 := HB4.out.size
       have h34 := hb4.size
       clear ho4 hb4)
    | (at_builtin; refine append_O rfl _ _ rfl w.heap.size (.slice A4 n4 c4) xs w4 ⟨8, pr, 0, 0, 0, 0, false, 0, 0, 0, 0, 0⟩ w4.heap.size rfl rfl rfl HO4.out hs4 (by rw [HXL.out]; omega) ?_
       intro g5' c5' w5 ho5 hb5 hk5
       have HO5' := Lib.hid ho5
       have HB5 := Lib.hid (HB4.out.trans hb5)
       have CX5 := Lib.hid (hk5 _ _ _ (by decide) CX4.out)
       have SE5 := Lib.hid (SE4.out.keepT (seen_op hk5))
       clear ho5 hb5 hk5)
    | (go_at_call 9
       refine (HRU2.out w5 _ _ (by rw [HOE.out]; exact HO5'.out)).mono ?_
       rintro e w6 ⟨va5, cs5, rfl, f5, f6, hb6⟩
       obtain ⟨g5, c5, rfl, hg5, hc5⟩ := ans_cells f5 (by rw [HL2.out]; omega)
       have HS5 := Lib.hid f6.size
       have HO5 := Lib.hid f6.one
       have F5 := Lib.hid f5
       have HSE6 := Lib.hid f6
       have HB6 := Lib.hid (HB5.out.trans (hb6.mono HB5.out.size))
       have CX6 := Lib.hid (CX5.out.below hb6)
       have SE6 := Lib.hid (SE5.out.below hb6)
       have hat : (runF (xs ++ [o])).2[n]? = some an := by
         rw [HSN.out]
         show ((runF xs).2 ++ [_])[n]? = _
         rw [List.getElem?_append_right (by rw [HL1.out]; exact Nat.le_refl _), HL1.out, Nat.sub_self, HAN.out]; rfl
       have c7 : (w6.alloc (.cells cs5 32)).cell? ⟨g5, n * 4, none⟩ = some (.int .i64 an.err) := Lib.cell?_alloc_some _ (hc5 n an hat 0 _ rfl)
       have c8 : (w6.alloc (.cells cs5 32)).cell? ⟨g5, n * 4 + 1, none⟩ = some (.int .i64 an.value) := Lib.cell?_alloc_some _ (hc5 n an hat 1 _ rfl)
       rw [HL2.out]
       clear f5 f6 hb6 hc5 hat)
    | ((with_reducible refine stN infoS4 cs5 ?_ ?_ rfl HS5.out HO5.out ?_); rfl; rfl))
  go_ret
  exact ⟨ret_b rfl, HB6.out.trans ((below1 _ _).mono HB6.out.size)⟩
set_option maxHeartbeats 16000000 in
theorem flatFork_ok {w : World} (A : Option Addr) (n c : Nat) (xs : List Fop) (hz : Rw fO 12 w w.heap.size A n xs) (hwf : ∀ x ∈ xs, x.fits) (hcap : n ≤ c) (_ : c ≤ maxLen) (hbig : c ≤ 1466015503658) (pr : Int) (fp : I64 pr) (hee : (doF (runF xs).1 ⟨8, pr, 0, 0, 0, 0, false, 0, 0, 0, 0, 0⟩).2.err = 0) :
    Calls Try.prog 6 #[.slice A n c, .int .i64 pr] w fun e w' => e = .returned (.bool true) ∧ Below w.heap.size w w' := by
  have hln := hz.1
  obtain ⟨o, ho⟩ : ∃ o : Fop, o = ⟨8, pr, 0, 0, 0, 0, false, 0, 0, 0, 0, 0⟩ := ⟨_, rfl⟩
  have fo : o.fits := by rw [ho]; unfold Fop.fits; simp only; exact ⟨by unfold I64; omega, fp, by unfold I64; omega, by unfold I64; omega, by unfold I64; omega, by unfold I64; omega, by unfold I64; omega, by unfold I64; omega, by unfold I64; omega, by unfold I64; omega, by unfold I64; omega⟩
  have HBD : Hid (∀ W, (Instr.build 43 #[(0, .int .i64 8), (1, .int .i64 pr)]).run Try.prog W = .ok (.agg (opA o)) W) := Lib.hid (fun W => by rw [ho]; exact run_bdF pr W)
  have HOE := Lib.hid ho
  obtain ⟨an, han⟩ : ∃ an, an = (doF (runF xs).1 o).2 := ⟨_, rfl⟩
  have HAN := Lib.hid han
  rw [← ho, ← han] at hee
  have HAE : Hid (an.err = 0) := Lib.hid hee
  obtain ⟨p0, p4, hc4, hd, hdead, hw⟩ := do_forked (W := (runF xs).1) (o := o) (by rw [HOE.out]) (by rw [← han]; exact hee)
  have hpr : o.proc = pr := by rw [HOE.out]
  rw [hpr] at p0 p4 hw
  obtain ⟨k, rfl⟩ := Int.eq_ofNat_of_zero_le p0
  have hk4 : k < 4 := by omega
  obtain ⟨ch, hch⟩ : ∃ ch, ch = childF (runF xs).1 := ⟨_, rfl⟩
  rw [← hch] at hc4 hd hdead hw
  simp only [Int.toNat_natCast] at hw
  have HSW : Hid ((runF (xs ++ [o])).1 = updW (runF xs).1 ch ((runF xs).1 k)) := Lib.hid (by rw [runF_snoc]; exact hw)
  have HCH : Hid (an.value = (ch : Int)) := Lib.hid (by rw [han, hd])
  have HDE := Lib.hid hdead
  clear hch hd hdead hw hpr p0
  clear ho han hee
  have HRUN : Hid (∀ w', Below w.heap.size w w' → Calls Try.prog 9 #[.slice A n c] w' (GivesRun w' xs)) := Lib.hid (fun w' hb => run_any A n c xs w' _ (hz.on hb (Nat.le_refl _)) (Nat.le_refl _) (by omega) hwf)
  have HCLO : Hid (∀ w', Below w.heap.size w w' → Calls Try.prog 12 #[.slice A n c] w' fun e w'' => ∃ v, e = .returned v ∧ Os fO 12 43 w'' w'.heap.size v xs ∧ Below w'.heap.size w' w'') := Lib.hid (fun w' hb => clone_O A n c xs w' _ (hz.on hb (Nat.le_refl _)) (Nat.le_refl _) (by omega))
  have HRU2 : Hid (∀ w' (b : Nat) v, Os fO 12 43 w' b v (xs ++ [o]) → Calls Try.prog 9 #[v] w' (GivesRun w' (xs ++ [o]))) := Lib.hid (fun w' b v h => by
    obtain ⟨A', c', rfl, h1, h2, h3⟩ := h.row fO_len
    exact run_any A' _ c' _ w' _ h3 (Nat.le_refl _) (by simp; omega) (by
      intro x hx
      rcases List.mem_append.1 hx with hx | hx
      · exact hwf x hx
      · simp at hx; subst hx; exact fo))
  have HOK := Lib.hid (ok_run xs)
  have HSN := Lib.hid (runF_snoc xs o)
  have HL1 : Hid ((runF xs).2.length = n) := Lib.hid (by rw [runF_len, hln])
  have HL2 : Hid ((runF (xs ++ [o])).2.length = n + 1) := Lib.hid (by rw [runF_len]; simp [hln])
  have HOZ : Hid ((opA o).size = 12) := Lib.hid rfl
  have HO1 := Lib.hid (opA_one o)
  have HOF : Hid (opA o = ([o].flatMap fO).toArray) := Lib.hid rfl
  have HXL := Lib.hid hln
  have HAL := Lib.hid (alive14_any w)
  have HBS := Lib.hid (fun W => run_bsO o W)
  clear hz hwf hln fo
  obtain ⟨oA, hoA⟩ : ∃ oA, oA = opA o := ⟨_, rfl⟩
  rw [← hoA] at HOZ HO1 HOF HBS HBD
  clear hoA
  go_enter Try.func6, Try.ntmps6
  go_wp2_with (first
    | (go_at_call 8; refine HAL.out.mono ?_; rintro e w1 ⟨rfl, hb1⟩; have HB1 := Lib.hid hb1; clear hb1)
    | (go_at_call 9
       refine (HRUN.out w1 HB1.out).mono ?_
       rintro e w2 ⟨va, cs, rfl, ha, hs, hb2⟩
       have HS := Lib.hid hs.size
       have HO := Lib.hid hs.one
       have HSE := Lib.hid hs
       have HB2 := Lib.hid (HB1.out.trans (hb2.mono HB1.out.size))
       obtain ⟨Aa, na, rfl⟩ : ∃ Aa na, va = .slice Aa (runF xs).2.length na := by obtain ⟨A', c', e, _⟩ := ha.form; exact ⟨A', c', e⟩
       clear ha hs hb2)
    | ((with_reducible refine stN infoS4 cs ?_ ?_ rfl HS.out HO.out ?_); rfl; rfl))
  try simp only [Act.put]
  have HB3 : Hid (Below w.heap.size w (w2.alloc (.cells cs 32))) := Lib.hid (HB2.out.trans ((below1 _ _).mono HB2.out.size))
  have HSE3 : Hid (Seem (w2.alloc (.cells cs 32)) w1.heap.size cs (runF xs).1) := Lib.hid (HSE.out.below (below1 _ _))
  have CX3 : Hid (Bx (w2.alloc (.cells cs 32)) w2.heap.size 32 cs) := Lib.hid (Bx.new _ _ _)
  obtain ⟨w3, hw3⟩ : ∃ w3, w3 = w2.alloc (.cells cs 32) := ⟨_, rfl⟩
  rw [← hw3] at HB3 HSE3 CX3 ⊢
  clear hw3 HB2 HSE HB1 HAL HRUN
  obtain ⟨q1, hq1⟩ : ∃ q1, q1 = w2.heap.size := ⟨_, rfl⟩
  rw [← hq1] at CX3 ⊢
  clear hq1
  go_wp2_with (first
    | (go_at_call 12
       refine (HCLO.out w3 HB3.out).mono ?_
       rintro e w4 ⟨v4, rfl, ho4, hb4⟩
       obtain ⟨A4, n4, c4, rfl⟩ := ho4.slice
       have HO4 := Lib.hid (ho4.rebase (B := w.heap.size) HB3.out.size)
       have HB4 := Lib.hid (HB3.out.trans (hb4.mono HB3.out.size))
       have CX4 := Lib.hid (CX3.out.below hb4)
       have SE4 := Lib.hid (HSE3.out.below hb4)
       have hs4 := HB4.out.size
       have h34 := hb4.size
       clear ho4 hb4)
    | (at_builtin; refine append_O rfl _ _ rfl w.heap.size (.slice A4 n4 c4) xs w4 ⟨8, (k : Int), 0, 0, 0, 0, false, 0, 0, 0, 0, 0⟩ w4.heap.size rfl rfl rfl HO4.out hs4 (by rw [HXL.out]; omega) ?_
       intro g5' c5' w5 ho5 hb5 hk5
       have HO5' := Lib.hid ho5
       have HB5 := Lib.hid (HB4.out.trans hb5)
       have CX5 := Lib.hid (hk5 _ _ _ (by decide) CX4.out)
       have SE5 := Lib.hid (SE4.out.keepT (seen_op hk5))
       clear ho5 hb5 hk5)
    | (go_at_call 9
       refine (HRU2.out w5 _ _ (by rw [HOE.out]; exact HO5'.out)).mono ?_
       rintro e w6 ⟨va5, cs5, rfl, f5, f6, hb6⟩
       obtain ⟨g5, c5, rfl, hg5, hc5⟩ := ans_cells f5 (by rw [HL2.out]; omega)
       have HS5 := Lib.hid f6.size
       have HO5 := Lib.hid f6.one
       have F5 := Lib.hid f5
       have HSE6 := Lib.hid f6
       have HB6 := Lib.hid (HB5.out.trans (hb6.mono HB5.out.size))
       have CX6 := Lib.hid (CX5.out.below hb6)
       have SE6 := Lib.hid (SE5.out.below hb6)
       have hat : (runF (xs ++ [o])).2[n]? = some an := by
         rw [HSN.out]
         show ((runF xs).2 ++ [_])[n]? = _
         rw [List.getElem?_append_right (by rw [HL1.out]; exact Nat.le_refl _), HL1.out, Nat.sub_self, HAN.out]; rfl
       have c7 : (w6.alloc (.cells cs5 32)).cell? ⟨g5, n * 4, none⟩ = some (.int .i64 an.err) := Lib.cell?_alloc_some _ (hc5 n an hat 0 _ rfl)
       have c8 : (w6.alloc (.cells cs5 32)).cell? ⟨g5, n * 4 + 1, none⟩ = some (.int .i64 an.value) := Lib.cell?_alloc_some _ (hc5 n an hat 1 _ rfl)
       rw [HAE.out] at c7
       rw [HCH.out] at c8
       rw [HL2.out]
       clear f5 f6 hb6 hc5 hat)
    | ((with_reducible refine stN infoS4 cs5 ?_ ?_ rfl HS5.out HO5.out ?_); rfl; rfl))
  try simp only [Act.put]
  have SE7 := Lib.hid (SE6.out.below (below1 w6 (.cells cs5 32)))
  have HSE7 := Lib.hid (HSE6.out.below (below1 w6 (.cells cs5 32)))
  have CX7 := Lib.hid (CX6.out.below (below1 w6 (.cells cs5 32)))
  have HX7 : Hid (Bx (w6.alloc (.cells cs5 32)) w6.heap.size 32 cs5) := Lib.hid (Bx.new _ _ _)
  have HB7 := Lib.hid (HB6.out.trans ((below1 w6 (.cells cs5 32)).mono HB6.out.size))
  obtain ⟨w7, hw7⟩ : ∃ w7, w7 = w6.alloc (.cells cs5 32) := ⟨_, rfl⟩
  rw [← hw7] at SE7 HSE7 CX7 HX7 HB7 c7 c8 ⊢
  clear hw7
  obtain ⟨b9, hb9⟩ : ∃ b9, b9 = w6.heap.size := ⟨_, rfl⟩
  rw [← hb9] at HX7 ⊢
  clear hb9
  have hSO : Hid (∀ w', Below w7.heap.size w7 w' → Calls Try.prog 15 #[.agg cs, .agg cs5, .int .i64 (ch : Int)] w' fun e w'' => e = .returned (.bool true) ∧ Below w'.heap.size w' w'') :=
    Lib.hid (fun w' hb => others_any (SE7.out.below hb) (HSE7.out.below hb) (ch : Int) (by unfold I64; omega) (fun j _ hj => by rw [HSW.out, updW_ne _ _ (by omega)]) (fun j _ => (HOK.out.p j).r))
  have h1 := HSE7.out.one_ hc4
  have h2 := SE7.out.one_ hk4
  rw [HSW.out, updW_at] at h1
  have HSP : Hid (∀ w', Below w7.heap.size w7 w' → Calls Try.prog 16 #[.agg (cs5.extract (ch * 11) (ch * 11 + 11)), .agg (cs.extract (k * 11) (k * 11 + 11))] w' fun e w'' => e = .returned (.bool true) ∧ Below w'.heap.size w' w'') := Lib.hid (fun w' hb =>
    sameProc_any (h1.2.2.keepT (KeepT.of hb)) (h2.2.2.keepT (KeepT.of hb)) h1.1 h2.1 (HOK.out.p k).r)
  have sub : ∀ (cs : Array Value) (m : Nat), Sub cs (m * 11) (cs.extract (m * 11) (m * 11 + 11)) := fun cs m i v hv => by
    rw [Array.getElem?_extract] at hv
    split at hv
    · exact hv
    · cases hv
  have HS1 := Lib.hid (sub cs5 ch)
  have HS2 := Lib.hid (sub cs k)
  have HZ1 := Lib.hid h1.1
  have HZ2 := Lib.hid h2.1
  have cd : w7.cell? ⟨q1, ch * 11, none⟩ = some (.bool false) := by rw [CX7.out.cell, (SE7.out.each ch hc4).live, HDE.out]
  have lq : q1 < w7.heap.size := lt_of_cell cd
  clear h1 h2 sub
  generalize cs5.extract (ch * 11) (ch * 11 + 11) = ra at *
  generalize cs.extract (k * 11) (k * 11 + 11) = rb at *
  have gc : ∀ (d : Nat) (os : Array Obj) (b o : Nat), b < w7.heap.size → (grow (redrawn w7 d) os).cell? ⟨b, o, none⟩ = w7.cell? ⟨b, o, none⟩ := fun d os b o h => (below_regrown _ d os).cell (p := ⟨b, o, none⟩) h
  have g2 : decide ((ch : Int) < 4) = true := decide_eq_true (by omega)
  have g3 : decide ((k : Int) < 4) = true := decide_eq_true (by omega)
  have g4 : decide ((0 : Int) ≤ (ch : Int)) = true := decide_eq_true (by omega)
  have g5_ : decide ((0 : Int) ≤ (k : Int)) = true := decide_eq_true (by omega)
  have g6 : decide (ch < 4) = true := decide_eq_true hc4
  have g7 : decide (k < 4) = true := decide_eq_true hk4
  refine wp_rel [Sp.call 28 (.bool true), Sp.call 34 (.bool true)] (by kernel_rfl) (by kernel_rfl) ?_
  intro V hV
  have e28 : V 28 = .bool true := hV 28
  have e34 : V 34 = .bool true := hV 34
  iterate 24 (refine rq rfl rfl ?_; go_big_quiet_step (fail); refine wpQuiet_nil ?_)
  refine rf (.agg ra) (by kernel_rfl) rfl (fun w' hb hf => ex_ld rfl (run_ld Try.underlying31 rfl infoS1 (HX7.out.below hb) HS1.out HZ1.out)) ?_
  go_big_quiet_step (fail)
  refine wpQuiet_nil ?_
  iterate 2 (refine rq rfl rfl ?_; go_big_quiet_step (fail); refine wpQuiet_nil ?_)
  refine rf (.agg rb) (by kernel_rfl) rfl (fun w' hb hf => ex_ld rfl (run_ld Try.underlying31 rfl infoS1 (CX7.out.below hb) HS2.out HZ2.out)) ?_
  go_big_quiet_step (fail)
  refine wpQuiet_nil ?_
  refine rsp (Sp.call 28 (.bool true)) (by kernel_rfl) rfl (fun w' hb hf => ?_) ?_
  · refine becomes_known (f := 16) (args := #[.agg ra, .agg rb]) ?_ (HSP.out w' hb)
    go_simp
  go_big_quiet_step (fail)
  refine wpQuiet_nil ?_
  simp only [e28]
  iterate 2 (refine rq rfl rfl ?_; go_big_quiet_step (fail); refine wpQuiet_nil ?_)
  refine rf (.agg cs) (by kernel_rfl) rfl (fun w' hb hf => ex_ld rfl (run_ld Try.underlying32 rfl infoS4 (CX7.out.below hb) (Sub.all _) HS.out)) ?_
  go_big_quiet_step (fail)
  refine wpQuiet_nil ?_
  refine rf (.agg cs5) (by kernel_rfl) rfl (fun w' hb hf => ex_ld rfl (run_ld Try.underlying32 rfl infoS4 (HX7.out.below hb) (Sub.all _) HS5.out)) ?_
  go_big_quiet_step (fail)
  refine wpQuiet_nil ?_
  refine rq rfl rfl ?_; go_big_quiet_step (fail); refine wpQuiet_nil ?_
  refine rsp (Sp.call 34 (.bool true)) (by kernel_rfl) rfl (fun w' hb hf => ?_) ?_
  · refine becomes_known (f := 15) (args := #[.agg cs, .agg cs5, .int .i64 (ch : Int)]) ?_ (hSO.out w' hb)
    go_simp
  go_big_quiet_step (fail)
  refine wpQuiet_nil ?_
  simp only [e34]
  iterate 2 (refine rq rfl rfl ?_; go_big_quiet_step (fail); refine wpQuiet_nil ?_)
  refine rend ?_
  intro w8 hb8 hf
  clear hf hV
  go_wp2
  go_ret
  exact ⟨ret_b rfl, HB7.out.trans (hb8.mono HB7.out.size)⟩
theorem flatFork_walk {w : World} (A : Option Addr) (n c : Nat) (xs : List Fop) (hz : Rw fO 12 w w.heap.size A n xs) (hwf : ∀ x ∈ xs, x.fits) (hcap : n ≤ c) (hc : c ≤ maxLen) (hbig : c ≤ 1466015503658) (pr : Int) (fp : I64 pr) :
    Calls Try.prog 6 #[.slice A n c, .int .i64 pr] w fun e w' => e = .returned (.bool true) ∧ Below w.heap.size w w' := by
  by_cases he : (doF (runF xs).1 ⟨8, pr, 0, 0, 0, 0, false, 0, 0, 0, 0, 0⟩).2.err = 0
  · exact flatFork_ok A n c xs hz hwf hcap hc hbig pr fp he
  · exact flatFork_no A n c xs hz hwf hcap hc hbig pr fp he
end Go.Proofs.Ytglnnplijienbaa
