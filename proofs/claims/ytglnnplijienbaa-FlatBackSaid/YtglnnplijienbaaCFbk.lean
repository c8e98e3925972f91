/- FlatBack: its walk. -/
import Derived.Test.YtglnnplijienbaaCFap
import Derived.Test.YtglnnplijienbaaM24
namespace Go.Proofs.Ytglnnplijienbaa
open Go.ChangeShapes Go.WideShapes Go.ChangeAt Go.RowKit Go.Joins Go.Sort
set_option linter.unusedVariables false
set_option linter.unusedSimpArgs false
set_option maxRecDepth 100000
abbrev zS1 : Array Value := #[.bool false, .slice none 0 0, .bool false, .int .i64 0, .bool false, .int .i64 0, .bool false, .int .i64 0, .bool false, .int .i64 0, .slice none 0 0]
theorem run_bsO2 (o p : Fop) (w : World) : (Instr.buildSlice 22 2 #[(0, .agg (opA o)), (1, .agg (opA p))]).run Try.prog w = .ok (.slice (some ⟨w.heap.size, 0, none⟩) 2 2) (w.alloc (.cells (opA o ++ opA p) 43)) := by
  kernel_rfl
/-- Steps of region 13: the store (10) may write into own processes. -/
def MP (N i : Nat) (w w' : World) : Prop := (i ≠ 10 ∧ Below w.heap.size w w') ∨ (i = 10 ∧ Below N w w' ∧ ∀ b z, Bx w b 31 z → z.size = 11 → ∃ z', Bx w' b 31 z' ∧ z'.size = 11)
theorem MP.kind (w0 : World) : StepKindD (MP w0.heap.size) (CA w0) [] :=
  ⟨fun i w => by
    by_cases e : i = 10
    · exact .inr ⟨e, Below.refl _ _, fun b z h1 h2 => ⟨z, h1, h2⟩⟩
    · exact .inl ⟨e, Below.refl _ _⟩, fun i w w' h hm => by
    rcases hm with ⟨_, hm⟩ | ⟨_, hm, _⟩
    · exact h.trans (hm.mono h.size)
    · exact h.trans hm, fun p hp => by cases hp⟩
def dPb (k N : Nat) : SpD (MP N) := ⟨k, none, [], fun v => ∃ b, v = .pointer (some ⟨b, 0, none⟩), fun _ v w => ∃ b z, v = .pointer (some ⟨b, 0, none⟩) ∧ N ≤ b ∧ Bx w b 31 z ∧ z.size = 11, ⟨_, 0, rfl⟩, fun i _ _ u v w w' h hm => by
  obtain ⟨b, z, e, hB, hx, hz⟩ := h
  rcases hm with ⟨_, hm⟩ | ⟨_, _, hm⟩
  · exact ⟨b, z, e, hB, hx.below hm, hz⟩
  · obtain ⟨z', h1, h2⟩ := hm b z hx hz
    exact ⟨b, z', e, hB, h1, h2⟩⟩
def dSt (N : Nat) (rp : Array Value) : SpD (MP N) := ⟨10, some 8, [], fun v => v = undef, fun u v w => ∃ b, u = .pointer (some ⟨b, 0, none⟩) ∧ Bx w b 31 rp, ⟨_, rfl⟩, fun i _ hi u v w w' h hm => by
  obtain ⟨b, e, hx⟩ := h
  rcases hm with ⟨_, hm⟩ | ⟨h10, _⟩
  · exact ⟨b, e, hx.below hm⟩
  · exact absurd h10 hi⟩
theorem flatBack_room {W : Fw} (o : Fop) (h : (doF W { o with kind := 11 }).2.err = 0) : o.addr + o.size ≤ 4096 := by
  unfold doF at h
  simp only at h
  rw [if_neg (by omega), if_neg (by omega)] at h
  by_cases h3 : o.proc < 0 ∨ 4 ≤ o.proc ∨ (W o.proc.toNat).live = false
  · rw [if_pos h3] at h; cases h
  rw [if_neg h3, if_neg (by omega), if_neg (by omega), if_neg (by omega), if_neg (by omega)] at h
  simp only at h
  by_cases r1 : rightF_ { o with kind := 11 } = false
  · unfold lookF at h; rw [if_pos r1] at h; cases h
  obtain ⟨_, _, _, _, s1, _, hs⟩ := right_facts (show rightF_ { o with kind := 11 } = true by simpa using r1)
  have := (hs (by simp)).1
  rw [this] at s1
  exact s1
theorem nb_cells {k : IntKind} {T : TypeId} {w : World} {g n c : Nat} {zs : List Int} (h : Nb k T w (.slice (some ⟨g, 0, none⟩) n c) zs) (i : Nat) (hi : i < zs.length) : w.cell? ⟨g, i, none⟩ = some (.int k (zs.getD i 0)) := by
  obtain ⟨A, c', e, ho⟩ := h
  injection e with e1 e2 e3
  subst e1
  obtain ⟨g', cur, e, _, hh, hc⟩ := ho.2.2.2 (by omega)
  injection e with e
  injection e with e
  subst e
  rw [blk_cell hh]
  exact hc i hi
theorem nb_slice {k : IntKind} {T : TypeId} {w : World} {v : Value} {zs : List Int} (h : Nb k T w v zs) (h0 : 0 < zs.length) : ∃ g c, v = .slice (some ⟨g, 0, none⟩) zs.length c := by
  obtain ⟨A, c', e, ho⟩ := h
  obtain ⟨g', cur, e', _, hh, hc⟩ := ho.2.2.2 h0
  subst e'
  exact ⟨g', c', e⟩
theorem nb_row {k : IntKind} {T : TypeId} {w : World} {A : Option Addr} {n c : Nat} {zs : List Int} (h : Nb k T w (.slice A n c) zs) : Row k w w.heap.size A n zs := by
  obtain ⟨A', c', e, ho⟩ := h
  injection e with e1 e2 e3
  subst e1 e2 e3
  exact ho.row
theorem mem_pagesN {l : List Rgn} {j m : Nat} (h : (pagesN l)[j]? = some m) : m < 64 := by
  have := List.mem_of_getElem? h
  unfold pagesN at this
  simp only [List.mem_filter, List.mem_range] at this
  exact this.1
theorem sh_law (vl sz : Int) (h1 : 1 ≤ sz) (h4 : sz ≤ 4) : ∃ m, vl % 256 ^ sz.toNat = m ∧ ∃ sh : Int, m = wrap64 ((IntKind.u64.wrap vl).tmod sh) ∧ ((sz = 1 ∧ sh = 256) ∨ (sz = 2 ∧ sh = 65536) ∨ (sz = 3 ∧ sh = 16777216) ∨ (sz = 4 ∧ sh = 4294967296)) := by
  refine ⟨_, rfl, ?_⟩
  have hu : IntKind.u64.wrap vl = vl % 18446744073709551616 := rfl
  rw [hu]
  have hw : ∀ x sh : Int, 0 ≤ x → 0 < sh → sh ≤ 4294967296 → wrap64 (x.tmod sh) = x % sh := fun x sh h0 h1 h2 => by
    rw [Int.tmod_eq_emod_of_nonneg h0]
    have a1 := Int.emod_nonneg x (show sh ≠ 0 by omega)
    have a2 := Int.emod_lt_of_pos x h1
    unfold wrap64
    omega
  have hp : (0 : Int) ≤ vl % 18446744073709551616 := by omega
  have hs4 : sz = 1 ∨ sz = 2 ∨ sz = 3 ∨ sz = 4 := by omega
  rcases hs4 with rfl | rfl | rfl | rfl
  · rw [show (256 : Int) ^ (1 : Int).toNat = 256 from rfl]; exact ⟨256, by rw [hw _ _ hp (by omega) (by omega)]; omega, .inl ⟨rfl, rfl⟩⟩
  · rw [show (256 : Int) ^ (2 : Int).toNat = 65536 from rfl]; exact ⟨65536, by rw [hw _ _ hp (by omega) (by omega)]; omega, .inr (.inl ⟨rfl, rfl⟩)⟩
  · rw [show (256 : Int) ^ (3 : Int).toNat = 16777216 from rfl]; exact ⟨16777216, by rw [hw _ _ hp (by omega) (by omega)]; omega, .inr (.inr (.inl ⟨rfl, rfl⟩))⟩
  · rw [show (256 : Int) ^ (4 : Int).toNat = 4294967296 from rfl]; exact ⟨4294967296, by rw [hw _ _ hp (by omega) (by omega)]; omega, .inr (.inr (.inr ⟨rfl, rfl⟩))⟩
section
variable {P : Program} {M : World → World → Prop} {dst : Option Tmp} {x y : Operand} {T type : TypeId} {pos : String} {after : Array Edge} {guard : Option (Nat × Bool)} {a : Act} {w w' : World} {v u u' : Value}
theorem st_step {t : TypeId} {n : Nat} (hi : (P.info? t).map (·.size) = some n) {g : Nat} {z cs : Array Value} (hz : Bx w g t z) (hs : z.size = n) (hn : cs.size = n) (h1 : cs.all (·.oneCell') = true) {Φ : Value → World → Prop} (hx : a.eval x = .pointer (some ⟨g, 0, none⟩)) (hy : a.eval y = .agg cs) (hM : M w (w.setRow g cs)) (hP : Φ undef (w.setRow g cs)) : becomesM M P ⟨dst, .store t x y, type, pos, after, guard⟩ a w Φ := by
  unfold becomesM execOp
  simp only [hx, hy, Instr.storeAt, Instr.sureAddr, Sem.run_bind, Sem.run_pure, Result.andThen_ok, run_storeVar_row w g t t z cs hz (by rw [hi, hn]) (by rw [hs, hn]) h1]
  exact ⟨hM, hP⟩
theorem ex_bs2 (hx : a.eval x = u) (hy : a.eval y = u') (h : (Instr.buildSlice T 2 #[(0, u), (1, u')]).run P w = .ok v w') : (execOp a.eval ⟨dst, .buildSlice T 2 #[(0, x), (1, y)], type, pos, after, guard⟩).run P w = .ok (.value v) w' := by
  unfold execOp
  simp only [List.map_toArray, List.map_cons, List.map_nil, hx, hy, Sem.run_bind, h, Result.andThen_ok, Sem.run_pure]
end
set_option maxHeartbeats 16000000 in
theorem flatBack_walk {w : World} (A : Option Addr) (n c : Nat) (xs : List Fop) (hz : Rw fO 12 w w.heap.size A n xs) (hwf : ∀ x ∈ xs, x.fits) (hcap : n ≤ c) (_ : c ≤ maxLen) (hbig : c ≤ 1466015503658) (o : Fop) (fo : o.fits) :
    Calls Try.prog 4 #[.slice A n c, .agg (opA o)] w fun e w' => e = .returned (.bool true) ∧ Below w.heap.size w w' := by
  have hln := hz.1
  obtain ⟨oS, hoS⟩ : ∃ x : Fop, x = { o with kind := 11 } := ⟨_, rfl⟩
  obtain ⟨oL, hoL⟩ : ∃ x : Fop, x = { o with kind := 10 } := ⟨_, rfl⟩
  have foS : oS.fits := by rw [hoS]; exact ⟨by show I64 _; unfold I64; simp only; omega, fo.2⟩
  have foL : oL.fits := by rw [hoL]; exact ⟨by show I64 _; unfold I64; simp only; omega, fo.2⟩
  have HRUN : Hid (∀ w', Below w.heap.size w w' → Calls Try.prog 9 #[.slice A n c] w' (GivesRun w' xs)) := Lib.hid (fun w' hb => run_any A n c xs w' _ (hz.on hb (Nat.le_refl _)) (Nat.le_refl _) (by omega) hwf)
  have HCLO : Hid (∀ w', Below w.heap.size w w' → Calls Try.prog 12 #[.slice A n c] w' fun e w'' => ∃ v, e = .returned v ∧ Os fO 12 43 w'' w'.heap.size v xs ∧ Below w'.heap.size w' w'') := Lib.hid (fun w' hb => clone_O A n c xs w' _ (hz.on hb (Nat.le_refl _)) (Nat.le_refl _) (by omega))
  have HRU2 : Hid (∀ w' (b : Nat) v, Os fO 12 43 w' b v (xs ++ [oS, oL]) → Calls Try.prog 9 #[v] w' (GivesRun w' (xs ++ [oS, oL]))) := Lib.hid (fun w' b v h => by
    obtain ⟨A', c', rfl, h1, h2, h3⟩ := h.row fO_len
    exact run_any A' _ c' _ w' _ h3 (Nat.le_refl _) (by simp; omega) (by
      intro x hx
      rcases List.mem_append.1 hx with hx | hx
      · exact hwf x hx
      · simp at hx; rcases hx with rfl | rfl
        · exact foS
        · exact foL))
  have HOK := Lib.hid (ok_run xs)
  have HL1 : Hid ((runF xs).2.length = n) := Lib.hid (by rw [runF_len, hln])
  have HL2 : Hid ((runF (xs ++ [oS, oL])).2.length = n + 2) := Lib.hid (by rw [runF_len]; simp [hln])
  have HOZ : Hid ((opA oS).size = 12) := Lib.hid rfl
  have HOY : Hid ((opA oL).size = 12) := Lib.hid rfl
  have HO1 := Lib.hid (opA_one oS)
  have HO2 := Lib.hid (opA_one oL)
  have HOF : Hid (opA oS ++ opA oL = ([oS, oL].flatMap fO).toArray) := Lib.hid (by rfl)
  have HXL := Lib.hid hln
  have HB0 := Lib.hid (below1 w (.cells (opA o) 43))
  have HOX : Hid (Bx (w.alloc (.cells (opA o) 43)) w.heap.size 43 (opA o)) := Lib.hid (Bx.new _ _ _)
  have HAL := Lib.hid (alive14_any (w.alloc (.cells (opA o) 43)))
  have HBS := Lib.hid (fun W => run_bsO2 oS oL W)
  have HSA : Hid (opA oS = (opA o).setIfInBounds 0 (.int .i64 11)) := Lib.hid (by rw [hoS]; rfl)
  have HLA : Hid (opA oL = (opA oS).setIfInBounds 0 (.int .i64 10)) := Lib.hid (by rw [hoL, hoS]; rfl)
  have HFS : Hid (∀ j, 1 ≤ j → (opA oS)[j]? = (opA o)[j]?) := Lib.hid (fun j hj => by rw [HSA.out]; exact Array.getElem?_setIfInBounds_ne (by omega))
  have HFO := Lib.hid fo
  have HS0 : Hid ((opA oS)[0]? = some (.int .i64 11)) := Lib.hid (by rw [hoS]; rfl)
  have HS1p : Hid ((opA oS)[1]? = some (.int .i64 o.proc)) := Lib.hid (by rw [hoS]; rfl)
  have HS8 : Hid ((opA oS)[8]? = some (.int .i64 o.addr)) := Lib.hid (by rw [hoS]; rfl)
  have HS9 : Hid ((opA oS)[9]? = some (.int .i64 o.size)) := Lib.hid (by rw [hoS]; rfl)
  have HS10 : Hid ((opA oS)[10]? = some (.int .i64 o.value)) := Lib.hid (by rw [hoS]; rfl)
  have HO0 : Hid ((opA o)[0]? = some (.int .i64 o.kind)) := Lib.hid rfl
  obtain ⟨aS, haS⟩ : ∃ a, a = (doF (runF xs).1 oS).2 := ⟨_, rfl⟩
  obtain ⟨aL, haL⟩ : ∃ a, a = (doF (doF (runF xs).1 oS).1 oL).2 := ⟨_, rfl⟩
  have hsm : runF (xs ++ [oS, oL]) = ((doF (doF (runF xs).1 oS).1 oL).1, (runF xs).2 ++ [aS, aL]) := by
    have e : xs ++ [oS, oL] = (xs ++ [oS]) ++ [oL] := by simp
    rw [e, runF_snoc, runF_snoc, ← haS]
    simp only [List.append_assoc, List.cons_append, List.nil_append]
    rw [← haL]
  have HAS : Hid ((runF (xs ++ [oS, oL])).2[n]? = some aS) := Lib.hid (by
    rw [hsm]
    show ((runF xs).2 ++ [_, _])[n]? = _
    rw [List.getElem?_append_right (by rw [runF_len, hln]; exact Nat.le_refl _), runF_len, hln, Nat.sub_self]; rfl)
  have HAT : Hid ((runF (xs ++ [oS, oL])).2[n + 1]? = some aL) := Lib.hid (by
    rw [hsm]
    show ((runF xs).2 ++ [_, _])[n + 1]? = _
    rw [List.getElem?_append_right (by rw [runF_len, hln]; omega), runF_len, hln, Nat.add_sub_cancel_left]; rfl)
  have HPL : Hid (aS.err = 0 → 0 ≤ o.proc ∧ o.proc < 4 ∧ 1 ≤ o.size ∧ o.size ≤ 4 ∧ 0 ≤ o.addr ∧ o.addr + o.size ≤ 4096 ∧ (aL.err ≠ 0 → aL.err = 8 ∧ (aL.fault = 2 ∨ aL.fault = 3)) ∧ (aL.err = 0 → aL.value = o.value % 256 ^ o.size.toNat) ∧
      ((runF (xs ++ [oS, oL])).1 o.proc.toNat).rg = ((runF xs).1 o.proc.toNat).rg ∧ ((runF (xs ++ [oS, oL])).1 o.proc.toNat).tg = ((runF xs).1 o.proc.toNat).tg ∧ ((runF (xs ++ [oS, oL])).1 o.proc.toNat).bt = storeF ((runF xs).1 o.proc.toNat).bt o.addr o.size o.value) := Lib.hid (by
    rw [hsm, haS, haL, hoS, hoL]
    exact fun h => by
      obtain ⟨b1, b2, b3, b4, b5, b6⟩ := flatBack_plain (W := (runF xs).1) o h
      exact ⟨b1, b2, b3, b4, b5, flatBack_room o h, b6⟩)
  clear haS haL hsm
  clear hz hwf hln fo hoS hoL foS foL
  obtain ⟨oA, hoA⟩ : ∃ oA, oA = opA o := ⟨_, rfl⟩
  obtain ⟨sA, hsA⟩ : ∃ oA, oA = opA oS := ⟨_, rfl⟩
  obtain ⟨lA, hlA⟩ : ∃ oA, oA = opA oL := ⟨_, rfl⟩
  have HOA := Lib.hid hoA
  rw [← hoA] at HB0 HOX HAL HSA HFS HO0 ⊢
  rw [← hsA] at HS0 HS1p HS8 HS9 HS10 HOZ HO1 HOF HBS HSA HLA HFS
  rw [← hlA] at HOY HO2 HOF HBS HLA
  clear hoA hsA hlA
  go_enter Try.func4, Try.ntmps4
  go_wp2_with (first
    | (go_at_call 8; refine HAL.out.mono ?_; rintro e w1 ⟨rfl, hb1⟩; have HB1 := Lib.hid (HB0.out.trans (hb1.mono HB0.out.size)); have OX1 := Lib.hid (HOX.out.below hb1)
       have OX2 : Hid (Bx (w1.setCell ⟨w.heap.size, 0, none⟩ (.int .i64 11)) w.heap.size 43 sA) := Lib.hid (by rw [HSA.out]; exact OX1.out.set 0 _)
       have cl1 : w1.cell? ⟨w.heap.size, 0, none⟩ = some (.int .i64 o.kind) := by rw [OX1.out.cell]; exact HO0.out
       have lt1 : w.heap.size < w1.heap.size := OX1.out.lt
       have fz1 : w1.frozen? ⟨w.heap.size, 0, none⟩ = false := OX1.out.free 0
       clear hb1)
    | ((with_reducible refine ldB Try.underlying43 rfl infoO w.heap.size 0 sA ?_ ?_ OX2.out (Sub.all _) HOZ.out ?_); rfl; rfl
       have HB2 : Hid (Below w.heap.size w (w1.setCell ⟨w.heap.size, 0, none⟩ (.int .i64 11))) := Lib.hid (HB1.out.setCell (Nat.le_refl _) _)
       obtain ⟨w2, hw2⟩ : ∃ w2, w2 = w1.setCell ⟨w.heap.size, 0, none⟩ (.int .i64 11) := ⟨_, rfl⟩
       rw [← hw2] at OX2 HB2 ⊢
       have s0 : sA[0]? = some (.int .i64 11) := HS0.out
       clear hw2 cl1 lt1 fz1)
    | ((with_reducible refine stN infoO sA ?_ ?_ rfl HOZ.out HO1.out ?_); rfl; rfl)
    | (go_at_call 9
       rw [← HLA.out]
       have hb23 := below1 w2 (.cells lA 43)
       have LX3 : Hid (Bx (w2.alloc (.cells lA 43)) w2.heap.size 43 lA) := Lib.hid (Bx.new _ _ _)
       have HB3 : Hid (Below w.heap.size w (w2.alloc (.cells lA 43))) := Lib.hid (HB2.out.trans (hb23.mono HB2.out.size))
       refine (HRUN.out _ HB3.out).mono ?_
       rintro e w4 ⟨va, cs, rfl, ha, hs, hb4⟩
       have HS := Lib.hid hs.size
       have HO := Lib.hid hs.one
       have HSE := Lib.hid (hs.rebase (B := w.heap.size) HB3.out.size)
       have HB4 := Lib.hid (HB3.out.trans (hb4.mono HB3.out.size))
       have OX4 := Lib.hid ((OX2.out.below hb23).below hb4)
       have LX4 := Lib.hid (LX3.out.below hb4)
       have LQ := Lib.hid HB2.out.size
       obtain ⟨Aa, na, rfl⟩ : ∃ Aa na, va = .slice Aa (runF xs).2.length na := by obtain ⟨A', c', e, _⟩ := ha.form; exact ⟨A', c', e⟩
       clear ha hs hb4 hb23)
    | ((with_reducible refine stN infoS4 cs ?_ ?_ rfl HS.out HO.out ?_); rfl; rfl))
  try simp only [Act.put]
  have HB5 : Hid (Below w.heap.size w (w4.alloc (.cells cs 32))) := Lib.hid (HB4.out.trans ((below1 _ _).mono HB4.out.size))
  have HSE5 : Hid (Seem (w4.alloc (.cells cs 32)) w.heap.size cs (runF xs).1) := Lib.hid (HSE.out.below (below1 _ _))
  have OX5 := Lib.hid (OX4.out.below (below1 w4 (.cells cs 32)))
  have LX5 := Lib.hid (LX4.out.below (below1 w4 (.cells cs 32)))
  have CX5 : Hid (Bx (w4.alloc (.cells cs 32)) w4.heap.size 32 cs) := Lib.hid (Bx.new _ _ _)
  obtain ⟨w3, hw3⟩ : ∃ w3, w3 = w4.alloc (.cells cs 32) := ⟨_, rfl⟩
  rw [← hw3] at HB5 HSE5 OX5 LX5 CX5 ⊢
  clear hw3 HB4 HB3 HB2 HB1 HSE OX1 OX2 OX4 LX3 LX4 HAL HOX HB0 HRUN s0
  obtain ⟨q1, hq1⟩ : ∃ q1, q1 = w4.heap.size := ⟨_, rfl⟩
  rw [← hq1] at CX5 ⊢
  obtain ⟨q2, hq2⟩ : ∃ q2, q2 = w2.heap.size := ⟨_, rfl⟩
  rw [← hq2] at LX5 LQ ⊢
  clear hq1 hq2
  refine wp_reltD 12 (MA 5 w3.heap.size) (CA w3) [] [dClone 1 5 w3.heap.size xs, dNew 4 5 w3.heap.size 2 (sA ++ lA), dApp 5 w3.heap.size (xs ++ [oS, oL]), dRun 6 5 w3.heap.size (xs ++ [oS, oL]), dBox 10 5 w3.heap.size 32 zS4 (by decide)] (by kernel_rfl) (MA.kind 5 w3) ⟨rfl, rfl, rfl, Nat.le_refl _, fun _ _ => rfl⟩ (fun p hp => by cases hp) (by kernel_rfl) (by kernel_rfl) (by kernel_rfl) ?_
  intro V hV
  obtain ⟨A1, n1, c1, e1⟩ : ∃ A n c, V 1 = .slice A n c := hV 1
  obtain ⟨b3, e3⟩ : ∃ b, V 4 = .slice (some ⟨b, 0, none⟩) 2 2 := hV 4
  obtain ⟨A4, n4, c4, e4⟩ : ∃ A n c, V 5 = .slice A n c := hV 5
  obtain ⟨A5, n5, c5, cs5, e5⟩ : ∃ A n c cs, V 6 = .tuple #[.slice A n c, .agg cs] := hV 6
  obtain ⟨b9, e9⟩ : ∃ b, V 10 = .pointer (some ⟨b, 0, none⟩) := hV 10
  simp only [List.take_succ_cons, List.take_zero, List.drop_succ_cons, List.drop_zero]
  refine dq w3 (fun _ h => h) rfl rfl ?_; go_big_quiet_step (fail); refine wpQuiet_nil ?_
  refine dsp w3 (dClone 1 5 w3.heap.size xs) (by kernel_rfl) rfl (fun w' hb hi hf => ?_) ?_
  · refine becomesM_call (f := 12) (args := #[.slice A n c]) ?_ ((HCLO.out w' (HB5.out.trans (hb.mono HB5.out.size))).mono ?_)
    · go_simp
    · rintro e w'' ⟨v', rfl, ho, hb2⟩
      exact ⟨_, rfl, .inl ⟨by decide, hb2⟩, ho.slice, ho.rebase hb.size⟩
  go_big_quiet_step (fail)
  refine wpQuiet_nil ?_
  simp only [e1]
  refine df w3 (.agg sA) (by kernel_rfl) rfl (fun w' hb hi hf => ex_ld rfl (run_ld Try.underlying43 rfl infoO (OX5.out.below hb) (Sub.all _) HOZ.out)) ?_
  go_big_quiet_step (fail)
  refine wpQuiet_nil ?_
  refine df w3 (.agg lA) (by kernel_rfl) rfl (fun w' hb hi hf => ex_ld rfl (run_ld Try.underlying43 rfl infoO (LX5.out.below hb) (Sub.all _) HOY.out)) ?_
  go_big_quiet_step (fail)
  refine wpQuiet_nil ?_
  refine dsp w3 (dNew 4 5 w3.heap.size 2 (sA ++ lA)) (by kernel_rfl) rfl (fun w' hb hi hf => ?_) ?_
  · exact becomesM_value (ex_bs2 rfl rfl (HBS.out w')) (.inl ⟨by decide, below1 _ _⟩) ⟨⟨_, rfl⟩, _, rfl, Bx.new _ _ _⟩
  go_big_quiet_step (fail)
  refine wpQuiet_nil ?_
  simp only [e3]
  refine dsp w3 (dApp 5 w3.heap.size (xs ++ [oS, oL])) (by kernel_rfl) rfl (fun w' hb hi hf => ?_) ?_
  · have f1 : Os fO 12 43 w' w3.heap.size (.slice A1 n1 c1) xs := hf _ (List.Mem.tail _ (List.Mem.head _)) (by kernel_rfl) (by kernel_rfl)
    obtain ⟨b, eb, f3⟩ : ∃ b, Value.slice (some ⟨b3, 0, none⟩) 2 2 = .slice (some ⟨b, 0, none⟩) 2 2 ∧ Bx w' b 43 (sA ++ lA) := hf _ (List.Mem.head _) (by kernel_rfl) (by kernel_rfl)
    obtain rfl : b3 = b := by injection eb with eb; injection eb with eb; injection eb
    exact app_step rfl rfl rfl f1 hb.size rfl f3 HOF.out rfl (by rw [HXL.out]; simp; omega) (u := undef)
  go_big_quiet_step (fail)
  refine wpQuiet_nil ?_
  simp only [e4]
  refine dsp w3 (dRun 6 5 w3.heap.size (xs ++ [oS, oL])) (by kernel_rfl) rfl (fun w' hb hi hf => ?_) ?_
  · have f4 : Os fO 12 43 w' w3.heap.size (.slice A4 n4 c4) (xs ++ [oS, oL]) := hf _ (List.Mem.head _) (by kernel_rfl) (by kernel_rfl)
    refine becomesM_call (f := 9) (args := #[.slice A4 n4 c4]) ?_ ((HRU2.out w' _ _ f4).mono ?_)
    · go_simp
    · rintro e w'' ⟨va, cs2, rfl, ha, hs, hb2⟩
      obtain ⟨A', c', rfl, _⟩ := ha.form
      exact ⟨_, rfl, .inl ⟨by decide, hb2⟩, ⟨_, _, _, _, rfl⟩, _, _, rfl, ha.rebase hb.size, hs.rebase hb.size⟩
  go_big_quiet_step (fail)
  refine wpQuiet_nil ?_
  simp only [e5]
  iterate 3 (refine dq w3 (fun _ h => h) rfl rfl ?_; go_big_quiet_step (fail); refine wpQuiet_nil ?_)
  refine dsp w3 (dBox 10 5 w3.heap.size 32 zS4 (by decide)) (by kernel_rfl) rfl (fun w' hb hi hf => ?_) ?_
  · refine becomesM_value (v := .pointer (some ⟨w'.heap.size, 0, none⟩)) (w' := w'.alloc (.cells zS4 32)) (by go_simp) (.inl ⟨by decide, below1 _ _⟩) ⟨⟨_, rfl⟩, _, rfl, hb.size, Bx.new _ _ _⟩
  go_big_quiet_step (fail)
  refine wpQuiet_nil ?_
  simp only [e9]
  refine dq w3 (fun _ h => h) rfl rfl ?_; go_big_quiet_step (fail); refine wpQuiet_nil ?_
  refine dend ?_
  intro w6 hb6 hi hf
  obtain ⟨b9', eb9, hB9, f9⟩ : ∃ b, Value.pointer (some ⟨b9, 0, none⟩) = .pointer (some ⟨b, 0, none⟩) ∧ w3.heap.size ≤ b ∧ Bx w6 b 32 zS4 := by
    exact hf _ (List.Mem.head _) rfl
  obtain rfl : b9 = b9' := by injection eb9 with h; injection h with h; injection h
  obtain ⟨va', cs', ee, f5, f6⟩ : ∃ va cs, Value.tuple #[.slice A5 n5 c5, .agg cs5] = .tuple #[va, .agg cs] ∧ Os fN 4 47 w6 w3.heap.size va (runF (xs ++ [oS, oL])).2 ∧ Seem w6 w3.heap.size cs (runF (xs ++ [oS, oL])).1 := by
    exact hf _ (List.Mem.tail _ (List.Mem.head _)) rfl
  obtain ⟨rfl, rfl⟩ : va' = .slice A5 n5 c5 ∧ cs5 = cs' := by injection ee with h; injection h with h; injection h with h1 h; injection h with h2 h; injection h2 with h2; exact ⟨h1.symm, h2⟩
  obtain ⟨g5, c5', e5', hg5, hc5⟩ := ans_cells f5 (by rw [HL2.out]; omega)
  have hn5 : n5 = n + 2 := by rw [HL2.out] at e5'; injection e5'
  have hA5 : A5 = some ⟨g5, 0, none⟩ := by injection e5'
  subst hn5 hA5
  have HS5 := Lib.hid f6.size
  have HO5 := Lib.hid f6.one
  have HSE6 := Lib.hid f6
  have HX9 := Lib.hid f9
  have HX9' := Lib.hid f9
  have HB6 := Lib.hid (HB5.out.trans (hb6.mono HB5.out.size))
  have OX6 := Lib.hid (OX5.out.below hb6)
  have LX6 := Lib.hid (LX5.out.below hb6)
  have CX6 := Lib.hid (CX5.out.below hb6)
  have SE6 := Lib.hid (HSE5.out.below hb6)
  have hq9 : q1 ≠ b9 := by have := CX5.out.lt; omega
  have hq8 : q2 ≠ b9 := by have := LX5.out.lt; omega
  have hw9 : w.heap.size ≠ b9 := by have := OX5.out.lt; omega
  have hw9b : w.heap.size ≤ b9 := by have := OX5.out.lt; omega
  have HZ4 : Hid (zS4.size = 44) := Lib.hid rfl
  have KR : KeepT (fun T' => T' ≠ 32) w6 (w6.setRow b9 cs5) := fun g T' cs' hT hb => hb.orow (bx_ne hb HX9.out hT) cs5
  have HSE7 := Lib.hid (HSE6.out.keepT KR.seen)
  have SE7 := Lib.hid (SE6.out.keepT KR.seen)
  have OX7 := Lib.hid (OX6.out.orow hw9 cs5)
  have LX7 := Lib.hid (LX6.out.orow hq8 cs5)
  have CX7 := Lib.hid (CX6.out.orow hq9 cs5)
  have HX7 := Lib.hid (HX9.out.row cs5)
  have HB7 := Lib.hid (below_setRow HB6.out hw9b cs5)
  have hcc : ∀ k a, (runF (xs ++ [oS, oL])).2[k]? = some a → ∀ j u, (fN a)[j]? = some u → (w6.setRow b9 cs5).cell? ⟨g5, k * 4 + j, none⟩ = some u := by
    have h1 := f5.keepT KR (by decide)
    obtain ⟨g', c', e', hg', hc'⟩ := ans_cells h1 (by rw [HL2.out]; omega)
    obtain rfl : g5 = g' := by injection e' with h; injection h with h; injection h
    exact hc'
  have c7 : (w6.setRow b9 cs5).cell? ⟨g5, n * 4, none⟩ = some (.int .i64 aS.err) := hcc n aS HAS.out 0 _ rfl
  have d0 : (w6.setRow b9 cs5).cell? ⟨g5, (n + 1) * 4, none⟩ = some (.int .i64 aL.err) := hcc (n + 1) aL HAT.out 0 _ rfl
  have d1 : (w6.setRow b9 cs5).cell? ⟨g5, (n + 1) * 4 + 1, none⟩ = some (.int .i64 aL.value) := hcc (n + 1) aL HAT.out 1 _ rfl
  have d2 : (w6.setRow b9 cs5).cell? ⟨g5, (n + 1) * 4 + 2, none⟩ = some (.int .i64 aL.fault) := hcc (n + 1) aL HAT.out 2 _ rfl
  clear hf hV e1 e3 e4 e5 e9 eb9 f9 ee f5 f6 e5' hc5 hb6 hi KR HX9 hcc
  refine stB infoS4 b9 cs5 rfl rfl HX9'.out HZ4.out HS5.out HO5.out ?_
  obtain ⟨w7, hw7⟩ : ∃ w7, w7 = w6.setRow b9 cs5 := ⟨_, rfl⟩
  rw [← hw7] at HSE7 SE7 OX7 LX7 CX7 HX7 HB7 c7 d0 d1 d2 ⊢
  clear hw7 HSE6 SE6 OX6 LX6 CX6 HX9' HB6 hq9 hq8 hw9 hw9b hB9 hg5
  have l7 : g5 < w7.heap.size := lt_of_cell c7
  have HPL' := HPL.out
  clear HPL
  by_cases he : aS.err = 0
  · obtain ⟨p1, p2, p3, p4, p5, p5b, p6, p7, p8, p9, p10⟩ := HPL' he
    clear HPL'
    rw [he] at c7
    by_cases hl : aL.err = 0
    · rw [hl] at d0
      clear p6
      rw [p7 hl] at d1
      clear p7
      obtain ⟨k, hk⟩ := Int.eq_ofNat_of_zero_le p1
      rw [hk] at p2 p8 p9 p10
      simp only [Int.toNat_natCast] at p8 p9 p10
      have hk4 : k < 4 := by omega
      have g1 := SE7.out.one_ hk4
      have g2 := HSE7.out.one_ hk4
      have sub : ∀ cs : Array Value, Sub cs (k * 11) (cs.extract (k * 11) (k * 11 + 11)) := fun cs i v hv => by
        rw [Array.getElem?_extract] at hv
        split at hv
        · exact hv
        · cases hv
      have HS1 := Lib.hid (sub cs)
      have HS2 := Lib.hid (sub cs5)
      have HZ1 := Lib.hid g1.1
      have HZ2 := Lib.hid g2.1
      have HN1 := Lib.hid g1.2.1
      have HN2 := Lib.hid g2.2.1
      have SV1 := Lib.hid (g1.2.2.keepT (KeepT.refl))
      have SV2 := Lib.hid g2.2.2
      have HRG := Lib.hid (HOK.out.p k).r
      clear g1 g2 sub SE7 HSE7
      generalize cs.extract (k * 11) (k * 11 + 11) = rp at *
      generalize cs5.extract (k * 11) (k * 11 + 11) = qy at *
      generalize (runF xs).1 k = f1 at *
      generalize (runF (xs ++ [oS, oL])).1 k = f2 at *
      have P8 := Lib.hid p8
      have P9 := Lib.hid p9
      have P10 := Lib.hid p10
      have cp : w7.cell? ⟨w.heap.size, 1, none⟩ = some (.int .i64 k) := by rw [OX7.out.cell]; exact HS1p.out.trans (by rw [hk])
      have lo : w.heap.size < w7.heap.size := OX7.out.lt
      have lq1 : q1 < w7.heap.size := CX7.out.lt
      have lq9 : b9 < w7.heap.size := HX7.out.lt
      have gc : ∀ (d : Nat) (os : Array Obj) (b o : Nat), b < w7.heap.size → (grow (redrawn w7 d) os).cell? ⟨b, o, none⟩ = w7.cell? ⟨b, o, none⟩ := fun d os b o h => (below_regrown _ d os).cell (p := ⟨b, o, none⟩) h
      clear p8 p9 p10
      go_wp2
      refine wp_reltD 11 (MP w7.heap.size) (CA w7) [] [dPb 8 w7.heap.size, dPb 9 w7.heap.size, dSt w7.heap.size rp] (by kernel_rfl) (MP.kind w7) ⟨rfl, rfl, rfl, Nat.le_refl _, fun _ _ => rfl⟩ (fun p hp => by cases hp) (by kernel_rfl) (by kernel_rfl) (by kernel_rfl) ?_
      intro V hV
      obtain ⟨b10, e8⟩ : ∃ b, V 8 = .pointer (some ⟨b, 0, none⟩) := hV 8
      obtain ⟨b11, e9⟩ : ∃ b, V 9 = .pointer (some ⟨b, 0, none⟩) := hV 9
      simp only [List.take_succ_cons, List.take_zero, List.drop_succ_cons, List.drop_zero]
      iterate 3 (refine dq w7 (fun _ h => h) rfl rfl ?_; go_big_quiet_step (fail); refine wpQuiet_nil ?_)
      refine df w7 (.agg rp) (by kernel_rfl) rfl (fun w' hb hi hf => ex_ld rfl (run_ld Try.underlying31 rfl infoS1 (CX7.out.below hb) HS1.out HZ1.out)) ?_
      go_big_quiet_step (fail)
      refine wpQuiet_nil ?_
      iterate 3 (refine dq w7 (fun _ h => h) rfl rfl ?_; go_big_quiet_step (fail); refine wpQuiet_nil ?_)
      refine df w7 (.agg qy) (by kernel_rfl) rfl (fun w' hb hi hf => ex_ld rfl (run_ld Try.underlying31 rfl infoS1 (HX7.out.below hb) HS2.out HZ2.out)) ?_
      go_big_quiet_step (fail)
      refine wpQuiet_nil ?_
      refine dsp w7 (dPb 8 w7.heap.size) (by kernel_rfl) rfl (fun w' hb hi hf => ?_) ?_
      · refine becomesM_value (v := .pointer (some ⟨w'.heap.size, 0, none⟩)) (w' := w'.alloc (.cells zS1 31)) (by go_simp) (.inl ⟨by decide, below1 _ _⟩) ⟨⟨_, rfl⟩, _, _, rfl, hb.size, Bx.new _ _ _, rfl⟩
      go_big_quiet_step (fail)
      refine wpQuiet_nil ?_
      simp only [e8]
      refine dsp w7 (dPb 9 w7.heap.size) (by kernel_rfl) rfl (fun w' hb hi hf => ?_) ?_
      · refine becomesM_value (v := .pointer (some ⟨w'.heap.size, 0, none⟩)) (w' := w'.alloc (.cells zS1 31)) (by go_simp) (.inl ⟨by decide, below1 _ _⟩) ⟨⟨_, rfl⟩, _, _, rfl, hb.size, Bx.new _ _ _, rfl⟩
      go_big_quiet_step (fail)
      refine wpQuiet_nil ?_
      simp only [e9]
      refine dsp w7 (dSt w7.heap.size rp) (by kernel_rfl) rfl (fun w' hb hi hf => ?_) ?_
      · obtain ⟨b8', z8, eb8, hB8, x8, hz8⟩ : ∃ b z, Value.pointer (some ⟨b10, 0, none⟩) = .pointer (some ⟨b, 0, none⟩) ∧ w7.heap.size ≤ b ∧ Bx w' b 31 z ∧ z.size = 11 := hf _ (List.Mem.tail _ (List.Mem.head _)) (by kernel_rfl) (by kernel_rfl)
        obtain rfl : b10 = b8' := by injection eb8 with h; injection h with h; injection h
        exact st_step infoS1 x8 hz8 HZ1.out HN1.out rfl rfl (.inr ⟨rfl, below_setRow (Below.refl _ _) hB8 rp, fun b z hx hz => by
          by_cases e : b = b10
          · subst e; exact ⟨rp, hx.row rp, HZ1.out⟩
          · exact ⟨z, hx.orow e rp, hz⟩⟩) ⟨rfl, _, e8, x8.row rp⟩
      go_big_quiet_step (fail)
      refine wpQuiet_nil ?_
      refine dend ?_
      intro w8 hb8 hi hf
      obtain ⟨b10', eb10, x10⟩ : ∃ b, V 8 = .pointer (some ⟨b, 0, none⟩) ∧ Bx w8 b 31 rp := by
        exact hf _ (List.Mem.head _) rfl
      rw [e8] at eb10
      obtain rfl : b10 = b10' := by injection eb10 with h; injection h with h; injection h
      obtain ⟨b11', z11, eb11, hB11, x11', hz11⟩ : ∃ b z, Value.pointer (some ⟨b11, 0, none⟩) = .pointer (some ⟨b, 0, none⟩) ∧ w7.heap.size ≤ b ∧ Bx w8 b 31 z ∧ z.size = 11 := by
        exact hf _ (List.Mem.tail _ (List.Mem.head _)) rfl
      obtain rfl : b11 = b11' := by injection eb11 with h; injection h with h; injection h
      have Y10 := Lib.hid x10
      have X11 := Lib.hid x11'
      have HZ11 := Lib.hid hz11
      have hb9 : Below w7.heap.size w7 (w8.setRow b11 qy) := below_setRow hb8 hB11 qy
      have KR2 : KeepT (fun T' => T' ≠ 31) w8 (w8.setRow b11 qy) := fun g T' cs' hT hb => hb.orow (bx_ne hb x11' hT) qy
      have hsn : ∀ T, Seen T → T ≠ 31 := fun T hT => by
        unfold Seen at hT
        rcases hT with rfl | rfl | rfl | rfl | rfl <;> decide
      have V1 := ((SV1.out.keepT (KeepT.of hb8))).keepT (KR2.weak hsn)
      have V2 := ((SV2.out.keepT (KeepT.of hb8))).keepT (KR2.weak hsn)
      have HPA : Hid (∃ B pa fp, Bx (w8.setRow b11 qy) b10 31 pa ∧ Sv (w8.setRow b11 qy) B pa 0 fp ∧ fp.rg = f2.rg ∧ fp.tg = f2.tg ∧ ∀ n i : Nat, (((n * 64 + i : Nat) : Int) < o.addr ∨ o.addr + o.size ≤ (n * 64 + i : Nat)) → fp.bt n i = f2.bt n i) := Lib.hid (by
        by_cases e : b10 = b11
        · subst e
          exact ⟨_, qy, f2, Y10.out.row qy, V2, rfl, rfl, fun _ _ _ => rfl⟩
        · exact ⟨_, rp, f1, Y10.out.orow e qy, V1, P8.out.symm, P9.out.symm, fun n i h => by rw [P10.out]; unfold storeF; rw [if_neg (by omega)]⟩)
      have HXQ : Hid (Bx (w8.setRow b11 qy) b11 31 qy) := Lib.hid (x11'.row qy)
      have HV2 := Lib.hid V2
      have OX9 := Lib.hid (OX7.out.below hb9)
      have HB9 := Lib.hid (HB7.out.trans (hb9.mono HB7.out.size))
      have d9 := (hb9.cell (p := ⟨g5, (n + 1) * 4 + 1, none⟩) l7).trans d1
      have l9 : g5 < (w8.setRow b11 qy).heap.size := Nat.lt_of_lt_of_le l7 hb9.size
      clear hf hV e8 e9 eb10 eb11 x10 x11' hz11 hi KR2 hsn V1 V2 hb9 hb8
      refine stB infoS1 b11 qy rfl rfl X11.out HZ11.out HZ2.out HN2.out ?_
      obtain ⟨w9, hw9⟩ : ∃ w9, w9 = w8.setRow b11 qy := ⟨_, rfl⟩
      rw [← hw9] at HPA HXQ HV2 OX9 HB9 d9 l9 ⊢
      clear hw9 Y10 X11 HZ11 HS1 HS2 HZ1 HZ2 HN1 HN2 SV1 SV2 CX7 HX7 OX7 LX7 HB7 c7 d0 d1 d2 l7 cp lo lq1 lq9 gc HCLO HRU2
      obtain ⟨B1, pa, fp, XP, VP, hrg, htg, hbt⟩ := HPA.out
      clear HPA
      have hl64 := pages_le f2.rg
      obtain ⟨va, ga, oa⟩ := VP.rg
      obtain ⟨vb, gb, ob⟩ := HV2.out.rg
      obtain ⟨pa1, ha1, qa⟩ := VP.pg
      obtain ⟨pb1, hb1, qb⟩ := HV2.out.pg
      rw [hrg] at oa qa
      obtain ⟨Aa, ca, rfl, _, _, ra⟩ := oa.row fR_len
      obtain ⟨Ab, cb, rfl, _, _, rb⟩ := ob.row fR_len
      have hlen : f2.rg.length ≤ 64 := by rw [P8.out]; exact rightL_len HRG.out
      have HEQ := Lib.hid (fun w' (hb : Below w9.heap.size w9 w') => equal_R Aa Ab f2.rg.length ca f2.rg.length cb f2.rg f2.rg w' _ (ra.on hb (Nat.le_refl _)) (rb.on hb (Nat.le_refl _)) (Nat.le_refl _) (by omega) (by omega))
      obtain ⟨Ap, np, cp, rfl⟩ := qa.slice
      obtain ⟨Aq, nq, cq, rfl⟩ := qb.slice
      have HQA := Lib.hid qa
      have HQB := Lib.hid qb
      have hnp : np = (pagesN f2.rg).length := by obtain ⟨xs', ho, hl, _⟩ := qa; rw [← hl]; exact (pg_cells ho).1
      have hnq : nq = (pagesN f2.rg).length := by obtain ⟨xs', ho, hl, _⟩ := qb; rw [← hl]; exact (pg_cells ho).1
      subst hnp hnq
      rw [show sameL eqR f2.rg f2.rg = true from sameL_refl (fun x => eqR_iff.2 rfl) f2.rg] at HEQ
      have e1 : w9.cell? ⟨b10, 1, none⟩ = some (.slice Aa f2.rg.length ca) := by rw [XP.cell]; simpa using ga
      have e2 : w9.cell? ⟨b10, 10, none⟩ = some (.slice Ap (pagesN f2.rg).length cp) := by rw [XP.cell]; simpa using ha1
      have e3 : w9.cell? ⟨b11, 1, none⟩ = some (.slice Ab f2.rg.length cb) := by rw [HXQ.out.cell]; simpa using gb
      have e4 : w9.cell? ⟨b11, 10, none⟩ = some (.slice Aq (pagesN f2.rg).length cq) := by rw [HXQ.out.cell]; simpa using hb1
      have k8 : w9.cell? ⟨w.heap.size, 8, none⟩ = some (.int .i64 o.addr) := by rw [OX9.out.cell]; exact HS8.out
      have k9 : w9.cell? ⟨w.heap.size, 9, none⟩ = some (.int .i64 o.size) := by rw [OX9.out.cell]; exact HS9.out
      have k10 : w9.cell? ⟨w.heap.size, 10, none⟩ = some (.int .i64 o.value) := by rw [OX9.out.cell]; exact HS10.out
      have l10 : b10 < w9.heap.size := XP.lt
      have l11 : b11 < w9.heap.size := HXQ.out.lt
      have lw : w.heap.size < w9.heap.size := OX9.out.lt
      have hva : I64 o.value := HFO.out.2.2.2.2.2.2.2.2.2.1
      have had : I64 o.addr := HFO.out.2.2.2.2.2.2.2.1
      have HTG0 := Lib.hid htg
      clear ra rb oa ob qa qb ga gb ha1 hb1 hrg htg HS0 HS1p HS8 HS9 HS10 HSA HLA HFS HFO HOF HBS HOZ HOY HO0 HO1 HO2 P8 P9 P10 XP VP HXQ HV2 OX9 HOA HRG HOK HSE5 LX5 CX5 OX5 HB5 HS HO HS5 HO5 HL1 HL2 HAS HAT hlen hB11
      generalize o.addr = ad at *
      generalize o.value = vl at *
      generalize o.size = sz at *
      have gc : ∀ (d : Nat) (os : Array Obj) (b o : Nat), b < w9.heap.size → (grow (redrawn w9 d) os).cell? ⟨b, o, none⟩ = w9.cell? ⟨b, o, none⟩ := fun d os b o h => (below_regrown _ d os).cell (p := ⟨b, o, none⟩) h
      have i1 : IntKind.i64.wrap ((n : Int) + 1) = (n : Int) + 1 := by rw [IntKind.wrap_i64]; omega
      have i2 : (0 : Int) ≤ (n : Int) + 1 := by omega
      have i3 : (n : Int) + 1 < ((n + 2 : Nat) : Int) := by omega
      obtain ⟨m, hm, sh, hsh, hsz⟩ := sh_law vl sz p3 p4
      rw [hm] at d9
      clear hm
      try simp only [Act.put]
      go_wp2
      try simp only [Act.put]
      refine wp_rel [Sp.call 30 (.bool true)] (by kernel_rfl) (by kernel_rfl) ?_
      intro V hV
      have e30 : V 30 = .bool true := hV 30
      iterate 12 (refine rq rfl rfl ?_; go_big_quiet_step (fail); refine wpQuiet_nil ?_)
      refine rf (.int .u64 sh) (by kernel_rfl) rfl (fun w' hb hf => by rcases hsz with ⟨rfl, rfl⟩ | ⟨rfl, rfl⟩ | ⟨rfl, rfl⟩ | ⟨rfl, rfl⟩ <;> (go_simp; rfl)) ?_
      go_big_quiet_step (fail); refine wpQuiet_nil ?_
      refine rf (.int .u64 ((IntKind.u64.wrap vl).tmod sh)) (by kernel_rfl) rfl (fun w' hb hf => by rcases hsz with ⟨rfl, rfl⟩ | ⟨rfl, rfl⟩ | ⟨rfl, rfl⟩ | ⟨rfl, rfl⟩ <;> go_simp) ?_
      go_big_quiet_step (fail); refine wpQuiet_nil ?_
      refine rq rfl rfl ?_; go_big_quiet_step (fail); refine wpQuiet_nil ?_
      refine rf (.bool false) (by kernel_rfl) rfl (fun w' hb hf => by go_simp) ?_
      go_big_quiet_step (fail); refine wpQuiet_nil ?_
      iterate 14 (refine rq rfl rfl ?_; go_big_quiet_step (fail); refine wpQuiet_nil ?_)
      refine rsp (Sp.call 30 (.bool true)) (by kernel_rfl) rfl (fun w' hb hf => ?_) ?_
      · refine becomes_known (f := 13) (args := #[.slice Aa f2.rg.length ca, .slice Ab f2.rg.length cb]) ?_ (HEQ.out w' hb)
        go_simp
      go_big_quiet_step (fail)
      refine wpQuiet_nil ?_
      simp only [e30]
      iterate 2 (refine rq rfl rfl ?_; go_big_quiet_step (fail); refine wpQuiet_nil ?_)
      refine rend ?_
      intro w10 hb10 hf
      clear hf hV e30
      have hsz10 := hb10.size
      have HA : Hid (∀ j, j < (pagesN f2.rg).length → ∃ x y m o1 f1' o2 f2', Ap = some ⟨o1, f1', none⟩ ∧ Aq = some ⟨o2, f2', none⟩ ∧ m < 64 ∧ ∀ w', Below w9.heap.size w9 w' → PgOk w' fp x m ∧ PgOk w' f2 y m ∧ (∀ j' u, (fG x)[j']? = some u → w'.cell? ⟨o1, f1' + j * 3 + j', none⟩ = some u) ∧ (∀ j' u, (fG y)[j']? = some u → w'.cell? ⟨o2, f2' + j * 3 + j', none⟩ = some u)) := Lib.hid (fun j hj => by
        obtain ⟨xs', ho, hl', hx⟩ := HQA.out
        obtain ⟨ys', po, pl, hy⟩ := HQB.out
        obtain ⟨x, hxk⟩ : ∃ x, xs'[j]? = some x := ⟨_, List.getElem?_eq_getElem (by omega)⟩
        obtain ⟨y, hyk⟩ : ∃ y, ys'[j]? = some y := ⟨_, List.getElem?_eq_getElem (by omega)⟩
        obtain ⟨mm, hmk⟩ : ∃ m, (pagesN f2.rg)[j]? = some m := ⟨_, List.getElem?_eq_getElem (by omega)⟩
        have r1 := (pg_cells ho).2
        have r2 := (pg_cells po).2
        obtain ⟨b1, f1', e1', _⟩ := r1.open (by omega)
        obtain ⟨b2, f2', e2', _⟩ := r2.open (by omega)
        subst e1' e2'
        refine ⟨x, y, mm, b1, f1', b2, f2', rfl, rfl, mem_pagesN hmk, fun w' hb => ?_⟩
        have k1 := KeepT.of (E := fun _ => True) hb
        exact ⟨(hx j x mm hxk hmk).keepT k1 trivial trivial, (hy j y mm hyk hmk).keepT k1 trivial trivial, (r1.on hb (Nat.le_refl _)).at_ fG_len hxk, (r2.on hb (Nat.le_refl _)).at_ fG_len hyk⟩)
      have HBT := Lib.hid hbt
      have HTG : Hid (fp.tg = f2.tg) := HTG0
      have HB10 := Lib.hid (hb10)
      have q2' : w10.cell? ⟨b10, 10, none⟩ = some (.slice Ap (pagesN f2.rg).length cp) := (hb10.cell (p := ⟨b10, 10, none⟩) l10).trans e2
      clear HQA HQB hbt HEQ
      generalize (pagesN f2.rg).length = np at *
      go_wp2
      go_loopw [132] (fun i wr => ∃ j : Nat, j ≤ np ∧ i = .int .i64 j ∧ Hid (Below w9.heap.size w9 wr)) (fun i _ => np - (intOf i).toNat)
      case atStart => exact ⟨0, by omega, rfl, HB10⟩
      case round =>
        obtain ⟨j, hj, rfl, HB⟩ := hrel
        by_cases hlt : j < np
        · obtain ⟨⟨xn, xb, xt⟩, ⟨yn, yb, yt⟩, mm, o1, fa, o2, fb, rfl, rfl, hm64, hw⟩ := HA.out j hlt
          obtain ⟨wo, hwo⟩ : ∃ wo, wo = wr := ⟨_, rfl⟩
          subst hwo
          obtain ⟨⟨hx1, hx2, hx3⟩, ⟨hy1, hy2, hy3⟩, hc1, hc2⟩ := hw wo HB.out
          simp only at hx1 hx2 hx3 hy1 hy2 hy3
          subst hx1 hy1
          obtain ⟨g4, c4, rfl⟩ := nb_slice hx2 (by simp [byteL])
          obtain ⟨g6, c6, rfl⟩ := nb_slice hy2 (by simp [byteL])
          obtain ⟨g5', c5', rfl⟩ := nb_slice hx3 (by simp [tagL])
          obtain ⟨g7, c7', rfl⟩ := nb_slice hy3 (by simp [tagL])
          rw [show (byteL fp mm).length = 64 from by simp [byteL], show (tagL fp mm).length = 4 from by simp [tagL], show (byteL f2 mm).length = 64 from by simp [byteL], show (tagL f2 mm).length = 4 from by simp [tagL]] at hw
          have HW : Hid (∀ w', Below w9.heap.size w9 w' → (w'.cell? ⟨b10, 10, none⟩ = some (.slice (some ⟨o1, fa, none⟩) np cp) ∧ w'.cell? ⟨b11, 10, none⟩ = some (.slice (some ⟨o2, fb, none⟩) np cq) ∧
              w'.cell? ⟨o1, fa + j * 3, none⟩ = some (.int .i64 mm) ∧ w'.cell? ⟨o1, fa + j * 3 + 1, none⟩ = some (.slice (some ⟨g4, 0, none⟩) 64 c4) ∧ w'.cell? ⟨o1, fa + j * 3 + 2, none⟩ = some (.slice (some ⟨g5', 0, none⟩) 4 c5') ∧
              w'.cell? ⟨o2, fb + j * 3, none⟩ = some (.int .i64 mm) ∧ w'.cell? ⟨o2, fb + j * 3 + 1, none⟩ = some (.slice (some ⟨g6, 0, none⟩) 64 c6) ∧ w'.cell? ⟨o2, fb + j * 3 + 2, none⟩ = some (.slice (some ⟨g7, 0, none⟩) 4 c7')) ∧
              (∀ q, q < 64 → w'.cell? ⟨g4, q, none⟩ = some (.int .u8 (fp.bt mm q)) ∧ w'.cell? ⟨g6, q, none⟩ = some (.int .u8 (f2.bt mm q))) ∧
              Row .i64 w' w'.heap.size (some ⟨g5', 0, none⟩) 4 (tagL f2 mm) ∧ Row .i64 w' w'.heap.size (some ⟨g7, 0, none⟩) 4 (tagL f2 mm)) := Lib.hid (fun w' hb => by
            obtain ⟨⟨_, k2, k3⟩, ⟨_, k5, k6⟩, k7, k8⟩ := hw w' hb
            refine ⟨⟨(hb.cell (p := ⟨b10, 10, none⟩) l10).trans e2, (hb.cell (p := ⟨b11, 10, none⟩) l11).trans e4, k7 0 _ rfl, k7 1 _ rfl, k7 2 _ rfl, k8 0 _ rfl, k8 1 _ rfl, k8 2 _ rfl⟩, fun q hq => ⟨?_, ?_⟩, ?_, nb_row k6⟩
            · have := nb_cells k2 q (by simp [byteL]; omega)
              rw [this]; simp [byteL, List.getD, hq]
            · have := nb_cells k5 q (by simp [byteL]; omega)
              rw [this]; simp [byteL, List.getD, hq]
            · have := nb_row k3
              unfold tagL at this ⊢
              rw [← HTG.out]; exact this)
          clear hw hx2 hx3 hy2 hy3 hc1 hc2
          obtain ⟨⟨r1, r2, r3, r4, r5, r6, r7, r8⟩, _, _, _⟩ := HW.out wo HB.out
          have HBT2 : Hid (∀ q : Nat, (((mm * 64 + q : Nat) : Int) < ad ∨ ad + sz ≤ (mm * 64 + q : Nat)) → fp.bt mm q = f2.bt mm q) := Lib.hid (fun q h => HBT.out mm q h)
          have L1 := lt_of_cell r1
          have L2 := lt_of_cell r2
          have L3 := lt_of_cell r3
          have L4 := lt_of_cell r6
          have hB1 := HB.out.size
          go_wp2
          go_loopw [142] (fun i wr => ∃ q : Nat, q ≤ 64 ∧ i = .int .i64 q ∧ Hid (Below w9.heap.size w9 wr)) (fun i _ => 64 - (intOf i).toNat)
          case atStart => exact ⟨0, by omega, rfl, HB⟩
          case round =>
            obtain ⟨q, hq, rfl, HBi⟩ := hrel
            obtain ⟨⟨r1, r2, r3, r4, r5, r6, r7, r8⟩, hby, hr5, hr7⟩ := HW.out wr HBi.out
            have s8 : wr.cell? ⟨w.heap.size, 8, none⟩ = some (.int .i64 ad) := (HBi.out.cell (p := ⟨w.heap.size, 8, none⟩) lw).trans k8
            have s9 : wr.cell? ⟨w.heap.size, 9, none⟩ = some (.int .i64 sz) := (HBi.out.cell (p := ⟨w.heap.size, 9, none⟩) lw).trans k9
            have L5 := lt_of_cell s8
            have L1 := lt_of_cell r1
            have L2 := lt_of_cell r2
            have L3 := lt_of_cell r3
            have L4 := lt_of_cell r6
            by_cases hlq : q < 64
            · obtain ⟨y1, y2⟩ := hby q hlq
              have hbq := HBT2.out q
              clear hby hr5 hr7
              generalize fp.bt mm q = u1 at *
              generalize f2.bt mm q = u2 at *
              have hqi : (q : Int) < 64 := by omega
              have hmi : (mm : Int) < 64 := by omega
              have v1 : IntKind.i64.wrap (ad + sz) = ad + sz := by rw [IntKind.wrap_i64]; omega
              by_cases ca : (mm : Int) * 64 + (q : Int) < ad
              · have hu := hbq (.inl (by omega))
                subst hu
                clear hbq
                go_wp2
                go_quiet (fail)
                go_wp2
                go_roundw
                case rel => exact ⟨q + 1, by omega, by go_num, Lib.hid (HBi.out.trans (below_drewN _ _ _))⟩
                case measure => simp [intOf]; omega
              · by_cases cb : ad + sz ≤ (mm : Int) * 64 + (q : Int)
                · have hu := hbq (.inr (by omega))
                  subst hu
                  clear hbq
                  go_wp2
                  go_quiet (fail)
                  go_wp2
                  go_roundw
                  case rel => exact ⟨q + 1, by omega, by go_num, Lib.hid (HBi.out.trans (below_drewN _ _ _))⟩
                  case measure => simp [intOf]; omega
                · clear hbq
                  have cc : decide (ad + sz ≤ (mm : Int) * 64 + (q : Int)) = false := by simpa using cb
                  have cd : decide ((mm : Int) * 64 + (q : Int) < ad) = false := by simpa using ca
                  go_wp2
                  refine wp_region_quiet_lit (by kernel_rfl) (by kernel_rfl) ?_
                  repeat (go_big_quiet_step (fail))
                  refine wpQuiet_nil ?_
                  intro _ hw'
                  obtain ⟨nq, hw''⟩ := hw'
                  subst hw''
                  go_wp2
                  go_roundw
                  case rel => exact ⟨q + 1, by omega, by go_num, Lib.hid (HBi.out.trans (below_drewN _ _ _))⟩
                  case measure => simp [intOf]; omega
            · have hlq' : ¬ ((q : Int) < 64) := by omega
              have HEI := Lib.hid (fun w' (hb : Below wr.heap.size wr w') => equalI_same (some ⟨g5', 0, none⟩) (some ⟨g7, 0, none⟩) 4 c5' c7' (tagL f2 mm) w' _ (hr5.below hb) (hr7.below hb) (by decide))
              clear hby hr5 hr7
              have gc : ∀ (d : Nat) (os : Array Obj) (b o : Nat), b < wr.heap.size → (grow (redrawn wr d) os).cell? ⟨b, o, none⟩ = wr.cell? ⟨b, o, none⟩ := fun d os b o h => (below_regrown _ d os).cell (p := ⟨b, o, none⟩) h
              have j1 : (0 : Int) ≤ (j : Int) := by omega
              have j2 : (j : Int) < (np : Int) := by omega
              go_wp2
              refine wp_rel [Sp.call 12 (.bool true)] (by kernel_rfl) (by kernel_rfl) ?_
              intro V hV
              have e12 : V 12 = .bool true := hV 12
              iterate 12 (refine rq rfl rfl ?_; go_big_quiet_step (fail); refine wpQuiet_nil ?_)
              refine rsp (Sp.call 12 (.bool true)) (by kernel_rfl) rfl (fun w' hb hf => ?_) ?_
              · refine becomes_known (f := 14) (args := #[.slice (some ⟨g5', 0, none⟩) 4 c5', .slice (some ⟨g7, 0, none⟩) 4 c7']) ?_ (HEI.out w' hb)
                go_simp
              go_big_quiet_step (fail)
              refine wpQuiet_nil ?_
              simp only [e12]
              refine rq rfl rfl ?_; go_big_quiet_step (fail); refine wpQuiet_nil ?_
              refine rend ?_
              intro w11 hb11 hf
              clear hf hV e12
              go_wp2
              go_roundw
              case rel => exact ⟨j + 1, by omega, by go_num, Lib.hid (HBi.out.trans (hb11.mono HBi.out.size))⟩
              case measure => simp [intOf]; omega
        · go_wp2
          go_ret
          exact ⟨ret_b rfl, HB9.out.trans (HB.out.mono HB9.out.size)⟩
    · obtain ⟨h8, h23⟩ := p6 hl
      rw [h8] at d0
      clear p6 p7 p8 p9 p10
      rcases h23 with h | h
      · rw [h] at d2
        go_wp2
        go_ret
        exact ⟨ret_b rfl, HB7.out⟩
      · rw [h] at d2
        go_wp2
        go_ret
        exact ⟨ret_b rfl, HB7.out⟩
  · clear HPL'
    have hne : (aS.err != 0) = true := by rw [bne_iff_ne]; exact he
    go_wp2
    go_ret
    exact ⟨ret_b rfl, HB7.out⟩
end Go.Proofs.Ytglnnplijienbaa
