/- Several texts in one: Fli, Flj. -/
import Derived.Test.YtglnnplijienbaaM29
import Derived.Test.YtglnnplijienbaaCRegT
/- flat.Hold. -/
namespace Go.Proofs.Ytglnnplijienbaa
open Go.ChangeShapes Go.WideShapes Go.ChangeAt Go.RowKit Go.Joins
set_option linter.unusedVariables false
set_option linter.unusedSimpArgs false
set_option maxRecDepth 100000
def kA (K : Key4) : Array Value := #[.bool K.t0, .int .i64 K.d0, .bool K.t1, .int .i64 K.d1, .bool K.t2, .int .i64 K.d2, .bool K.t3, .int .i64 K.d3]
theorem kA_one (K : Key4) : (kA K).all (·.oneCell') = true := by simp [kA, Value.oneCell']
theorem run_keyv {w : World} {g : Nat} {K : Key4} (h : Bx w g 28 (kA K)) : (loadVar 28 ⟨g, 0, none⟩).run Try.prog w = .ok K.v w :=
  run_ldv Try.underlying28 rfl infoKs h (Sub.all _) rfl
def GivesHK (w : World) (r : Key4 × Fan) (e : Ending) (w' : World) : Prop := e = .returned (.tuple #[r.1.v, r.2.v]) ∧ Below w.heap.size w w'
section
variable {P : Program} {dst : Option Tmp} {x : Operand} {T type : TypeId} {pos : String} {after : Array Edge} {guard : Option (Nat × Bool)} {a : Act} {w : World} {u v : Value}
theorem ex_ld (hx : a.eval x = u) (h : (Instr.loadAt T u).run P w = .ok v w) : (execOp a.eval ⟨dst, .load T x, type, pos, after, guard⟩).run P w = .ok (.value v) w := by
  unfold execOp
  simp only [hx, Sem.run_bind, h, Result.andThen_ok, Sem.run_pure]
end
theorem results_cell_cell {fn : Func} {p q : Tmp} {ty ty' : TypeId} (h : fn.results = #[.cell p ty, .cell q ty']) (tmps : Array Value) (P : Program) (w : World) :
    (results fn tmps).run P w = ((asAddr (tmps.getD p undef)).run P w).andThen fun a w₁ => ((loadVar ty a).run P w₁).andThen fun v w₂ => ((asAddr (tmps.getD q undef)).run P w₂).andThen fun a' w₃ => ((loadVar ty' a').run P w₃).andThen fun v' w₄ => .ok (.tuple #[v, v']) w₄ := by
  simp only [results, h]
  simp [Sem.run_bind, Result.andThen]
set_option maxHeartbeats 16000000 in
theorem hold5 {w : World} {v : Value} {l : List Rgn} (h : Rv w v l) (K : Key4) (o : Fop) (ho : o.fits) (hkd : o.kind = 5) :
    Calls Try.prog 36 #[v, K.v, o.v] w (GivesHK w (holdF l K o)) := by
  obtain ⟨k, pr, pg, cn, ri, ke, tgd, dr, ad, sz, va, ta⟩ := o
  obtain ⟨t0, d0, t1, d1, t2, d2, t3, d3⟩ := K
  simp only at hkd
  subst hkd
  unfold Fop.fits I64 at ho
  simp only at ho
  obtain ⟨fk, fp, fpg, fc, fri, fke, fdr, fad, fsz, fva, fta⟩ := ho
  simp only [Fop.v, Key4.v]
  have HFA := Lib.hid (fun (e : Int) (W : World) => fails_any e W)
  have HE1 : Hid ((w.alloc (.cells #[.bool t0, .int .i64 d0, .bool t1, .int .i64 d1, .bool t2, .int .i64 d2, .bool t3, .int .i64 d3] 28)).heap.size = w.heap.size + 1) := Lib.hid (by simp)
  have HE2 : Hid (((w.alloc (.cells #[.bool t0, .int .i64 d0, .bool t1, .int .i64 d1, .bool t2, .int .i64 d2, .bool t3, .int .i64 d3] 28)).alloc (.cells #[.int .i64 5, .int .i64 pr, .int .i64 pg, .int .i64 cn, .int .i64 ri, .int .i64 ke, .bool tgd, .int .i64 dr, .int .i64 ad, .int .i64 sz, .int .i64 va, .int .i64 ta] 43)).heap.size = w.heap.size + 1 + 1) := Lib.hid (by simp)
  have HE3 : Hid ((((w.alloc (.cells #[.bool t0, .int .i64 d0, .bool t1, .int .i64 d1, .bool t2, .int .i64 d2, .bool t3, .int .i64 d3] 28)).alloc (.cells #[.int .i64 5, .int .i64 pr, .int .i64 pg, .int .i64 cn, .int .i64 ri, .int .i64 ke, .bool tgd, .int .i64 dr, .int .i64 ad, .int .i64 sz, .int .i64 va, .int .i64 ta] 43)).alloc (.cells #[.bool false, .int .i64 0, .bool false, .int .i64 0, .bool false, .int .i64 0, .bool false, .int .i64 0] 28)).heap.size = w.heap.size + 1 + 1 + 1) := Lib.hid (by simp)
  have HW4 : Hid (Below w.heap.size w ((((w.alloc (.cells #[.bool t0, .int .i64 d0, .bool t1, .int .i64 d1, .bool t2, .int .i64 d2, .bool t3, .int .i64 d3] 28)).alloc (.cells #[.int .i64 5, .int .i64 pr, .int .i64 pg, .int .i64 cn, .int .i64 ri, .int .i64 ke, .bool tgd, .int .i64 dr, .int .i64 ad, .int .i64 sz, .int .i64 va, .int .i64 ta] 43)).alloc (.cells #[.bool false, .int .i64 0, .bool false, .int .i64 0, .bool false, .int .i64 0, .bool false, .int .i64 0] 28)).alloc (.cells #[.int .i64 0, .int .i64 0, .int .i64 0, .int .i64 0] 47))) := Lib.hid (((((Below.refl _ _).alloc (Nat.le_refl _) _).alloc (by simp) _).alloc (by simp; omega) _).alloc (by simp; omega) _)
  have HO4 : Hid (Bx ((((w.alloc (.cells #[.bool t0, .int .i64 d0, .bool t1, .int .i64 d1, .bool t2, .int .i64 d2, .bool t3, .int .i64 d3] 28)).alloc (.cells #[.int .i64 5, .int .i64 pr, .int .i64 pg, .int .i64 cn, .int .i64 ri, .int .i64 ke, .bool tgd, .int .i64 dr, .int .i64 ad, .int .i64 sz, .int .i64 va, .int .i64 ta] 43)).alloc (.cells #[.bool false, .int .i64 0, .bool false, .int .i64 0, .bool false, .int .i64 0, .bool false, .int .i64 0] 28)).alloc (.cells #[.int .i64 0, .int .i64 0, .int .i64 0, .int .i64 0] 47)) (w.heap.size + 1) 43 #[.int .i64 5, .int .i64 pr, .int .i64 pg, .int .i64 cn, .int .i64 ri, .int .i64 ke, .bool tgd, .int .i64 dr, .int .i64 ad, .int .i64 sz, .int .i64 va, .int .i64 ta]) := Lib.hid (by rw [← HE1.out]; exact ((Bx.new _ _ _).below (below1 _ _)).below (below1 _ _))
  have HZ4 : Hid (Bx ((((w.alloc (.cells #[.bool t0, .int .i64 d0, .bool t1, .int .i64 d1, .bool t2, .int .i64 d2, .bool t3, .int .i64 d3] 28)).alloc (.cells #[.int .i64 5, .int .i64 pr, .int .i64 pg, .int .i64 cn, .int .i64 ri, .int .i64 ke, .bool tgd, .int .i64 dr, .int .i64 ad, .int .i64 sz, .int .i64 va, .int .i64 ta] 43)).alloc (.cells #[.bool false, .int .i64 0, .bool false, .int .i64 0, .bool false, .int .i64 0, .bool false, .int .i64 0] 28)).alloc (.cells #[.int .i64 0, .int .i64 0, .int .i64 0, .int .i64 0] 47)) (w.heap.size + 1 + 1) 28 #[.bool false, .int .i64 0, .bool false, .int .i64 0, .bool false, .int .i64 0, .bool false, .int .i64 0]) := Lib.hid (by rw [← HE2.out]; exact (Bx.new _ _ _).below (below1 _ _))
  have HX4 : Hid (Bx ((((w.alloc (.cells #[.bool t0, .int .i64 d0, .bool t1, .int .i64 d1, .bool t2, .int .i64 d2, .bool t3, .int .i64 d3] 28)).alloc (.cells #[.int .i64 5, .int .i64 pr, .int .i64 pg, .int .i64 cn, .int .i64 ri, .int .i64 ke, .bool tgd, .int .i64 dr, .int .i64 ad, .int .i64 sz, .int .i64 va, .int .i64 ta] 43)).alloc (.cells #[.bool false, .int .i64 0, .bool false, .int .i64 0, .bool false, .int .i64 0, .bool false, .int .i64 0] 28)).alloc (.cells #[.int .i64 0, .int .i64 0, .int .i64 0, .int .i64 0] 47)) (w.heap.size + 1 + 1 + 1) 47 #[.int .i64 0, .int .i64 0, .int .i64 0, .int .i64 0]) := Lib.hid (by rw [← HE3.out]; exact Bx.new _ _ _)
  have HV := Lib.hid h
  have HNW := Lib.hid (fun W => keysNew_any (Key4.mk t0 d0 t1 d1 t2 d2 t3 d3) W)
  have HRES : Hid (holdF l (Key4.mk t0 d0 t1 d1 t2 d2 t3 d3) ⟨5, pr, pg, cn, ri, ke, tgd, dr, ad, sz, va, ta⟩ = (new4 (Key4.mk t0 d0 t1 d1 t2 d2 t3 d3), ⟨new4E (Key4.mk t0 d0 t1 d1 t2 d2 t3 d3), new4K (Key4.mk t0 d0 t1 d1 t2 d2 t3 d3), 0, 0⟩)) := Lib.hid rfl
  simp only [Key4.v] at HNW
  have HNW2 : Hid (∀ W, Calls Try.prog 48 #[.agg #[.bool t0, .int .i64 d0, .bool t1, .int .i64 d1, .bool t2, .int .i64 d2, .bool t3, .int .i64 d3]] W fun e w' => e = .returned (.tuple #[.agg (kA (new4 (Key4.mk t0 d0 t1 d1 t2 d2 t3 d3))), .int .i64 (new4K (Key4.mk t0 d0 t1 d1 t2 d2 t3 d3)), .int .i64 (new4E (Key4.mk t0 d0 t1 d1 t2 d2 t3 d3))]) ∧ Below W.heap.size W w') := HNW
  clear HNW
  generalize holdF l (Key4.mk t0 d0 t1 d1 t2 d2 t3 d3) ⟨5, pr, pg, cn, ri, ke, tgd, dr, ad, sz, va, ta⟩ = rs at *
  generalize new4E (Key4.mk t0 d0 t1 d1 t2 d2 t3 d3) = nE at *
  generalize new4K (Key4.mk t0 d0 t1 d1 t2 d2 t3 d3) = nK at *
  generalize new4 (Key4.mk t0 d0 t1 d1 t2 d2 t3 d3) = nk at *
  go_enter Try.func36, Try.ntmps36
  go_wp2_with (first
    | (go_at_call 48
       refine (HNW2.out _).mono ?_
       rintro e w5 ⟨rfl, hb5⟩
       have Z5 := Lib.hid (HZ4.out.below hb5)
       have X5 := Lib.hid (HX4.out.below hb5)
       have O5 := Lib.hid (HO4.out.below hb5)
       have K5 := Lib.hid (HW4.out.trans (hb5.mono HW4.out.size))
       have hz5 : w.heap.size + 1 + 1 + 1 < w5.heap.size := X5.out.lt
       clear hb5)
    | ((with_reducible refine stN infoKs (kA nk) ?_ ?_ rfl rfl (kA_one _) ?_); rfl; rfl)
    | ((with_reducible refine ldB Try.underlying28 rfl infoKs w5.heap.size 0 (kA nk) ?_ ?_ (Bx.new _ _ _) (Sub.all _) rfl ?_); rfl; rfl)
    | ((with_reducible refine stB infoKs (w.heap.size + 1 + 1) (kA nk) ?_ ?_ (Z5.out.below (below1 _ _)) rfl rfl (kA_one _) ?_); rfl; rfl)
    | ((with_reducible refine stB infoN (w.heap.size + 1 + 1 + 1) (nA ⟨nE, nK, 0, 0⟩) ?_ ?_ ((X5.out.below (below1 _ _)).orow (by omega) _) rfl rfl (nA_one _) ?_); rfl; rfl))
  try simp only [Exit.inBlock, Exit.then]
  refine bodyPost_ret (v := .tuple #[.agg (kA nk), (⟨nE, nK, 0, 0⟩ : Fan).v]) ?_ rfl ?_
  rotate_left
  · refine ⟨by rw [HRES.out]; rfl, ?_⟩
    exact below_setRow (below_setRow (K5.out.trans ((below1 _ _).mono K5.out.size)) (by omega) _) (by omega) _
  · rw [results_cell_cell rfl]
    have hk := run_keyv (K := nk) (((Z5.out.below (below1 w5 (.cells (kA nk) 28))).row (kA nk)).orow (q := w.heap.size + 1 + 1 + 1) (by omega) (nA ⟨nE, nK, 0, 0⟩))
    have ha := run_ansv (a := ⟨nE, nK, 0, 0⟩) (((X5.out.below (below1 w5 (.cells (kA nk) 28))).orow (q := w.heap.size + 1 + 1) (by omega) (kA nk)).row (nA ⟨nE, nK, 0, 0⟩))
    simp [asAddr, Result.andThen, Act.put, hk, ha]
    rfl
set_option maxHeartbeats 16000000 in
theorem hold7 {w : World} {v : Value} {l : List Rgn} (h : Rv w v l) (K : Key4) (o : Fop) (ho : o.fits) (hkd : o.kind ≠ 5 ∧ o.kind ≠ 6) :
    Calls Try.prog 36 #[v, K.v, o.v] w (GivesHK w (holdF l K o)) := by
  obtain ⟨k, pr, pg, cn, ri, ke, tgd, dr, ad, sz, va, ta⟩ := o
  obtain ⟨t0, d0, t1, d1, t2, d2, t3, d3⟩ := K
  simp only at hkd
  unfold Fop.fits I64 at ho
  simp only at ho
  obtain ⟨fk, fp, fpg, fc, fri, fke, fdr, fad, fsz, fva, fta⟩ := ho
  simp only [Fop.v, Key4.v]
  have HFA := Lib.hid (fun (e : Int) (W : World) => fails_any e W)
  have HE1 : Hid ((w.alloc (.cells #[.bool t0, .int .i64 d0, .bool t1, .int .i64 d1, .bool t2, .int .i64 d2, .bool t3, .int .i64 d3] 28)).heap.size = w.heap.size + 1) := Lib.hid (by simp)
  have HE2 : Hid (((w.alloc (.cells #[.bool t0, .int .i64 d0, .bool t1, .int .i64 d1, .bool t2, .int .i64 d2, .bool t3, .int .i64 d3] 28)).alloc (.cells #[.int .i64 k, .int .i64 pr, .int .i64 pg, .int .i64 cn, .int .i64 ri, .int .i64 ke, .bool tgd, .int .i64 dr, .int .i64 ad, .int .i64 sz, .int .i64 va, .int .i64 ta] 43)).heap.size = w.heap.size + 1 + 1) := Lib.hid (by simp)
  have HE3 : Hid ((((w.alloc (.cells #[.bool t0, .int .i64 d0, .bool t1, .int .i64 d1, .bool t2, .int .i64 d2, .bool t3, .int .i64 d3] 28)).alloc (.cells #[.int .i64 k, .int .i64 pr, .int .i64 pg, .int .i64 cn, .int .i64 ri, .int .i64 ke, .bool tgd, .int .i64 dr, .int .i64 ad, .int .i64 sz, .int .i64 va, .int .i64 ta] 43)).alloc (.cells #[.bool false, .int .i64 0, .bool false, .int .i64 0, .bool false, .int .i64 0, .bool false, .int .i64 0] 28)).heap.size = w.heap.size + 1 + 1 + 1) := Lib.hid (by simp)
  have HW4 : Hid (Below w.heap.size w ((((w.alloc (.cells #[.bool t0, .int .i64 d0, .bool t1, .int .i64 d1, .bool t2, .int .i64 d2, .bool t3, .int .i64 d3] 28)).alloc (.cells #[.int .i64 k, .int .i64 pr, .int .i64 pg, .int .i64 cn, .int .i64 ri, .int .i64 ke, .bool tgd, .int .i64 dr, .int .i64 ad, .int .i64 sz, .int .i64 va, .int .i64 ta] 43)).alloc (.cells #[.bool false, .int .i64 0, .bool false, .int .i64 0, .bool false, .int .i64 0, .bool false, .int .i64 0] 28)).alloc (.cells #[.int .i64 0, .int .i64 0, .int .i64 0, .int .i64 0] 47))) := Lib.hid (((((Below.refl _ _).alloc (Nat.le_refl _) _).alloc (by simp) _).alloc (by simp; omega) _).alloc (by simp; omega) _)
  have HO4 : Hid (Bx ((((w.alloc (.cells #[.bool t0, .int .i64 d0, .bool t1, .int .i64 d1, .bool t2, .int .i64 d2, .bool t3, .int .i64 d3] 28)).alloc (.cells #[.int .i64 k, .int .i64 pr, .int .i64 pg, .int .i64 cn, .int .i64 ri, .int .i64 ke, .bool tgd, .int .i64 dr, .int .i64 ad, .int .i64 sz, .int .i64 va, .int .i64 ta] 43)).alloc (.cells #[.bool false, .int .i64 0, .bool false, .int .i64 0, .bool false, .int .i64 0, .bool false, .int .i64 0] 28)).alloc (.cells #[.int .i64 0, .int .i64 0, .int .i64 0, .int .i64 0] 47)) (w.heap.size + 1) 43 #[.int .i64 k, .int .i64 pr, .int .i64 pg, .int .i64 cn, .int .i64 ri, .int .i64 ke, .bool tgd, .int .i64 dr, .int .i64 ad, .int .i64 sz, .int .i64 va, .int .i64 ta]) := Lib.hid (by rw [← HE1.out]; exact ((Bx.new _ _ _).below (below1 _ _)).below (below1 _ _))
  have HZ4 : Hid (Bx ((((w.alloc (.cells #[.bool t0, .int .i64 d0, .bool t1, .int .i64 d1, .bool t2, .int .i64 d2, .bool t3, .int .i64 d3] 28)).alloc (.cells #[.int .i64 k, .int .i64 pr, .int .i64 pg, .int .i64 cn, .int .i64 ri, .int .i64 ke, .bool tgd, .int .i64 dr, .int .i64 ad, .int .i64 sz, .int .i64 va, .int .i64 ta] 43)).alloc (.cells #[.bool false, .int .i64 0, .bool false, .int .i64 0, .bool false, .int .i64 0, .bool false, .int .i64 0] 28)).alloc (.cells #[.int .i64 0, .int .i64 0, .int .i64 0, .int .i64 0] 47)) (w.heap.size + 1 + 1) 28 #[.bool false, .int .i64 0, .bool false, .int .i64 0, .bool false, .int .i64 0, .bool false, .int .i64 0]) := Lib.hid (by rw [← HE2.out]; exact (Bx.new _ _ _).below (below1 _ _))
  have HX4 : Hid (Bx ((((w.alloc (.cells #[.bool t0, .int .i64 d0, .bool t1, .int .i64 d1, .bool t2, .int .i64 d2, .bool t3, .int .i64 d3] 28)).alloc (.cells #[.int .i64 k, .int .i64 pr, .int .i64 pg, .int .i64 cn, .int .i64 ri, .int .i64 ke, .bool tgd, .int .i64 dr, .int .i64 ad, .int .i64 sz, .int .i64 va, .int .i64 ta] 43)).alloc (.cells #[.bool false, .int .i64 0, .bool false, .int .i64 0, .bool false, .int .i64 0, .bool false, .int .i64 0] 28)).alloc (.cells #[.int .i64 0, .int .i64 0, .int .i64 0, .int .i64 0] 47)) (w.heap.size + 1 + 1 + 1) 47 #[.int .i64 0, .int .i64 0, .int .i64 0, .int .i64 0]) := Lib.hid (by rw [← HE3.out]; exact Bx.new _ _ _)
  have HV := Lib.hid h
  have HNW := Lib.hid (fun W => keysSet_any (Key4.mk t0 d0 t1 d1 t2 d2 t3 d3) ke ri W)
  have HRES : Hid (holdF l (Key4.mk t0 d0 t1 d1 t2 d2 t3 d3) ⟨k, pr, pg, cn, ri, ke, tgd, dr, ad, sz, va, ta⟩ = (chg4 (Key4.mk t0 d0 t1 d1 t2 d2 t3 d3) ke 0 true ri, failA (chg4E (Key4.mk t0 d0 t1 d1 t2 d2 t3 d3) ke 0 ri))) := Lib.hid (by unfold holdF; rw [if_neg hkd.1, if_neg hkd.2])
  have hk5 : (k == 5) = false := by rw [beq_eq_false_iff_ne]; exact hkd.1
  have hk6 : (k == 6) = false := by rw [beq_eq_false_iff_ne]; exact hkd.2
  simp only [Key4.v] at HNW
  have HNW2 : Hid (∀ W, Calls Try.prog 51 #[.agg #[.bool t0, .int .i64 d0, .bool t1, .int .i64 d1, .bool t2, .int .i64 d2, .bool t3, .int .i64 d3], .int .i64 ke, .int .i64 ri] W fun e w' => e = .returned (.tuple #[.agg (kA (chg4 (Key4.mk t0 d0 t1 d1 t2 d2 t3 d3) ke 0 true ri)), .int .i64 (chg4E (Key4.mk t0 d0 t1 d1 t2 d2 t3 d3) ke 0 ri)]) ∧ Below W.heap.size W w') := HNW
  clear HNW
  generalize holdF l (Key4.mk t0 d0 t1 d1 t2 d2 t3 d3) ⟨k, pr, pg, cn, ri, ke, tgd, dr, ad, sz, va, ta⟩ = rs at *
  generalize chg4E (Key4.mk t0 d0 t1 d1 t2 d2 t3 d3) ke 0 ri = nE at *
  generalize chg4 (Key4.mk t0 d0 t1 d1 t2 d2 t3 d3) ke 0 true ri = nk at *
  go_enter Try.func36, Try.ntmps36
  go_wp2_with (first
    | (go_at_call 51
       refine (HNW2.out _).mono ?_
       rintro e w5 ⟨rfl, hb5⟩
       have Z5 := Lib.hid (HZ4.out.below hb5)
       have X5 := Lib.hid (HX4.out.below hb5)
       have O5 := Lib.hid (HO4.out.below hb5)
       have K5 := Lib.hid (HW4.out.trans (hb5.mono HW4.out.size))
       have hz5 : w.heap.size + 1 + 1 + 1 < w5.heap.size := X5.out.lt
       clear hb5)
    | ((with_reducible refine stN infoKs (kA nk) ?_ ?_ rfl rfl (kA_one _) ?_); rfl; rfl))
  refine wp_region_rel_tail 3 [Sp.call 2 (failA nE).v] (by kernel_rfl) (by kernel_rfl) (by kernel_rfl) ?_
  intro V hV
  have e2 : V 2 = (failA nE).v := hV 2
  simp only [List.take_succ_cons, List.take_zero, List.drop_succ_cons, List.drop_zero]
  have BX : Hid (Bx (w5.alloc (.cells (kA nk) 28)) w5.heap.size 28 (kA nk)) := Lib.hid (Bx.new _ _ _)
  refine rel_fact (.agg (kA nk)) (by kernel_rfl) rfl (fun w' hb hf => ex_ld rfl (run_ld Try.underlying28 rfl infoKs (BX.out.below hb) (Sub.all _) rfl)) ?_
  go_big_quiet_step (fail)
  refine wpQuiet_nil ?_
  repeat (refine rel_quiet rfl rfl ?_; go_big_quiet_step (fail); refine wpQuiet_nil ?_)
  refine rel_special (Sp.call 2 (failA nE).v) (by kernel_rfl) rfl (fun w' hb hf => ?_) ?_
  · refine becomes_call (f := 31) (args := #[.int .i64 nE]) ?_ ((HFA.out nE w').mono ?_)
    · go_simp
    · rintro e w'' ⟨rfl, hb⟩
      exact ⟨_, rfl, hb, rfl, trivial⟩
  go_big_quiet_step (fail)
  refine wpQuiet_nil ?_
  simp only [e2]
  intro w3 hb3 hf
  clear hf
  have Z6 := Lib.hid ((Z5.out.below (below1 w5 (.cells (kA nk) 28))).below hb3)
  have X6 := Lib.hid ((X5.out.below (below1 w5 (.cells (kA nk) 28))).below hb3)
  have K6 := Lib.hid ((K5.out.trans ((below1 w5 (.cells (kA nk) 28)).mono K5.out.size)).trans (hb3.mono (by simp; omega)))
  clear hb3
  refine stB infoKs (w.heap.size + 1 + 1) (kA nk) rfl rfl Z6.out rfl rfl (kA_one _) ?_
  refine stB infoN (w.heap.size + 1 + 1 + 1) (nA (failA nE)) rfl rfl (X6.out.orow (by omega) _) rfl rfl (nA_one _) ?_
  go_wp2
  try simp only [Exit.inBlock, Exit.then]
  refine bodyPost_ret (v := .tuple #[.agg (kA nk), ((failA nE) : Fan).v]) ?_ rfl ?_
  rotate_left
  · refine ⟨by rw [HRES.out]; rfl, ?_⟩
    exact below_setRow (below_setRow K6.out (by omega) _) (by omega) _
  · rw [results_cell_cell rfl]
    have hk := run_keyv (K := nk) ((Z6.out.row (kA nk)).orow (q := w.heap.size + 1 + 1 + 1) (by omega) (nA (failA nE)))
    have ha := run_ansv (a := (failA nE)) ((X6.out.orow (q := w.heap.size + 1 + 1) (by omega) (kA nk)).row (nA (failA nE)))
    simp [asAddr, Result.andThen, Act.put, hk, ha]
    rfl
set_option maxHeartbeats 16000000 in
theorem hold6 {w : World} {v : Value} {l : List Rgn} (h : Rv w v l) (K : Key4) (o : Fop) (ho : o.fits) (hkd : o.kind = 6) :
    Calls Try.prog 36 #[v, K.v, o.v] w (GivesHK w (holdF l K o)) := by
  obtain ⟨k, pr, pg, cn, ri, ke, tgd, dr, ad, sz, va, ta⟩ := o
  obtain ⟨t0, d0, t1, d1, t2, d2, t3, d3⟩ := K
  simp only at hkd
  subst hkd
  unfold Fop.fits I64 at ho
  simp only at ho
  obtain ⟨fk, fp, fpg, fc, fri, fke, fdr, fad, fsz, fva, fta⟩ := ho
  simp only [Fop.v, Key4.v]
  have HFA := Lib.hid (fun (e : Int) (W : World) => fails_any e W)
  have HE1 : Hid ((w.alloc (.cells #[.bool t0, .int .i64 d0, .bool t1, .int .i64 d1, .bool t2, .int .i64 d2, .bool t3, .int .i64 d3] 28)).heap.size = w.heap.size + 1) := Lib.hid (by simp)
  have HE2 : Hid (((w.alloc (.cells #[.bool t0, .int .i64 d0, .bool t1, .int .i64 d1, .bool t2, .int .i64 d2, .bool t3, .int .i64 d3] 28)).alloc (.cells #[.int .i64 6, .int .i64 pr, .int .i64 pg, .int .i64 cn, .int .i64 ri, .int .i64 ke, .bool tgd, .int .i64 dr, .int .i64 ad, .int .i64 sz, .int .i64 va, .int .i64 ta] 43)).heap.size = w.heap.size + 1 + 1) := Lib.hid (by simp)
  have HE3 : Hid ((((w.alloc (.cells #[.bool t0, .int .i64 d0, .bool t1, .int .i64 d1, .bool t2, .int .i64 d2, .bool t3, .int .i64 d3] 28)).alloc (.cells #[.int .i64 6, .int .i64 pr, .int .i64 pg, .int .i64 cn, .int .i64 ri, .int .i64 ke, .bool tgd, .int .i64 dr, .int .i64 ad, .int .i64 sz, .int .i64 va, .int .i64 ta] 43)).alloc (.cells #[.bool false, .int .i64 0, .bool false, .int .i64 0, .bool false, .int .i64 0, .bool false, .int .i64 0] 28)).heap.size = w.heap.size + 1 + 1 + 1) := Lib.hid (by simp)
  have HW4 : Hid (Below w.heap.size w ((((w.alloc (.cells #[.bool t0, .int .i64 d0, .bool t1, .int .i64 d1, .bool t2, .int .i64 d2, .bool t3, .int .i64 d3] 28)).alloc (.cells #[.int .i64 6, .int .i64 pr, .int .i64 pg, .int .i64 cn, .int .i64 ri, .int .i64 ke, .bool tgd, .int .i64 dr, .int .i64 ad, .int .i64 sz, .int .i64 va, .int .i64 ta] 43)).alloc (.cells #[.bool false, .int .i64 0, .bool false, .int .i64 0, .bool false, .int .i64 0, .bool false, .int .i64 0] 28)).alloc (.cells #[.int .i64 0, .int .i64 0, .int .i64 0, .int .i64 0] 47))) := Lib.hid (((((Below.refl _ _).alloc (Nat.le_refl _) _).alloc (by simp) _).alloc (by simp; omega) _).alloc (by simp; omega) _)
  have HO4 : Hid (Bx ((((w.alloc (.cells #[.bool t0, .int .i64 d0, .bool t1, .int .i64 d1, .bool t2, .int .i64 d2, .bool t3, .int .i64 d3] 28)).alloc (.cells #[.int .i64 6, .int .i64 pr, .int .i64 pg, .int .i64 cn, .int .i64 ri, .int .i64 ke, .bool tgd, .int .i64 dr, .int .i64 ad, .int .i64 sz, .int .i64 va, .int .i64 ta] 43)).alloc (.cells #[.bool false, .int .i64 0, .bool false, .int .i64 0, .bool false, .int .i64 0, .bool false, .int .i64 0] 28)).alloc (.cells #[.int .i64 0, .int .i64 0, .int .i64 0, .int .i64 0] 47)) (w.heap.size + 1) 43 #[.int .i64 6, .int .i64 pr, .int .i64 pg, .int .i64 cn, .int .i64 ri, .int .i64 ke, .bool tgd, .int .i64 dr, .int .i64 ad, .int .i64 sz, .int .i64 va, .int .i64 ta]) := Lib.hid (by rw [← HE1.out]; exact ((Bx.new _ _ _).below (below1 _ _)).below (below1 _ _))
  have HZ4 : Hid (Bx ((((w.alloc (.cells #[.bool t0, .int .i64 d0, .bool t1, .int .i64 d1, .bool t2, .int .i64 d2, .bool t3, .int .i64 d3] 28)).alloc (.cells #[.int .i64 6, .int .i64 pr, .int .i64 pg, .int .i64 cn, .int .i64 ri, .int .i64 ke, .bool tgd, .int .i64 dr, .int .i64 ad, .int .i64 sz, .int .i64 va, .int .i64 ta] 43)).alloc (.cells #[.bool false, .int .i64 0, .bool false, .int .i64 0, .bool false, .int .i64 0, .bool false, .int .i64 0] 28)).alloc (.cells #[.int .i64 0, .int .i64 0, .int .i64 0, .int .i64 0] 47)) (w.heap.size + 1 + 1) 28 #[.bool false, .int .i64 0, .bool false, .int .i64 0, .bool false, .int .i64 0, .bool false, .int .i64 0]) := Lib.hid (by rw [← HE2.out]; exact (Bx.new _ _ _).below (below1 _ _))
  have HX4 : Hid (Bx ((((w.alloc (.cells #[.bool t0, .int .i64 d0, .bool t1, .int .i64 d1, .bool t2, .int .i64 d2, .bool t3, .int .i64 d3] 28)).alloc (.cells #[.int .i64 6, .int .i64 pr, .int .i64 pg, .int .i64 cn, .int .i64 ri, .int .i64 ke, .bool tgd, .int .i64 dr, .int .i64 ad, .int .i64 sz, .int .i64 va, .int .i64 ta] 43)).alloc (.cells #[.bool false, .int .i64 0, .bool false, .int .i64 0, .bool false, .int .i64 0, .bool false, .int .i64 0] 28)).alloc (.cells #[.int .i64 0, .int .i64 0, .int .i64 0, .int .i64 0] 47)) (w.heap.size + 1 + 1 + 1) 47 #[.int .i64 0, .int .i64 0, .int .i64 0, .int .i64 0]) := Lib.hid (by rw [← HE3.out]; exact Bx.new _ _ _)
  have HV := Lib.hid h
  have HNW := Lib.hid (fun W => keysFree_any (Key4.mk t0 d0 t1 d1 t2 d2 t3 d3) ke W)
  have HRES0 : Hid (holdF l (Key4.mk t0 d0 t1 d1 t2 d2 t3 d3) ⟨6, pr, pg, cn, ri, ke, tgd, dr, ad, sz, va, ta⟩ = (chg4 (Key4.mk t0 d0 t1 d1 t2 d2 t3 d3) ke 1 false 0, failA (if chg4E (Key4.mk t0 d0 t1 d1 t2 d2 t3 d3) ke 1 0 = 0 ∧ ((inL 0 64 l).any fun x => decide (x.a.k = ke)) = true then 7 else chg4E (Key4.mk t0 d0 t1 d1 t2 d2 t3 d3) ke 1 0))) := Lib.hid rfl
  obtain ⟨A, n, c, rfl, hz, hn⟩ := h
  have HSO := Lib.hid (fun (W : World) (hb : Below w.heap.size w W) (hs : w.heap.size + 1 < W.heap.size) (hc : W.cell? ⟨w.heap.size + 1, 5, none⟩ = some (.int .i64 ke)) => some_anyC _ #[.pointer (some ⟨w.heap.size + 1, 0, none⟩)] (enters_of Try.func50 (by kernel_rfl) rfl) _ W (key_ans _ ke W W.heap.size hs (Nat.le_refl _) hc) A n c l 0 64 w.heap.size (hz.below hb) hb.size (by omega))
  clear hz
  simp only [Key4.v] at HNW
  have HNW2 : Hid (∀ W, Calls Try.prog 49 #[.agg #[.bool t0, .int .i64 d0, .bool t1, .int .i64 d1, .bool t2, .int .i64 d2, .bool t3, .int .i64 d3], .int .i64 ke] W fun e w' => e = .returned (.tuple #[.agg (kA (chg4 (Key4.mk t0 d0 t1 d1 t2 d2 t3 d3) ke 1 false 0)), .int .i64 (chg4E (Key4.mk t0 d0 t1 d1 t2 d2 t3 d3) ke 1 0)]) ∧ Below W.heap.size W w') := HNW
  clear HNW
  generalize holdF l (Key4.mk t0 d0 t1 d1 t2 d2 t3 d3) ⟨6, pr, pg, cn, ri, ke, tgd, dr, ad, sz, va, ta⟩ = rs at *
  generalize chg4E (Key4.mk t0 d0 t1 d1 t2 d2 t3 d3) ke 1 0 = nE at *
  generalize chg4 (Key4.mk t0 d0 t1 d1 t2 d2 t3 d3) ke 1 false 0 = nk at *
  generalize ((inL 0 64 l).any fun x => decide (x.a.k = ke)) = sm at *
  by_cases c1 : nE = 0
  · subst c1
    cases sm with
    | true =>
      have HRES : Hid (rs = (nk, failA 7)) := Lib.hid (by rw [HRES0.out, if_pos ⟨rfl, rfl⟩])
      clear HRES0
      go_enter Try.func36, Try.ntmps36
      go_wp2_with (first
        | (go_at_call 49
           refine (HNW2.out _).mono ?_
           rintro e w5 ⟨rfl, hb5⟩
           have Z5 := Lib.hid (HZ4.out.below hb5)
           have X5 := Lib.hid (HX4.out.below hb5)
           have O5 := Lib.hid (HO4.out.below hb5)
           have K5 := Lib.hid (HW4.out.trans (hb5.mono HW4.out.size))
           have hz5 : w.heap.size + 1 + 1 + 1 < w5.heap.size := X5.out.lt
           have A7 := Lib.hid (K5.out.trans ((below1 w5 (.cells (kA nk) 28)).mono K5.out.size))
           have o5 : w5.cell? ⟨w.heap.size + 1, 5, none⟩ = some (.int .i64 ke) := by rw [O5.out.cell]; rfl
           have oc : (w5.alloc (.cells (kA nk) 28)).cell? ⟨w.heap.size + 1, 5, none⟩ = some (.int .i64 ke) := by rw [(O5.out.below (below1 w5 (.cells (kA nk) 28))).cell]; rfl
           clear hb5)
        | ((with_reducible refine stN infoKs (kA nk) ?_ ?_ rfl rfl (kA_one _) ?_); rfl; rfl)
        | (go_at_call 44
           refine (HSO.out _ A7.out (by simp; omega) oc).mono ?_
           rintro e w7 ⟨rfl, hb7⟩
           have Z7 := Lib.hid ((Z5.out.below (below1 w5 (.cells (kA nk) 28))).below hb7)
           have X7 := Lib.hid ((X5.out.below (below1 w5 (.cells (kA nk) 28))).below hb7)
           have N7 := Lib.hid ((Bx.new w5 28 (kA nk)).below hb7)
           have K7 := Lib.hid (A7.out.trans (hb7.mono A7.out.size))
           have hz7 : w5.heap.size < w7.heap.size := N7.out.lt
           clear hb7))
      refine wp_region_rel_tail 3 [Sp.call 2 (failA 7).v] (by kernel_rfl) (by kernel_rfl) (by kernel_rfl) ?_
      intro V hV
      have e2 : V 2 = (failA 7).v := hV 2
      simp only [List.take_succ_cons, List.take_zero, List.drop_succ_cons, List.drop_zero]
      have BX : Hid (Bx w7 w5.heap.size 28 (kA nk)) := N7
      refine rel_fact (.agg (kA nk)) (by kernel_rfl) rfl (fun w' hb hf => ex_ld rfl (run_ld Try.underlying28 rfl infoKs (BX.out.below hb) (Sub.all _) rfl)) ?_
      go_big_quiet_step (fail)
      refine wpQuiet_nil ?_
      repeat (refine rel_quiet rfl rfl ?_; go_big_quiet_step (fail); refine wpQuiet_nil ?_)
      refine rel_special (Sp.call 2 (failA 7).v) (by kernel_rfl) rfl (fun w' hb hf => ?_) ?_
      · refine becomes_call (f := 31) (args := #[.int .i64 7]) ?_ ((HFA.out 7 w').mono ?_)
        · go_simp
        · rintro e w'' ⟨rfl, hb⟩
          exact ⟨_, rfl, hb, rfl, trivial⟩
      go_big_quiet_step (fail)
      refine wpQuiet_nil ?_
      simp only [e2]
      intro w3 hb3 hf
      clear hf
      have Z6 := Lib.hid (Z7.out.below hb3)
      have X6 := Lib.hid (X7.out.below hb3)
      have K6 := Lib.hid (K7.out.trans (hb3.mono K7.out.size))
      clear hb3
      refine stB infoKs (w.heap.size + 1 + 1) (kA nk) rfl rfl Z6.out rfl rfl (kA_one _) ?_
      refine stB infoN (w.heap.size + 1 + 1 + 1) (nA (failA 7)) rfl rfl (X6.out.orow (by omega) _) rfl rfl (nA_one _) ?_
      go_wp2
      try simp only [Exit.inBlock, Exit.then]
      refine bodyPost_ret (v := .tuple #[.agg (kA nk), ((failA 7) : Fan).v]) ?_ rfl ?_
      rotate_left
      · refine ⟨by rw [HRES.out]; rfl, ?_⟩
        exact below_setRow (below_setRow K6.out (by omega) _) (by omega) _
      · rw [results_cell_cell rfl]
        have hk := run_keyv (K := nk) ((Z6.out.row (kA nk)).orow (q := w.heap.size + 1 + 1 + 1) (by omega) (nA (failA 7)))
        have ha := run_ansv (a := (failA 7)) ((X6.out.orow (q := w.heap.size + 1 + 1) (by omega) (kA nk)).row (nA (failA 7)))
        simp [asAddr, Result.andThen, Act.put, hk, ha]
        rfl
    | false =>
      have HRES : Hid (rs = (nk, failA 0)) := Lib.hid (by rw [HRES0.out, if_neg (by simp)])
      clear HRES0
      go_enter Try.func36, Try.ntmps36
      go_wp2_with (first
        | (go_at_call 49
           refine (HNW2.out _).mono ?_
           rintro e w5 ⟨rfl, hb5⟩
           have Z5 := Lib.hid (HZ4.out.below hb5)
           have X5 := Lib.hid (HX4.out.below hb5)
           have O5 := Lib.hid (HO4.out.below hb5)
           have K5 := Lib.hid (HW4.out.trans (hb5.mono HW4.out.size))
           have hz5 : w.heap.size + 1 + 1 + 1 < w5.heap.size := X5.out.lt
           have A7 := Lib.hid (K5.out.trans ((below1 w5 (.cells (kA nk) 28)).mono K5.out.size))
           have o5 : w5.cell? ⟨w.heap.size + 1, 5, none⟩ = some (.int .i64 ke) := by rw [O5.out.cell]; rfl
           have oc : (w5.alloc (.cells (kA nk) 28)).cell? ⟨w.heap.size + 1, 5, none⟩ = some (.int .i64 ke) := by rw [(O5.out.below (below1 w5 (.cells (kA nk) 28))).cell]; rfl
           clear hb5)
        | ((with_reducible refine stN infoKs (kA nk) ?_ ?_ rfl rfl (kA_one _) ?_); rfl; rfl)
        | (go_at_call 44
           refine (HSO.out _ A7.out (by simp; omega) oc).mono ?_
           rintro e w7 ⟨rfl, hb7⟩
           have Z7 := Lib.hid ((Z5.out.below (below1 w5 (.cells (kA nk) 28))).below hb7)
           have X7 := Lib.hid ((X5.out.below (below1 w5 (.cells (kA nk) 28))).below hb7)
           have N7 := Lib.hid ((Bx.new w5 28 (kA nk)).below hb7)
           have K7 := Lib.hid (A7.out.trans (hb7.mono A7.out.size))
           have hz7 : w5.heap.size < w7.heap.size := N7.out.lt
           clear hb7))
      refine wp_region_rel_tail 3 [Sp.call 2 (failA 0).v] (by kernel_rfl) (by kernel_rfl) (by kernel_rfl) ?_
      intro V hV
      have e2 : V 2 = (failA 0).v := hV 2
      simp only [List.take_succ_cons, List.take_zero, List.drop_succ_cons, List.drop_zero]
      have BX : Hid (Bx w7 w5.heap.size 28 (kA nk)) := N7
      refine rel_fact (.agg (kA nk)) (by kernel_rfl) rfl (fun w' hb hf => ex_ld rfl (run_ld Try.underlying28 rfl infoKs (BX.out.below hb) (Sub.all _) rfl)) ?_
      go_big_quiet_step (fail)
      refine wpQuiet_nil ?_
      repeat (refine rel_quiet rfl rfl ?_; go_big_quiet_step (fail); refine wpQuiet_nil ?_)
      refine rel_special (Sp.call 2 (failA 0).v) (by kernel_rfl) rfl (fun w' hb hf => ?_) ?_
      · refine becomes_call (f := 31) (args := #[.int .i64 0]) ?_ ((HFA.out 0 w').mono ?_)
        · go_simp
        · rintro e w'' ⟨rfl, hb⟩
          exact ⟨_, rfl, hb, rfl, trivial⟩
      go_big_quiet_step (fail)
      refine wpQuiet_nil ?_
      simp only [e2]
      intro w3 hb3 hf
      clear hf
      have Z6 := Lib.hid (Z7.out.below hb3)
      have X6 := Lib.hid (X7.out.below hb3)
      have K6 := Lib.hid (K7.out.trans (hb3.mono K7.out.size))
      clear hb3
      refine stB infoKs (w.heap.size + 1 + 1) (kA nk) rfl rfl Z6.out rfl rfl (kA_one _) ?_
      refine stB infoN (w.heap.size + 1 + 1 + 1) (nA (failA 0)) rfl rfl (X6.out.orow (by omega) _) rfl rfl (nA_one _) ?_
      go_wp2
      try simp only [Exit.inBlock, Exit.then]
      refine bodyPost_ret (v := .tuple #[.agg (kA nk), ((failA 0) : Fan).v]) ?_ rfl ?_
      rotate_left
      · refine ⟨by rw [HRES.out]; rfl, ?_⟩
        exact below_setRow (below_setRow K6.out (by omega) _) (by omega) _
      · rw [results_cell_cell rfl]
        have hk := run_keyv (K := nk) ((Z6.out.row (kA nk)).orow (q := w.heap.size + 1 + 1 + 1) (by omega) (nA (failA 0)))
        have ha := run_ansv (a := (failA 0)) ((X6.out.orow (q := w.heap.size + 1 + 1) (by omega) (kA nk)).row (nA (failA 0)))
        simp [asAddr, Result.andThen, Act.put, hk, ha]
        rfl
  · have HRES : Hid (rs = (nk, failA nE)) := Lib.hid (by rw [HRES0.out, if_neg (fun h => c1 h.1)])
    have hne : (nE == 0) = false := by rw [beq_eq_false_iff_ne]; exact c1
    clear HRES0
    go_enter Try.func36, Try.ntmps36
    go_wp2_with (first
      | (go_at_call 49
         refine (HNW2.out _).mono ?_
         rintro e w5 ⟨rfl, hb5⟩
         have Z5 := Lib.hid (HZ4.out.below hb5)
         have X5 := Lib.hid (HX4.out.below hb5)
         have O5 := Lib.hid (HO4.out.below hb5)
         have K5 := Lib.hid (HW4.out.trans (hb5.mono HW4.out.size))
         have hz5 : w.heap.size + 1 + 1 + 1 < w5.heap.size := X5.out.lt
         have A7 := Lib.hid (K5.out.trans ((below1 w5 (.cells (kA nk) 28)).mono K5.out.size))
         have o5 : w5.cell? ⟨w.heap.size + 1, 5, none⟩ = some (.int .i64 ke) := by rw [O5.out.cell]; rfl
         have oc : (w5.alloc (.cells (kA nk) 28)).cell? ⟨w.heap.size + 1, 5, none⟩ = some (.int .i64 ke) := by rw [(O5.out.below (below1 w5 (.cells (kA nk) 28))).cell]; rfl
         clear hb5)
      | ((with_reducible refine stN infoKs (kA nk) ?_ ?_ rfl rfl (kA_one _) ?_); rfl; rfl)
      | (go_at_call 44
         refine (HSO.out _ A7.out (by simp; omega) oc).mono ?_
         rintro e w7 ⟨rfl, hb7⟩
         have Z7 := Lib.hid ((Z5.out.below (below1 w5 (.cells (kA nk) 28))).below hb7)
         have X7 := Lib.hid ((X5.out.below (below1 w5 (.cells (kA nk) 28))).below hb7)
         have N7 := Lib.hid ((Bx.new w5 28 (kA nk)).below hb7)
         have K7 := Lib.hid (A7.out.trans (hb7.mono A7.out.size))
         have hz7 : w5.heap.size < w7.heap.size := N7.out.lt
         clear hb7))
    refine wp_region_rel_tail 3 [Sp.call 2 (failA nE).v] (by kernel_rfl) (by kernel_rfl) (by kernel_rfl) ?_
    intro V hV
    have e2 : V 2 = (failA nE).v := hV 2
    simp only [List.take_succ_cons, List.take_zero, List.drop_succ_cons, List.drop_zero]
    have BX : Hid (Bx (w5.alloc (.cells (kA nk) 28)) w5.heap.size 28 (kA nk)) := Lib.hid (Bx.new _ _ _)
    refine rel_fact (.agg (kA nk)) (by kernel_rfl) rfl (fun w' hb hf => ex_ld rfl (run_ld Try.underlying28 rfl infoKs (BX.out.below hb) (Sub.all _) rfl)) ?_
    go_big_quiet_step (fail)
    refine wpQuiet_nil ?_
    repeat (refine rel_quiet rfl rfl ?_; go_big_quiet_step (fail); refine wpQuiet_nil ?_)
    refine rel_special (Sp.call 2 (failA nE).v) (by kernel_rfl) rfl (fun w' hb hf => ?_) ?_
    · refine becomes_call (f := 31) (args := #[.int .i64 nE]) ?_ ((HFA.out nE w').mono ?_)
      · go_simp
      · rintro e w'' ⟨rfl, hb⟩
        exact ⟨_, rfl, hb, rfl, trivial⟩
    go_big_quiet_step (fail)
    refine wpQuiet_nil ?_
    simp only [e2]
    intro w3 hb3 hf
    clear hf
    have Z6 := Lib.hid ((Z5.out.below (below1 w5 (.cells (kA nk) 28))).below hb3)
    have X6 := Lib.hid ((X5.out.below (below1 w5 (.cells (kA nk) 28))).below hb3)
    have K6 := Lib.hid ((K5.out.trans ((below1 w5 (.cells (kA nk) 28)).mono K5.out.size)).trans (hb3.mono (by simp; omega)))
    clear hb3
    refine stB infoKs (w.heap.size + 1 + 1) (kA nk) rfl rfl Z6.out rfl rfl (kA_one _) ?_
    refine stB infoN (w.heap.size + 1 + 1 + 1) (nA (failA nE)) rfl rfl (X6.out.orow (by omega) _) rfl rfl (nA_one _) ?_
    go_wp2
    try simp only [Exit.inBlock, Exit.then]
    refine bodyPost_ret (v := .tuple #[.agg (kA nk), ((failA nE) : Fan).v]) ?_ rfl ?_
    rotate_left
    · refine ⟨by rw [HRES.out]; rfl, ?_⟩
      exact below_setRow (below_setRow K6.out (by omega) _) (by omega) _
    · rw [results_cell_cell rfl]
      have hk := run_keyv (K := nk) ((Z6.out.row (kA nk)).orow (q := w.heap.size + 1 + 1 + 1) (by omega) (nA (failA nE)))
      have ha := run_ansv (a := (failA nE)) ((X6.out.orow (q := w.heap.size + 1 + 1) (by omega) (kA nk)).row (nA (failA nE)))
      simp [asAddr, Result.andThen, Act.put, hk, ha]
      rfl
theorem hold_any {w : World} {v : Value} {l : List Rgn} (h : Rv w v l) (K : Key4) (o : Fop) (ho : o.fits) :
    Calls Try.prog 36 #[v, K.v, o.v] w (GivesHK w (holdF l K o)) := by
  by_cases h5 : o.kind = 5
  · exact hold5 h K o ho h5
  by_cases h6 : o.kind = 6
  · exact hold6 h K o ho h6
  · exact hold7 h K o ho ⟨h5, h6⟩
end Go.Proofs.Ytglnnplijienbaa

/- flat: processes in memory; mapped. -/
namespace Go.Proofs.Ytglnnplijienbaa
open Go.ChangeShapes Go.WideShapes Go.ChangeAt Go.RowKit Go.Joins
set_option linter.unusedVariables false
set_option linter.unusedSimpArgs false
set_option maxRecDepth 100000
/-- The cells of a process. -/
structure Pv (w : World) (cs : Array Value) (p : Fp) : Prop where
  size : cs.size = 4362
  one : cs.all (·.oneCell') = true
  live : cs[0]? = some (.bool p.live)
  rg : ∃ v, cs[1]? = some v ∧ Rt w v p.rg
  ks : Sub cs 2 (kA p.ks)
  bt : ∀ n i, n < 64 → i < 64 → cs[10 + n * 68 + i]? = some (.int .u8 (p.bt n i))
  tg : ∀ n i, n < 64 → i < 4 → cs[10 + n * 68 + 64 + i]? = some (.int .i64 (p.tg n i))
/-- A world in memory: the block gw has pointers to the processes' blocks. -/
structure Ws (w : World) (gw : Nat) (gs : Nat → Nat) (W : Fw) : Prop where
  top : Bx w gw 71 #[.pointer (some ⟨gs 0, 0, none⟩), .pointer (some ⟨gs 1, 0, none⟩), .pointer (some ⟨gs 2, 0, none⟩), .pointer (some ⟨gs 3, 0, none⟩)]
  each : ∀ k, k < 4 → ∃ cs, Bx w (gs k) 78 cs ∧ Pv w cs (W k)
  inj : ∀ j k, j < 4 → k < 4 → gs j = gs k → j = k
/-- What holds of every process. -/
structure Fp.ok (p : Fp) : Prop where
  r : rightL p.rg = true
  b : ∀ n i, 0 ≤ p.bt n i ∧ p.bt n i ≤ 255
  t : ∀ n i, 0 ≤ p.tg n i ∧ p.tg n i ≤ 15
theorem Pv.keep {w w' : World} {cs : Array Value} {p : Fp} (h : Pv w cs p) (hk : ∀ b cur, Bx w b 40 cur → Bx w' b 40 cur) : Pv w' cs p :=
  ⟨h.size, h.one, h.live, by obtain ⟨v, h1, h2⟩ := h.rg; exact ⟨v, h1, h2.keep hk⟩, h.ks, h.bt, h.tg⟩
theorem Pv.below {w w' : World} {cs : Array Value} {p : Fp} (h : Pv w cs p) (hb : Below w.heap.size w w') : Pv w' cs p := h.keep fun _ _ h => h.below hb
theorem Ws.below {w w' : World} {gw : Nat} {gs : Nat → Nat} {W : Fw} (h : Ws w gw gs W) (hb : Below w.heap.size w w') : Ws w' gw gs W :=
  ⟨h.top.below hb, fun k hk => by obtain ⟨cs, h1, h2⟩ := h.each k hk; exact ⟨cs, h1.below hb, h2.below hb⟩, h.inj⟩
/-- The regions of a process. -/
theorem Ws.rgn {w : World} {gw : Nat} {gs : Nat → Nat} {W : Fw} (h : Ws w gw gs W) {k : Nat} (hk : k < 4) : ∃ v, w.cell? ⟨gs k, 1, none⟩ = some v ∧ Rt w v (W k).rg ∧ gs k < w.heap.size := by
  obtain ⟨cs, h1, h2⟩ := h.each k hk
  obtain ⟨v, h3, h4⟩ := h2.rg
  exact ⟨v, by rw [h1.cell]; exact h3, h4, h1.lt⟩
theorem count_rt {w : World} {v : Value} {l : List Rgn} (h : Rt w v l) (hr : rightL l = true) :
    Calls Try.prog 11 #[v] w fun e w' => e = .returned (.int .i64 (tot l)) ∧ Below w.heap.size w w' := by
  obtain ⟨A, n, c, rfl, hz, hn⟩ := h.rv
  exact count_any A n c l w w.heap.size hz (Nat.le_refl _) (by omega) (fun x hx => (rightL_asc hr).mem x hx)
theorem tot_range {l : List Rgn} (hr : rightL l = true) : 0 ≤ tot l ∧ tot l ≤ 4096 := by
  have h := tot_le l (fun x hx => (rightL_asc hr).mem x hx)
  have := rightL_len hr
  omega
theorem indexP0 (p0 p1 p2 p3 : Option Addr) (w : World) : (Instr.index 69 (.agg #[.pointer p0, .pointer p1, .pointer p2, .pointer p3]) (.int .i64 0)).run Try.prog w = .ok (.pointer p0) w := by kernel_rfl
theorem indexP1 (p0 p1 p2 p3 : Option Addr) (w : World) : (Instr.index 69 (.agg #[.pointer p0, .pointer p1, .pointer p2, .pointer p3]) (.int .i64 1)).run Try.prog w = .ok (.pointer p1) w := by kernel_rfl
theorem indexP2 (p0 p1 p2 p3 : Option Addr) (w : World) : (Instr.index 69 (.agg #[.pointer p0, .pointer p1, .pointer p2, .pointer p3]) (.int .i64 2)).run Try.prog w = .ok (.pointer p2) w := by kernel_rfl
theorem indexP3 (p0 p1 p2 p3 : Option Addr) (w : World) : (Instr.index 69 (.agg #[.pointer p0, .pointer p1, .pointer p2, .pointer p3]) (.int .i64 3)).run Try.prog w = .ok (.pointer p3) w := by kernel_rfl
set_option maxHeartbeats 4000000 in
theorem mapped_any {w : World} {gw : Nat} {gs : Nat → Nat} {W : Fw} (h : Ws w gw gs W) (hr : ∀ k, k < 4 → rightL (W k).rg = true) :
    Calls Try.prog 33 #[.pointer (some ⟨gw, 0, none⟩)] w fun e w' => e = .returned (.int .i64 (mappedF W)) ∧ Below w.heap.size w w' := by
  have HM : Hid (mappedF W = tot (W 0).rg + tot (W 1).rg + tot (W 2).rg + tot (W 3).rg) := Lib.hid rfl
  have c0 : w.cell? ⟨gw, 0, none⟩ = some (.pointer (some ⟨gs 0, 0, none⟩)) := by rw [h.top.cell]; rfl
  have c1 : w.cell? ⟨gw, 1, none⟩ = some (.pointer (some ⟨gs 1, 0, none⟩)) := by rw [h.top.cell]; rfl
  have c2 : w.cell? ⟨gw, 2, none⟩ = some (.pointer (some ⟨gs 2, 0, none⟩)) := by rw [h.top.cell]; rfl
  have c3 : w.cell? ⟨gw, 3, none⟩ = some (.pointer (some ⟨gs 3, 0, none⟩)) := by rw [h.top.cell]; rfl
  have hlt := h.top.lt
  obtain ⟨v0, d0, R0, l0⟩ := h.rgn (k := 0) (by decide)
  obtain ⟨v1, d1, R1, l1⟩ := h.rgn (k := 1) (by decide)
  obtain ⟨v2, d2, R2, l2⟩ := h.rgn (k := 2) (by decide)
  obtain ⟨v3, d3, R3, l3⟩ := h.rgn (k := 3) (by decide)
  obtain ⟨a0, b0⟩ := tot_range (hr 0 (by decide))
  obtain ⟨a1, b1⟩ := tot_range (hr 1 (by decide))
  obtain ⟨a2, b2⟩ := tot_range (hr 2 (by decide))
  obtain ⟨a3, b3⟩ := tot_range (hr 3 (by decide))
  have C0 := Lib.hid (fun w' (hb : Below w.heap.size w w') => count_rt (R0.below hb) (hr 0 (by decide)))
  have C1 := Lib.hid (fun w' (hb : Below w.heap.size w w') => count_rt (R1.below hb) (hr 1 (by decide)))
  have C2 := Lib.hid (fun w' (hb : Below w.heap.size w w') => count_rt (R2.below hb) (hr 2 (by decide)))
  have C3 := Lib.hid (fun w' (hb : Below w.heap.size w w') => count_rt (R3.below hb) (hr 3 (by decide)))
  clear R0 R1 R2 R3 h hr
  have e0 := Lib.hid d0
  have m0 := l0
  have e1 := Lib.hid d1
  have m1 := l1
  have e2 := Lib.hid d2
  have m2 := l2
  have e3 := Lib.hid d3
  have m3 := l3
  generalize mappedF W = r at *
  generalize tot (W 0).rg = n0 at *
  generalize tot (W 1).rg = n1 at *
  generalize tot (W 2).rg = n2 at *
  generalize tot (W 3).rg = n3 at *
  generalize gs 0 = g0 at *
  generalize gs 1 = g1 at *
  generalize gs 2 = g2 at *
  generalize gs 3 = g3 at *
  have i0 := fun w => indexP0 (some ⟨g0, 0, none⟩) (some ⟨g1, 0, none⟩) (some ⟨g2, 0, none⟩) (some ⟨g3, 0, none⟩) w
  have i1 := fun w => indexP1 (some ⟨g0, 0, none⟩) (some ⟨g1, 0, none⟩) (some ⟨g2, 0, none⟩) (some ⟨g3, 0, none⟩) w
  have i2 := fun w => indexP2 (some ⟨g0, 0, none⟩) (some ⟨g1, 0, none⟩) (some ⟨g2, 0, none⟩) (some ⟨g3, 0, none⟩) w
  have i3 := fun w => indexP3 (some ⟨g0, 0, none⟩) (some ⟨g1, 0, none⟩) (some ⟨g2, 0, none⟩) (some ⟨g3, 0, none⟩) w
  go_enter Try.func33, Try.ntmps33
  go_wp2
  refine wp_loop_rounds 5 ?_
  rw [rounds_succ]
  go_wp2_with (go_at_call 11; refine (C0.out _ (Below.refl _ _)).mono ?_; rintro e w1 ⟨rfl, hb1⟩)
  have K1 := Lib.hid (hb1)
  have d1 : w1.cell? ⟨g1, 1, none⟩ = some v1 := (K1.out.cell (p := ⟨g1, 1, none⟩) m1).trans e1.out
  have l1 : g1 < w1.heap.size := Nat.lt_of_lt_of_le m1 K1.out.size
  have d2 : w1.cell? ⟨g2, 1, none⟩ = some v2 := (K1.out.cell (p := ⟨g2, 1, none⟩) m2).trans e2.out
  have l2 : g2 < w1.heap.size := Nat.lt_of_lt_of_le m2 K1.out.size
  have d3 : w1.cell? ⟨g3, 1, none⟩ = some v3 := (K1.out.cell (p := ⟨g3, 1, none⟩) m3).trans e3.out
  have l3 : g3 < w1.heap.size := Nat.lt_of_lt_of_le m3 K1.out.size
  clear hb1
  rw [rounds_succ]
  go_wp2_with (go_at_call 11; refine (C1.out _ K1.out).mono ?_; rintro e w2 ⟨rfl, hb2⟩)
  have K2 := Lib.hid (K1.out.trans (hb2.mono K1.out.size))
  have d2 : w2.cell? ⟨g2, 1, none⟩ = some v2 := (K2.out.cell (p := ⟨g2, 1, none⟩) m2).trans e2.out
  have l2 : g2 < w2.heap.size := Nat.lt_of_lt_of_le m2 K2.out.size
  have d3 : w2.cell? ⟨g3, 1, none⟩ = some v3 := (K2.out.cell (p := ⟨g3, 1, none⟩) m3).trans e3.out
  have l3 : g3 < w2.heap.size := Nat.lt_of_lt_of_le m3 K2.out.size
  clear hb2
  rw [rounds_succ]
  go_wp2_with (go_at_call 11; refine (C2.out _ K2.out).mono ?_; rintro e w3 ⟨rfl, hb3⟩)
  have K3 := Lib.hid (K2.out.trans (hb3.mono K2.out.size))
  have d3 : w3.cell? ⟨g3, 1, none⟩ = some v3 := (K3.out.cell (p := ⟨g3, 1, none⟩) m3).trans e3.out
  have l3 : g3 < w3.heap.size := Nat.lt_of_lt_of_le m3 K3.out.size
  clear hb3
  rw [rounds_succ]
  go_wp2_with (go_at_call 11; refine (C3.out _ K3.out).mono ?_; rintro e w4 ⟨rfl, hb4⟩)
  have K4 := Lib.hid (K3.out.trans (hb4.mono K3.out.size))
  clear hb4
  rw [rounds_succ]
  go_wp2
  go_ret
  exact ⟨ret_i (by rw [HM.out]), K4.out⟩
end Go.Proofs.Ytglnnplijienbaa
