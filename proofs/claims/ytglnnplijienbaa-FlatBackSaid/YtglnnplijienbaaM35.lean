/- Several texts in one: Flu, Flw. -/
import Derived.Test.YtglnnplijienbaaM34
/- flat: look, of stores. -/
namespace Go.Proofs.Ytglnnplijienbaa
open Go.ChangeShapes Go.WideShapes Go.ChangeAt Go.RowKit Go.Joins Go.Sort
set_option linter.unusedVariables false
set_option linter.unusedSimpArgs false
set_option maxRecDepth 100000
theorem Os.keepg {α : Type} {f : α → List Value} {sz : Nat} {T : TypeId} {w w' : World} {base g : Nat} {v : Value} {xs : List α} (h : Os f sz T w base v xs) (hk : Keep (fun b => b = g) w w') (hg : g < base) : Os f sz T w' base v xs := by
  obtain ⟨h1, h | ⟨q, cap, cur, e, hq, hh, hn, hm, hz, hx⟩⟩ := h
  · exact ⟨h1, .inl h⟩
  · exact ⟨h1, .inr ⟨q, cap, cur, e, hq, (hk.block q (blk_lt hh) (by omega)).trans hh, hn, hm, hz, hx⟩⟩
theorem Os.cellsO {α : Type} {f : α → List Value} {sz : Nat} {T : TypeId} {w : World} {base b off n c : Nat} {xs : List α} (hf : ∀ x, (f x).length = sz) (h : Os f sz T w base (.slice (some ⟨b, off, none⟩) n c) xs) {i : Nat} {x : α} (hx : xs[i]? = some x) : ∀ j v, (f x)[j]? = some v → w.cell? ⟨b, off + i * sz + j, none⟩ = some v := by
  obtain ⟨A, c', e, _, _, hr⟩ := h.row hf
  injection e with e1 e2 e3
  subst e1
  exact hr.at_ hf hx
theorem PvK.more {g : Nat} {p : Fp} {a b c : World} (h : PvK g p a b) (hb : Below b.heap.size b c) : PvK g p a c := by
  obtain ⟨cs, h1, h2, h3⟩ := h
  exact ⟨cs, h1.below hb, h2.below hb, h3.more hb⟩
theorem PvK.trans {g : Nat} {p q : Fp} {a b c : World} (h : PvK g p a b) (h2 : PvK g q b c) : PvK g q a c := by
  obtain ⟨cs, h1, h3, h4⟩ := h2
  obtain ⟨_, _, _, h5⟩ := h
  exact ⟨cs, h1, h3, h5.trans h4 (fun _ _ h => h)⟩
set_option maxHeartbeats 16000000 in
theorem look11 {w : World} {g : Nat} {cs : Array Value} {p : Fp} (hx : Bx w g 78 cs) (hp : Pv w cs p) (hok : OkP p) (o : Fop) (ho : o.fits) (hk : o.kind = 11) :
    Calls Try.prog 38 #[.pointer (some ⟨g, 0, none⟩), .agg (opA o)] w (GivesL g (lookF p o) w) := by
  have HFO := Lib.hid ho
  have hlt := hx.lt
  have HX := Lib.hid hx
  have HP := Lib.hid hp
  have HRT := Lib.hid (fun W => fright_any o ho W)
  have HFA := Lib.hid (fun (e : Int) (W : World) => fails_any e W)
  have HFU := Lib.hid (fun (e f : Int) (W : World) => faults_any e f W)
  have HSF : Hid (rightF_ o = true → lookF p o = (if (stopsF p o (touchF o.addr o.size)).1 ≠ 0 then (p, faultA (stopsF p o (touchF o.addr o.size)).1 (stopsF p o (touchF o.addr o.size)).2)
    else (stP p o.addr o.size o.value, failA 0))) := Lib.hid (fun hr => by unfold lookF; rw [if_neg (by rw [hr]; simp), if_neg (show ¬ o.kind = 13 by omega), if_pos (show o.kind = 11 by omega), (right_facts hr).2.2.2.2.2.2 (by omega) |>.1]; rfl)
  have HSN : Hid (rightF_ o = false → lookF p o = (p, failA 2)) := Lib.hid (fun h => by unfold lookF; rw [if_pos h])
  have HRF := Lib.hid (fun (h : rightF_ o = true) => right_facts h)
  have hW1 : Below w.heap.size w ((w.alloc (.cells (opA o) 43)).alloc (.cells #[.int .i64 0, .int .i64 0, .int .i64 0, .int .i64 0] 47)) := (below1 _ _).alloc (by simp) _
  have hO1 : Bx ((w.alloc (.cells (opA o) 43)).alloc (.cells #[.int .i64 0, .int .i64 0, .int .i64 0, .int .i64 0] 47)) w.heap.size 43 (opA o) := (Bx.new _ _ _).below (below1 _ _)
  have hA1 : Bx ((w.alloc (.cells (opA o) 43)).alloc (.cells #[.int .i64 0, .int .i64 0, .int .i64 0, .int .i64 0] 47)) (w.heap.size + 1) 47 #[.int .i64 0, .int .i64 0, .int .i64 0, .int .i64 0] := by
    have := Bx.new (w.alloc (.cells (opA o) 43)) 47 #[.int .i64 0, .int .i64 0, .int .i64 0, .int .i64 0]
    rwa [World.size_alloc] at this
  obtain ⟨w1, hw1⟩ : ∃ w1, w1 = ((w.alloc (.cells (opA o) 43)).alloc (.cells #[.int .i64 0, .int .i64 0, .int .i64 0, .int .i64 0] 47)) := ⟨_, rfl⟩
  have HW1 := Lib.hid hw1
  rw [← hw1] at hW1 hO1 hA1
  have K1 := Lib.hid hW1
  have O1 := Lib.hid hO1
  have A1 := Lib.hid hA1
  have HST := Lib.hid (fun (W : World) (hb : Below w.heap.size w W) (x : Tch) (h0 : 0 ≤ x.p) (h1 : x.p < 64) (h2 : 0 ≤ x.f) (h3 : x.f < x.t) (h4 : x.t ≤ 64) => stop_any (hx.below hb) (hp.below hb) o ho x h0 h1 h2 h3 h4)
  have hk13 : (o.kind == 13) = false := by rw [beq_eq_false_iff_ne]; omega
  have FVA : -9223372036854775808 ≤ o.value ∧ o.value ≤ 9223372036854775807 := ho.2.2.2.2.2.2.2.2.2.1
  have FAD : -9223372036854775808 ≤ o.addr ∧ o.addr ≤ 9223372036854775807 := ho.2.2.2.2.2.2.2.1
  clear hx hp hw1 hW1 hO1 hA1 ho
  generalize lookF p o = rs at *
  cases hri : rightF_ o with
  | false =>
    have HR := Lib.hid (HSN.out hri)
    rw [hri] at HRT
    clear HSF HSN HRF hri
    go_enter Try.func38, Try.ntmps38
    go_wp2_with (first
      | ((with_reducible refine ldB Try.underlying43 rfl infoOp w.heap.size 0 (opA o) ?_ ?_ (HW1.out ▸ O1.out) (Sub.all _) rfl ?_); rfl; rfl)
      | (go_at_call 53
         rw [← HW1.out]
         refine (HRT.out w1).mono ?_
         rintro e w2 ⟨rfl, hb2⟩
         have K2 := Lib.hid (K1.out.trans (hb2.mono K1.out.size))
         have A2 := Lib.hid (A1.out.below hb2)
         clear hb2)
      | (go_at_call 31; refine (HFA.out 2 _).mono ?_; rintro e w9 ⟨rfl, hb9⟩; have X9 := Lib.hid (A2.out.below hb9); have K9 := Lib.hid (K2.out.trans (hb9.mono K2.out.size)); clear hb9)
      | ((with_reducible refine stB infoN (w.heap.size + 1) (nA (failA 2)) ?_ ?_ X9.out rfl rfl (nA_one _) ?_); rfl; rfl))
    try simp only [Exit.inBlock, Exit.then]
    refine bodyPost_ret (v := (failA 2).v) ?_ rfl ?_
    rotate_left
    · rw [HR.out]; exact ⟨rfl, cs, (HX.out.below K9.out).orow (by omega) _, (HP.out.below K9.out).rt (fun v h => h.row X9.out (by decide) _), (Keep.of K9.out).row (.inr (by omega)) _⟩
    · rw [results_cell1 rfl]; simp [asAddr, Result.andThen, Act.put, run_ansv (X9.out.row _)]
  | true =>
    obtain ⟨_, _, hb0, hb1, hb2, _, hb3⟩ := HRF.out hri
    have hSZ := hb3 (by rw [beq_eq_false_iff_ne] at hk13; exact hk13)
    rw [hSZ.1] at hb1 hb2
    have hb4 := hSZ.2
    have HS2 := Lib.hid (HSF.out hri)
    rw [hri] at HRT
    have HTC := Lib.hid (fun W => touches_any o.addr o.size hb0 (by omega) hb2 W)
    have HTR := Lib.hid (fun (t : Tch) (h : t ∈ touchF o.addr o.size) => tchs_all 65 (o.addr + o.size) o.addr hb0 hb2 t h)
    have HTE : Hid (touchF o.addr o.size = tchs (o.addr + o.size) 65 o.addr) := Lib.hid rfl
    have HTL : Hid ((touchF o.addr o.size).length ≤ 65) := Lib.hid (tchs_len _ _ _)
    have O0 : Hid ((opA o)[0]? = some (.int .i64 o.kind)) := Lib.hid rfl
    have O8 : Hid ((opA o)[8]? = some (.int .i64 o.addr)) := Lib.hid rfl
    have O10 : Hid ((opA o)[10]? = some (.int .i64 o.value)) := Lib.hid rfl
    have O9 : Hid ((opA o)[9]? = some (.int .i64 o.size)) := Lib.hid rfl
    have HBT := Lib.hid hok.b
    clear HSF HSN HRF hri hb3 hSZ hok
    obtain ⟨oA, hoA⟩ : ∃ oA, oA = opA o := ⟨_, rfl⟩
    have HOZ : Hid (oA.size = 12) := Lib.hid (by rw [hoA]; rfl)
    have HOV : Hid (Value.agg oA = o.v) := Lib.hid (by rw [hoA]; rfl)
    rw [← hoA] at HW1 O1 O0 O8 O9 O10 ⊢
    clear hoA HFO
    generalize touchF o.addr o.size = ts at *
    have HST2 := Lib.hid (fun (W : World) (hb : Below w.heap.size w W) (x : Tch) (hm : x ∈ ts) => by
      have h := HTR.out x hm
      have := HST.out W hb x h.1 h.2.1 h.2.2.1 h.2.2.2.1 h.2.2.2.2.1
      rw [← HOV.out] at this
      exact this)
    have HRT2 : Hid (∀ W, Calls Try.prog 53 #[.agg oA] W fun e w' => e = .returned (.bool true) ∧ Below W.heap.size W w') := Lib.hid (fun W => by rw [HOV.out]; exact HRT.out W)
    clear HST HRT
    obtain ⟨kd, hkd⟩ : ∃ kd, kd = o.kind := ⟨_, rfl⟩
    obtain ⟨ad, had⟩ : ∃ ad, ad = o.addr := ⟨_, rfl⟩
    obtain ⟨sz, hsz⟩ : ∃ sz, sz = o.size := ⟨_, rfl⟩
    obtain ⟨va, hva⟩ : ∃ va, va = o.value := ⟨_, rfl⟩
    rw [← hkd] at O0 hk13 hk
    rw [← had] at O8 FAD hb0 hb2 HTC HTR HTE HS2
    rw [← hsz] at O9 hb1 hb2 hb4 HTC HTR HTE HS2
    rw [← hva] at O10 HS2 FVA
    clear hkd had hsz hva
    subst hk
    go_enter Try.func38, Try.ntmps38
    go_wp2_with (first
      | ((with_reducible refine ldB Try.underlying43 rfl infoOp w.heap.size 0 oA ?_ ?_ (HW1.out ▸ O1.out) (Sub.all _) HOZ.out ?_); rfl; rfl)
      | (go_at_call 53
         rw [← HW1.out]
         refine (HRT2.out w1).mono ?_
         rintro e w2 ⟨rfl, hb2⟩
         have K2 := Lib.hid (K1.out.trans (hb2.mono K1.out.size))
         have A2 := Lib.hid (A1.out.below hb2)
         have O2 := Lib.hid (O1.out.below hb2)
         have c0 : w2.cell? ⟨w.heap.size, 0, none⟩ = some (.int .i64 11) := by rw [O2.out.cell]; exact O0.out
         have c8 : w2.cell? ⟨w.heap.size, 8, none⟩ = some (.int .i64 ad) := by rw [O2.out.cell]; exact O8.out
         have c9 : w2.cell? ⟨w.heap.size, 9, none⟩ = some (.int .i64 sz) := by rw [O2.out.cell]; exact O9.out
         have cl : w.heap.size < w2.heap.size := O2.out.lt
         clear hb2)
      | (go_at_call 54
         refine (HTC.out w2).mono ?_
         rintro e w3 ⟨vt, rfl, ho3, hb3⟩
         obtain ⟨A, ct, rfl, hct1, hct2, hr3⟩ := ho3.row fT_len
         have K3 := Lib.hid (K2.out.trans (hb3.mono K2.out.size))
         have A3 := Lib.hid (A2.out.below hb3)
         have O3 := Lib.hid (O2.out.below hb3)
         have R3 := Lib.hid hr3
         have HO3 := Lib.hid ho3
         have LO3 : Hid (g < w2.heap.size) := Lib.hid (Nat.lt_of_lt_of_le hlt K2.out.size)
         clear hb3 ho3 hr3 c0 c8 c9 cl))
    have HLN := HTL.out
    go_loopw [36] (fun i wr => ∃ (k : Nat), k ≤ ts.length ∧ i = .int .i64 k ∧ Hid (Below w3.heap.size w3 wr) ∧ Hid (stopsF p o ts = stopsF p o (ts.drop k))) (fun i _ => ts.length - (intOf i).toNat)
    case atStart => exact ⟨0, by omega, rfl, Lib.hid (Below.refl _ _), Lib.hid (by rw [List.drop_zero])⟩
    case round =>
      obtain ⟨k, hk, rfl, HB, HSD⟩ := hrel
      by_cases hlt2 : k < ts.length
      · obtain ⟨x, hxk⟩ : ∃ x, ts[k]? = some x := ⟨_, List.getElem?_eq_getElem hlt2⟩
        obtain ⟨b, off, rfl, hbl⟩ := R3.out.open (by omega)
        have hcs := (R3.out.below HB.out).at_ fT_len hxk
        have xc0 : wr.cell? ⟨b, off + k * 3, none⟩ = some (.int .i64 x.p) := hcs 0 _ rfl
        have xc1 : wr.cell? ⟨b, off + k * 3 + 1, none⟩ = some (.int .i64 x.f) := hcs 1 _ rfl
        have xc2 : wr.cell? ⟨b, off + k * 3 + 2, none⟩ = some (.int .i64 x.t) := hcs 2 _ rfl
        have HC := Lib.hid (HST2.out (wr.alloc (.cells #[.int .i64 x.p, .int .i64 x.f, .int .i64 x.t] 114)) ((K3.out.trans (HB.out.mono K3.out.size)).trans ((below1 _ _).mono (Nat.le_trans K3.out.size HB.out.size))) x (List.mem_of_getElem? hxk))
        have HDR : Hid (stopsF p o (ts.drop k) = if (stopF p o x).1 ≠ 0 then stopF p o x else stopsF p o (ts.drop (k + 1))) := Lib.hid (by rw [List.drop_eq_getElem_cons hlt2, show ts[k] = x from by rw [List.getElem?_eq_getElem hlt2] at hxk; exact Option.some.inj hxk]; rfl)
        have X4 := Lib.hid ((A3.out.below HB.out).below (below1 wr (.cells #[.int .i64 x.p, .int .i64 x.f, .int .i64 x.t] 114)))
        have O4 := Lib.hid (O3.out.below HB.out)
        have K4 := Lib.hid ((K3.out.trans (HB.out.mono K3.out.size)).trans ((below1 wr (.cells #[.int .i64 x.p, .int .i64 x.f, .int .i64 x.t] 114)).mono (Nat.le_trans K3.out.size HB.out.size)))
        have hwb : b < wr.heap.size := by have := HB.out.size; omega
        clear hcs
        obtain ⟨r, hr⟩ : ∃ r, r = stopF p o x := ⟨_, rfl⟩
        rw [← hr] at HC HDR
        clear hr hxk
        obtain ⟨rf, ra⟩ := r
        simp only at HC HDR
        by_cases hz : rf = 0
        · have HS3 := Lib.hid (HSD.out.trans (HDR.out.trans (if_neg (by simp [hz]))))
          subst hz
          clear HDR HSD
          go_wp2_with (first
            | ((with_reducible refine ldB Try.underlying43 rfl infoOp w.heap.size 0 oA ?_ ?_ (O4.out.below (below1 _ _)) (Sub.all _) HOZ.out ?_); rfl; rfl)
            | (go_at_call 55
               refine HC.out.mono ?_
               rintro e w5 ⟨rfl, hb5⟩
               have HB5 := Lib.hid ((HB.out.alloc HB.out.size (.cells #[.int .i64 x.p, .int .i64 x.f, .int .i64 x.t] 114)).trans (hb5.mono (Nat.le_trans HB.out.size (by simp))))
               clear hb5))
          go_roundw
          case rel => exact ⟨k + 1, by omega, by go_num, HB5, HS3⟩
          case measure => simp [intOf]; omega
        · have HS3 := Lib.hid (HSD.out.trans (HDR.out.trans (if_pos hz)))
          have hne : (rf != 0) = true := by rw [bne_iff_ne]; exact hz
          have HR : Hid (rs = (p, faultA rf ra)) := Lib.hid (by rw [HS2.out, HS3.out]; exact if_pos hz)
          clear HDR HSD HS3
          go_wp2_with (first
            | ((with_reducible refine ldB Try.underlying43 rfl infoOp w.heap.size 0 oA ?_ ?_ (O4.out.below (below1 _ _)) (Sub.all _) HOZ.out ?_); rfl; rfl)
            | (go_at_call 55
               refine HC.out.mono ?_
               rintro e w5 ⟨rfl, hb5⟩
               have X5 := Lib.hid (X4.out.below (hb5.mono (by simp)))
               have K5 := Lib.hid (K4.out.trans (hb5.mono K4.out.size))
               clear hb5)
            | (go_at_call 56; refine (HFU.out _ _ _).mono ?_; rintro e w9 ⟨rfl, hb9⟩; have X9 := Lib.hid (X5.out.below hb9); have K9 := Lib.hid (K5.out.trans (hb9.mono K5.out.size)); clear hb9)
            | ((with_reducible refine stB infoN (w.heap.size + 1) (nA (faultA rf ra)) ?_ ?_ X9.out rfl rfl (nA_one _) ?_); rfl; rfl))
          try simp only [Exit.inBlock, Exit.then]
          refine bodyPost_ret (v := (faultA rf ra).v) ?_ rfl ?_
          rotate_left
          · rw [HR.out]; exact ⟨rfl, cs, (HX.out.below K9.out).orow (by omega) _, (HP.out.below K9.out).rt (fun v h => h.row X9.out (by decide) _), (Keep.of K9.out).row (.inr (by omega)) _⟩
          · rw [results_cell1 rfl]; simp [asAddr, Result.andThen, Act.put, run_ansv (X9.out.row _)]
      · have hkn : k = ts.length := by omega
        have HS3 : Hid (rs = (stP p ad sz va, failA 0)) := Lib.hid (by rw [HS2.out, HSD.out, hkn, List.drop_length]; exact if_neg (by simp [stopsF]))
        clear HSD hkn
        obtain ⟨w4, hw4⟩ : ∃ w4, w4 = wr := ⟨_, rfl⟩
        rw [← hw4] at HB ⊢
        clear hw4
        have X4 := Lib.hid (A3.out.below HB.out)
        have O4 := Lib.hid (O3.out.below HB.out)
        have K4 := Lib.hid (K3.out.trans (HB.out.mono K3.out.size))
        have HO4 := Lib.hid (HO3.out.below HB.out (Nat.le_refl _))
        have PK4 : Hid (PvK g (stP p ad 0 va) w4 w4) := Lib.hid ⟨cs, HX.out.below K4.out, (HP.out.below K4.out).st0 ad va, Keep.refl _ _⟩
        have GA : Hid (¬ g = w.heap.size + 1) := Lib.hid (by omega)
        clear HB
        go_wp2
        go_loopw [11, 12, 55] (fun v sh i wr => ∃ (j f m : Nat), j ≤ ts.length ∧ i = .int .i64 j ∧ v = .int .i64 0 ∧ sh = .int .i64 (8 * m : Nat) ∧ (m : Int) ≤ sz ∧ Hid (ts.drop j = tchs (ad + sz) f (ad + m)) ∧ Hid (Fuel2 (ad + sz) (ad + m) f) ∧ Hid (PvK g (stP p ad m va) w4 wr)) (fun _ _ i _ => ts.length - (intOf i).toNat)
        case atStart => exact ⟨0, 65, 0, by omega, rfl, rfl, rfl, by omega, Lib.hid (by rw [List.drop_zero, HTE.out]; simp), Lib.hid (.inr (by omega)), PK4⟩
        case round =>
          obtain ⟨j, f, m, hj, rfl, rfl, rfl, hm, HTD, HFU2, HPK⟩ := hrel
          have HKW : Hid (Keep (fun b => b = g) w4 wr) := Lib.hid (by obtain ⟨_, _, _, h⟩ := HPK.out; exact h)
          by_cases hlt3 : j < ts.length
          · obtain ⟨pn, ki, f2, hpk, hki, HXJ, HTD2, HFU3⟩ := next_touch hb0 hb2 hlt3 HTD.out HFU2.out
            obtain ⟨b, off, rfl, hbl⟩ := R3.out.open (by omega)
            have hcs := (HO4.out.keepg HKW.out LO3.out).cellsO fT_len HXJ
            obtain ⟨e1, he1⟩ : ∃ e1 : Int, e1 = min (ad + sz) ((pn + 1) * 64) := ⟨_, rfl⟩
            rw [← he1] at HTD2 HFU3 hcs
            have xc0 : wr.cell? ⟨b, off + j * 3, none⟩ = some (.int .i64 pn) := hcs 0 _ rfl
            have xc1 : wr.cell? ⟨b, off + j * 3 + 1, none⟩ = some (.int .i64 ki) := hcs 1 _ rfl
            have xc2 : wr.cell? ⟨b, off + j * 3 + 2, none⟩ = some (.int .i64 (e1 - pn * 64)) := hcs 2 _ rfl
            have hwb : b < wr.heap.size := lt_of_cell xc0
            have HTD3 := Lib.hid HTD2
            have HFU4 := Lib.hid HFU3
            have be1 : ad + m < e1 ∧ e1 ≤ ad + sz ∧ e1 ≤ pn * 64 + 64 := by
              have h := HFU2.out
              unfold Fuel2 at h
              have : ¬ ad + sz ≤ ad + m := fun hh => by
                have h9 := HTD.out
                rw [List.drop_eq_getElem_cons hlt3] at h9
                cases f with
                | zero => cases h9
                | succ f => unfold tchs at h9; rw [if_neg (by omega)] at h9; cases h9
              omega
            obtain ⟨be1, be2, be3⟩ := be1
            have bpn : pn < 64 := by omega
            clear hcs HTD HFU2 HXJ HTD2 HFU3 he1
            go_wp2
            have T5 := Lib.hid (Bx.new wr 114 #[.int .i64 pn, .int .i64 ki, .int .i64 (e1 - pn * 64)])
            have hw5b := below1 wr (.cells #[.int .i64 pn, .int .i64 ki, .int .i64 (e1 - pn * 64)] 114)
            have O5 := Lib.hid ((HKW.out.bx O4.out (by omega)).below hw5b)
            have PK5 := Lib.hid (HPK.out.more hw5b)
            have GT : Hid (¬ wr.heap.size = g) := Lib.hid (by
              obtain ⟨_, h, _, _⟩ := HPK.out
              have := h.lt
              omega)
            obtain ⟨tb, htb⟩ : ∃ tb, tb = wr.heap.size := ⟨_, rfl⟩
            rw [← htb] at T5 GT ⊢
            obtain ⟨w5, hw5⟩ : ∃ w5, w5 = wr.alloc (.cells #[.int .i64 pn, .int .i64 ki, .int .i64 (e1 - pn * 64)] 114) := ⟨_, rfl⟩
            rw [← hw5] at T5 O5 PK5 ⊢
            clear hw5 htb hw5b xc0 xc1 xc2 hwb HKW HPK
            have t0 : w5.cell? ⟨tb, 0, none⟩ = some (.int .i64 pn) := by rw [T5.out.cell]; rfl
            have l5 : tb < w5.heap.size := T5.out.lt
            have gc : ∀ (d : Nat) (os : Array Obj) (b o : Nat), b < w5.heap.size → (grow (redrawn w5 d) os).cell? ⟨b, o, none⟩ = w5.cell? ⟨b, o, none⟩ := fun d os b o h => (below_regrown _ d os).cell (p := ⟨b, o, none⟩) h
            refine wp_region_rel1 [] (by kernel_rfl) (by kernel_rfl) ?_
            intro V hV
            repeat (first | (refine rel_quiet rfl rfl ?_; go_big_quiet_step (fail); refine wpQuiet_nil ?_) | (refine rel_nil ⟨g, 0, none⟩ (by kernel_rfl) rfl rfl ?_; go_big_quiet_step (fail); refine wpQuiet_nil ?_))
            intro w6 hb6 hf
            clear hf hV gc t0 l5
            have T6 := Lib.hid (T5.out.below hb6)
            have O6 := Lib.hid (O5.out.below hb6)
            have PK6 := Lib.hid (PK5.out.more hb6)
            have PK66 : Hid (PvK g (stP p ad m va) w6 w6) := Lib.hid (by obtain ⟨c, h1, h2, _⟩ := PK6.out; exact ⟨c, h1, h2, Keep.refl _ _⟩)
            clear hb6
            have t1 : w6.cell? ⟨tb, 1, none⟩ = some (.int .i64 ki) := by rw [T6.out.cell]; rfl
            have l6 : tb < w6.heap.size := T6.out.lt
            have lo6 : w.heap.size < w6.heap.size := O6.out.lt
            have c0 : w6.cell? ⟨w.heap.size, 0, none⟩ = some (.int .i64 11) := by rw [O6.out.cell]; exact O0.out
            go_wp2
            clear t1 l6 lo6 c0
            go_loopw [11, 12, 17] (fun v sh kk wr => ∃ (q kj : Nat), (pn : Int) * 64 + kj = ad + q ∧ ad + q ≤ e1 ∧ v = .int .i64 0 ∧ sh = .int .i64 (8 * q : Nat) ∧ kk = .int .i64 kj ∧ Hid (PvK g (stP p ad q va) w6 wr)) (fun _ _ kk _ => 64 - (intOf kk).toNat)
            case atStart => exact ⟨m, ki, by omega, by omega, rfl, rfl, rfl, PK66⟩
            case round =>
              obtain ⟨q, kj, hq1, hq2, rfl, rfl, rfl, HPK7⟩ := hrel
              have HKW7 : Hid (Keep (fun b => b = g) w6 wr) := Lib.hid (by obtain ⟨_, _, _, h⟩ := HPK7.out; exact h)
              have T7 := Lib.hid (HKW7.out.bx T6.out GT.out)
              have O7 := Lib.hid (HKW7.out.bx O6.out (by omega))
              have t2 : wr.cell? ⟨tb, 2, none⟩ = some (.int .i64 (e1 - pn * 64)) := by rw [T7.out.cell]; rfl
              have l7 : tb < wr.heap.size := T7.out.lt
              have lo7 : w.heap.size < wr.heap.size := O7.out.lt
              have c0 : wr.cell? ⟨w.heap.size, 0, none⟩ = some (.int .i64 11) := by rw [O7.out.cell]; exact O0.out
              have c10 : wr.cell? ⟨w.heap.size, 10, none⟩ = some (.int .i64 va) := by rw [O7.out.cell]; exact O10.out
              by_cases hlt4 : ad + q < e1
              · obtain ⟨c7, hx7, hp7, hk7⟩ := HPK7.out
                have XX := Lib.hid hx7
                have PP := Lib.hid hp7
                have l8 : g < wr.heap.size := hx7.lt
                have hgo : (kj : Int) < e1 - pn * 64 := by omega
                have hkj : kj < 64 := by omega
                clear hx7 hp7 hk7
                have gc : ∀ (d : Nat) (os : Array Obj) (b o : Nat), b < wr.heap.size → (grow (redrawn wr d) os).cell? ⟨b, o, none⟩ = wr.cell? ⟨b, o, none⟩ := fun d os b o h => (below_regrown _ d os).cell (p := ⟨b, o, none⟩) h
                have hq4 : q = 0 ∨ q = 1 ∨ q = 2 ∨ q = 3 := by omega
                rcases hq4 with rfl | rfl | rfl | rfl
                · go_wp2
                  refine wp_region_rel_tail 10 [] (by kernel_rfl) (by kernel_rfl) (by kernel_rfl) ?_
                  intro V hV
                  simp only [List.take_succ_cons, List.take_zero, List.drop_succ_cons, List.drop_zero]
                  repeat (first | (refine rel_quiet rfl rfl ?_; go_big_quiet_step (fail); refine wpQuiet_nil ?_) | (refine rel_nil ⟨g, 10 + pn * 68, none⟩ (by kernel_rfl) rfl rfl ?_; go_big_quiet_step (fail); refine wpQuiet_nil ?_))
                  intro w8 hb8 hf
                  clear hf hV gc
                  have X8 := Lib.hid (XX.out.below hb8)
                  have l9 : g < w8.heap.size := X8.out.lt
                  have c9 : w8.cell? ⟨g, 10 + pn * 68 + kj, none⟩ = some (.int .u8 ((stP p ad (0 : Nat) va).bt pn kj)) := by rw [X8.out.cell]; exact PP.out.bt pn kj bpn hkj
                  have f9 : w8.frozen? ⟨g, 10 + pn * 68 + kj, none⟩ = false := X8.out.free _
                  have PK9 : Hid (PvK g (stP p ad (1 : Nat) va) w6 (w8.setCell ⟨g, 10 + pn * 68 + kj, none⟩ (.int .u8 (va % 256)))) := Lib.hid ⟨_, X8.out.set _ _, by
                    have h := (PP.out.below hb8).st1 (n := pn) (i := kj) bpn hkj (by omega) (by omega)
                    rw [show va / 256 ^ ((0 : Nat) : Int).toNat % 256 = va % 256 by simp] at h
                    exact h.rt (fun v hr => hr.cell X8.out (by decide) _ _), (HKW7.out.more hb8).cell (.inl rfl) _ _⟩
                  clear hb8
                  go_wp2
                  go_roundw
                  case rel => exact ⟨1, kj + 1, by omega, by omega, rfl, rfl, by go_num, PK9⟩
                  case measure => simp [intOf]; omega
                · go_wp2
                  refine wp_region_rel_tail 10 [] (by kernel_rfl) (by kernel_rfl) (by kernel_rfl) ?_
                  intro V hV
                  simp only [List.take_succ_cons, List.take_zero, List.drop_succ_cons, List.drop_zero]
                  repeat (first | (refine rel_quiet rfl rfl ?_; go_big_quiet_step (fail); refine wpQuiet_nil ?_) | (refine rel_nil ⟨g, 10 + pn * 68, none⟩ (by kernel_rfl) rfl rfl ?_; go_big_quiet_step (fail); refine wpQuiet_nil ?_))
                  intro w8 hb8 hf
                  clear hf hV gc
                  have X8 := Lib.hid (XX.out.below hb8)
                  have l9 : g < w8.heap.size := X8.out.lt
                  have c9 : w8.cell? ⟨g, 10 + pn * 68 + kj, none⟩ = some (.int .u8 ((stP p ad (1 : Nat) va).bt pn kj)) := by rw [X8.out.cell]; exact PP.out.bt pn kj bpn hkj
                  have f9 : w8.frozen? ⟨g, 10 + pn * 68 + kj, none⟩ = false := X8.out.free _
                  have PK9 : Hid (PvK g (stP p ad (2 : Nat) va) w6 (w8.setCell ⟨g, 10 + pn * 68 + kj, none⟩ (.int .u8 (va / 256 % 256)))) := Lib.hid ⟨_, X8.out.set _ _, by
                    have h := (PP.out.below hb8).st1 (n := pn) (i := kj) bpn hkj (by omega) (by omega)
                    exact h.rt (fun v hr => hr.cell X8.out (by decide) _ _), (HKW7.out.more hb8).cell (.inl rfl) _ _⟩
                  clear hb8
                  go_wp2
                  go_roundw
                  case rel => exact ⟨2, kj + 1, by omega, by omega, rfl, rfl, by go_num, PK9⟩
                  case measure => simp [intOf]; omega
                · go_wp2
                  refine wp_region_rel_tail 10 [] (by kernel_rfl) (by kernel_rfl) (by kernel_rfl) ?_
                  intro V hV
                  simp only [List.take_succ_cons, List.take_zero, List.drop_succ_cons, List.drop_zero]
                  repeat (first | (refine rel_quiet rfl rfl ?_; go_big_quiet_step (fail); refine wpQuiet_nil ?_) | (refine rel_nil ⟨g, 10 + pn * 68, none⟩ (by kernel_rfl) rfl rfl ?_; go_big_quiet_step (fail); refine wpQuiet_nil ?_))
                  intro w8 hb8 hf
                  clear hf hV gc
                  have X8 := Lib.hid (XX.out.below hb8)
                  have l9 : g < w8.heap.size := X8.out.lt
                  have c9 : w8.cell? ⟨g, 10 + pn * 68 + kj, none⟩ = some (.int .u8 ((stP p ad (2 : Nat) va).bt pn kj)) := by rw [X8.out.cell]; exact PP.out.bt pn kj bpn hkj
                  have f9 : w8.frozen? ⟨g, 10 + pn * 68 + kj, none⟩ = false := X8.out.free _
                  have PK9 : Hid (PvK g (stP p ad (3 : Nat) va) w6 (w8.setCell ⟨g, 10 + pn * 68 + kj, none⟩ (.int .u8 (va / 65536 % 256)))) := Lib.hid ⟨_, X8.out.set _ _, by
                    have h := (PP.out.below hb8).st1 (n := pn) (i := kj) bpn hkj (by omega) (by omega)
                    exact h.rt (fun v hr => hr.cell X8.out (by decide) _ _), (HKW7.out.more hb8).cell (.inl rfl) _ _⟩
                  clear hb8
                  go_wp2
                  go_roundw
                  case rel => exact ⟨3, kj + 1, by omega, by omega, rfl, rfl, by go_num, PK9⟩
                  case measure => simp [intOf]; omega
                · go_wp2
                  refine wp_region_rel_tail 10 [] (by kernel_rfl) (by kernel_rfl) (by kernel_rfl) ?_
                  intro V hV
                  simp only [List.take_succ_cons, List.take_zero, List.drop_succ_cons, List.drop_zero]
                  repeat (first | (refine rel_quiet rfl rfl ?_; go_big_quiet_step (fail); refine wpQuiet_nil ?_) | (refine rel_nil ⟨g, 10 + pn * 68, none⟩ (by kernel_rfl) rfl rfl ?_; go_big_quiet_step (fail); refine wpQuiet_nil ?_))
                  intro w8 hb8 hf
                  clear hf hV gc
                  have X8 := Lib.hid (XX.out.below hb8)
                  have l9 : g < w8.heap.size := X8.out.lt
                  have c9 : w8.cell? ⟨g, 10 + pn * 68 + kj, none⟩ = some (.int .u8 ((stP p ad (3 : Nat) va).bt pn kj)) := by rw [X8.out.cell]; exact PP.out.bt pn kj bpn hkj
                  have f9 : w8.frozen? ⟨g, 10 + pn * 68 + kj, none⟩ = false := X8.out.free _
                  have PK9 : Hid (PvK g (stP p ad (4 : Nat) va) w6 (w8.setCell ⟨g, 10 + pn * 68 + kj, none⟩ (.int .u8 (va / 16777216 % 256)))) := Lib.hid ⟨_, X8.out.set _ _, by
                    have h := (PP.out.below hb8).st1 (n := pn) (i := kj) bpn hkj (by omega) (by omega)
                    exact h.rt (fun v hr => hr.cell X8.out (by decide) _ _), (HKW7.out.more hb8).cell (.inl rfl) _ _⟩
                  clear hb8
                  go_wp2
                  go_roundw
                  case rel => exact ⟨4, kj + 1, by omega, by omega, rfl, rfl, by go_num, PK9⟩
                  case measure => simp [intOf]; omega
              · have hqe : ad + q = e1 := by omega
                have hgo : e1 - pn * 64 ≤ (kj : Int) := by omega
                have HTD5 : Hid (ts.drop (j + 1) = tchs (ad + sz) f2 (ad + q)) := Lib.hid (by rw [hqe]; exact HTD3.out)
                have HFU5 : Hid (Fuel2 (ad + sz) (ad + q) f2) := Lib.hid (by rw [hqe]; exact HFU4.out)
                have hq9 : (q : Int) ≤ sz := by omega
                have PK9 := Lib.hid (PK6.out.trans HPK7.out)
                clear hqe HTD3 HFU4
                go_wp2
                go_roundw
                case rel => exact ⟨j + 1, f2, q, by omega, by go_num, rfl, rfl, hq9, HTD5, HFU5, PK9⟩
                case measure => simp [intOf]; omega
          · have hjn : j = ts.length := by omega
            have hms : (m : Int) = sz := by
              have h := HTD.out
              rw [hjn, List.drop_length] at h
              have h2 := HFU2.out
              unfold Fuel2 at h2
              by_cases hl : ad + m < ad + sz
              · cases f with
                | zero => omega
                | succ f => unfold tchs at h; rw [if_pos hl] at h; cases h
              · omega
            have X9 := Lib.hid (HKW.out.bx X4.out (by omega))
            have K9 := Lib.hid ((Keep.of (S := fun b => b = g) K4.out).trans HKW.out (fun _ _ h => h))
            have PK9 : Hid (PvK g (stP p ad sz va) w4 wr) := Lib.hid (by rw [← hms]; exact HPK.out)
            clear HTD HFU2 hjn hms HPK HKW
            go_wp2_with (((with_reducible refine stB infoN (w.heap.size + 1) (nA (failA 0)) ?_ ?_ X9.out rfl rfl (nA_one _) ?_); rfl; rfl))
            try simp only [Exit.inBlock, Exit.then]
            refine bodyPost_ret (v := (failA 0).v) ?_ rfl ?_
            rotate_left
            · rw [HS3.out]
              obtain ⟨c9, h1, h2, h3⟩ := PK9.out
              exact ⟨rfl, c9, h1.orow (by omega) _, h2.rt (fun v h => h.row X9.out (by decide) _), K9.out.row (.inr (by omega)) _⟩
            · rw [results_cell1 rfl]; simp [asAddr, Result.andThen, Act.put, run_ansv (X9.out.row _)]
end Go.Proofs.Ytglnnplijienbaa

/- flat: new processes; fork. -/
namespace Go.Proofs.Ytglnnplijienbaa
open Go.ChangeShapes Go.WideShapes Go.ChangeAt Go.RowKit Go.Joins Go.Sort
set_option linter.unusedVariables false
set_option linter.unusedSimpArgs false
set_option maxRecDepth 100000
theorem zP_list : Try.zeroCells78.toList = [.bool false, .slice none 0 0] ++ (kA zero4).toList ++ (List.range 64).flatMap (fun _ => pgA (fun _ => 0) (fun _ => 0)) := by kernel_rfl
theorem infoPr : (Try.prog.info? 78).map (·.size) = some 4362 := by kernel_rfl
theorem zP_get (i : Nat) : Try.zeroCells78[i]? = ([.bool false, .slice none 0 0] ++ (kA zero4).toList ++ (List.range 64).flatMap (fun _ => pgA (fun _ => 0) (fun _ => 0)))[i]? := by
  rw [← zP_list]; simp
theorem zP_size : Try.zeroCells78.size = 4362 := by kernel_rfl
theorem zP_one : Try.zeroCells78.all (·.oneCell') = true := by
  rw [Array.all_eq_true_iff_forall_mem]
  intro x hx
  have hx2 : x ∈ Try.zeroCells78.toList := by simpa using hx
  rw [zP_list] at hx2
  rcases List.mem_append.1 hx2 with h | h
  · rcases List.mem_append.1 h with h | h
    · simp at h; rcases h with rfl | rfl <;> rfl
    · have := kA_one zero4
      rw [Array.all_eq_true_iff_forall_mem] at this
      exact this x (by simpa using h)
  · obtain ⟨_, _, h⟩ := List.mem_flatMap.1 h
    exact pgA_one _ _ x h
theorem zP_pv (w : World) : Pv w Try.zeroCells78 zeroFp := by
  have hf : ∀ n j, n < 64 → j < 68 → Try.zeroCells78[10 + n * 68 + j]? = (pgA (fun _ => 0) (fun _ => 0))[j]? := fun n j hn hj => by
    rw [zP_get, List.getElem?_append_right (by simp [kA]; omega)]
    have : (10 + n * 68 + j) - ([Value.bool false, .slice none 0 0] ++ (kA zero4).toList).length = n * 68 + j := by simp [kA]; omega
    rw [this]
    exact flat_at (f := fun _ : Nat => pgA (fun _ => 0) (fun _ => 0)) (fun _ => pgA_len _ _) (List.range 64) n n (List.getElem?_range hn) j hj
  refine ⟨zP_size, zP_one, by rw [zP_get]; rfl, ⟨.slice none 0 0, by rw [zP_get]; rfl, Rt.nil⟩, fun i v hv => ?_, fun n i hn hi => ?_, fun n i hn hi => ?_⟩
  · have hi : i < 8 := by
      have := (Array.getElem?_eq_some_iff.1 hv).1
      simpa [kA] using this
    rw [zP_get, List.getElem?_append_left (by simp [kA]; omega), List.getElem?_append_right (by simp), show 2 + i - [Value.bool false, .slice none 0 0].length = i by simp]
    rw [← hv]; simp [zeroFp]
  · rw [hf n i hn (by omega), pgA_b _ _ hi]; rfl
  · rw [show 10 + n * 68 + 64 + i = 10 + n * 68 + (64 + i) by omega, hf n (64 + i) hn (by omega), pgA_t _ _ hi]; rfl
end Go.Proofs.Ytglnnplijienbaa
