/- Several texts in one: Flv, Fmb. -/
import Derived.Test.YtglnnplijienbaaM35
import Derived.Test.YtglnnplijienbaaM36
/- flat: look, of tags. -/
namespace Go.Proofs.Ytglnnplijienbaa
open Go.ChangeShapes Go.WideShapes Go.ChangeAt Go.RowKit Go.Joins Go.Sort
set_option linter.unusedVariables false
set_option linter.unusedSimpArgs false
set_option maxRecDepth 100000
set_option maxHeartbeats 16000000 in
theorem look13 {w : World} {g : Nat} {cs : Array Value} {p : Fp} (hx : Bx w g 78 cs) (hp : Pv w cs p) (hok : OkP p) (o : Fop) (ho : o.fits) (hk : o.kind = 13) :
    Calls Try.prog 38 #[.pointer (some ⟨g, 0, none⟩), .agg (opA o)] w (GivesL g (lookF p o) w) := by
  have HFO := Lib.hid ho
  have hlt := hx.lt
  have HX := Lib.hid hx
  have HP := Lib.hid hp
  have HRT := Lib.hid (fun W => fright_any o ho W)
  have HFA := Lib.hid (fun (e : Int) (W : World) => fails_any e W)
  have HFU := Lib.hid (fun (e f : Int) (W : World) => faults_any e f W)
  have HSF : Hid (rightF_ o = true → lookF p o = (if (stopsF p o (touchF o.addr (o.count * 16))).1 ≠ 0 then (p, faultA (stopsF p o (touchF o.addr (o.count * 16))).1 (stopsF p o (touchF o.addr (o.count * 16))).2)
    else (tgP p o.addr (o.count * 16) o.tag, failA 0))) := Lib.hid (fun hr => by unfold lookF; rw [if_neg (by rw [hr]; simp), if_pos hk, show sizeF o = o.count * 16 from if_pos hk]; rfl)
  have HSN : Hid (rightF_ o = false → lookF p o = (p, failA 2)) := Lib.hid (fun h => by unfold lookF; rw [if_pos h])
  have HRF := Lib.hid (fun (h : rightF_ o = true) => right_facts h)
  have hW1 : Below w.heap.size w ((w.alloc (.cells (opA o) 43)).alloc (.cells #[.int .i64 0, .int .i64 0, .int .i64 0, .int .i64 0] 47)) := (below1 _ _).alloc (by simp) _
  have hO1 : Bx ((w.alloc (.cells (opA o) 43)).alloc (.cells #[.int .i64 0, .int .i64 0, .int .i64 0, .int .i64 0] 47)) w.heap.size 43 (opA o) := (Bx.new _ _ _).below (below1 _ _)
  have hA1 : Bx ((w.alloc (.cells (opA o) 43)).alloc (.cells #[.int .i64 0, .int .i64 0, .int .i64 0, .int .i64 0] 47)) (w.heap.size + 1) 47 #[.int .i64 0, .int .i64 0, .int .i64 0, .int .i64 0] := by
    have := Bx.new (w.alloc (.cells (opA o) 43)) 47 #[.int .i64 0, .int .i64 0, .int .i64 0, .int .i64 0]
    rwa [World.size_alloc] at this
  obtain ⟨w1, hw1⟩ : ∃ w1, w1 = ((w.alloc (.cells (opA o) 43)).alloc (.cells #[.int .i64 0, .int .i64 0, .int .i64 0, .int .i64 0] 47)) := ⟨_, rfl⟩
  have HW1 := Lib.hid hw1
  rw [← hw1] at hW1 hO1 hA1
  have K1 := Lib.hid hW1
  have O1 := Lib.hid hO1
  have A1 := Lib.hid hA1
  have HST := Lib.hid (fun (W : World) (hb : Below w.heap.size w W) (x : Tch) (h0 : 0 ≤ x.p) (h1 : x.p < 64) (h2 : 0 ≤ x.f) (h3 : x.f < x.t) (h4 : x.t ≤ 64) => stop_any (hx.below hb) (hp.below hb) o ho x h0 h1 h2 h3 h4)
  have FCN : -9223372036854775808 ≤ o.count ∧ o.count ≤ 9223372036854775807 := ho.2.2.2.1
  have FAD : -9223372036854775808 ≤ o.addr ∧ o.addr ≤ 9223372036854775807 := ho.2.2.2.2.2.2.2.1
  clear hx hp hw1 hW1 hO1 hA1 ho
  generalize lookF p o = rs at *
  cases hri : rightF_ o with
  | false =>
    have HR := Lib.hid (HSN.out hri)
    rw [hri] at HRT
    clear HSF HSN HRF hri
    go_enter Try.func38, Try.ntmps38
    go_wp2_with (first
      | ((with_reducible refine ldB Try.underlying43 rfl infoOp w.heap.size 0 (opA o) ?_ ?_ (HW1.out ▸ O1.out) (Sub.all _) rfl ?_); rfl; rfl)
      | (go_at_call 53
         rw [← HW1.out]
         refine (HRT.out w1).mono ?_
         rintro e w2 ⟨rfl, hb2⟩
         have K2 := Lib.hid (K1.out.trans (hb2.mono K1.out.size))
         have A2 := Lib.hid (A1.out.below hb2)
         clear hb2)
      | (go_at_call 31; refine (HFA.out 2 _).mono ?_; rintro e w9 ⟨rfl, hb9⟩; have X9 := Lib.hid (A2.out.below hb9); have K9 := Lib.hid (K2.out.trans (hb9.mono K2.out.size)); clear hb9)
      | ((with_reducible refine stB infoN (w.heap.size + 1) (nA (failA 2)) ?_ ?_ X9.out rfl rfl (nA_one _) ?_); rfl; rfl))
    try simp only [Exit.inBlock, Exit.then]
    refine bodyPost_ret (v := (failA 2).v) ?_ rfl ?_
    rotate_left
    · rw [HR.out]; exact ⟨rfl, cs, (HX.out.below K9.out).orow (by omega) _, (HP.out.below K9.out).rt (fun v h => h.row X9.out (by decide) _), (Keep.of K9.out).row (.inr (by omega)) _⟩
    · rw [results_cell1 rfl]; simp [asAddr, Result.andThen, Act.put, run_ansv (X9.out.row _)]
  | true =>
    obtain ⟨_, _, hb0, hb1, hb2, hb3, _⟩ := HRF.out hri
    have hb4 := hb3 hk
    rw [show sizeF o = o.count * 16 from if_pos hk] at hb1 hb2 hb4
    have HS2 := Lib.hid (HSF.out hri)
    rw [hri] at HRT
    have HTC := Lib.hid (fun W => touches_any o.addr (o.count * 16) hb0 (by omega) hb2 W)
    have HTR := Lib.hid (fun (t : Tch) (h : t ∈ touchF o.addr (o.count * 16)) => tchs_all 65 (o.addr + o.count * 16) o.addr hb0 hb2 t h)
    have HTE : Hid (touchF o.addr (o.count * 16) = tchs (o.addr + o.count * 16) 65 o.addr) := Lib.hid rfl
    have HTL : Hid ((touchF o.addr (o.count * 16)).length ≤ 65) := Lib.hid (tchs_len _ _ _)
    have O0 : Hid ((opA o)[0]? = some (.int .i64 o.kind)) := Lib.hid rfl
    have O8 : Hid ((opA o)[8]? = some (.int .i64 o.addr)) := Lib.hid rfl
    have O11 : Hid ((opA o)[11]? = some (.int .i64 o.tag)) := Lib.hid rfl
    have O3c : Hid ((opA o)[3]? = some (.int .i64 o.count)) := Lib.hid rfl
    have O9 : Hid ((opA o)[9]? = some (.int .i64 o.size)) := Lib.hid rfl
    have HBT := Lib.hid hok.b
    clear HSF HSN HRF hri hb3 hok
    obtain ⟨oA, hoA⟩ : ∃ oA, oA = opA o := ⟨_, rfl⟩
    have HOZ : Hid (oA.size = 12) := Lib.hid (by rw [hoA]; rfl)
    have HOV : Hid (Value.agg oA = o.v) := Lib.hid (by rw [hoA]; rfl)
    rw [← hoA] at HW1 O1 O0 O8 O9 O11 O3c ⊢
    clear hoA HFO
    generalize touchF o.addr (o.count * 16) = ts at *
    have HST2 := Lib.hid (fun (W : World) (hb : Below w.heap.size w W) (x : Tch) (hm : x ∈ ts) => by
      have h := HTR.out x hm
      have := HST.out W hb x h.1 h.2.1 h.2.2.1 h.2.2.2.1 h.2.2.2.2.1
      rw [← HOV.out] at this
      exact this)
    have HRT2 : Hid (∀ W, Calls Try.prog 53 #[.agg oA] W fun e w' => e = .returned (.bool true) ∧ Below W.heap.size W w') := Lib.hid (fun W => by rw [HOV.out]; exact HRT.out W)
    clear HST HRT
    obtain ⟨kd, hkd⟩ : ∃ kd, kd = o.kind := ⟨_, rfl⟩
    obtain ⟨ad, had⟩ : ∃ ad, ad = o.addr := ⟨_, rfl⟩
    obtain ⟨s9, hs9⟩ : ∃ s9, s9 = o.size := ⟨_, rfl⟩
    obtain ⟨ta, hta⟩ : ∃ ta, ta = o.tag := ⟨_, rfl⟩
    obtain ⟨cn, hcn⟩ : ∃ cn, cn = o.count := ⟨_, rfl⟩
    obtain ⟨sz, hsz⟩ : ∃ sz, sz = o.count * 16 := ⟨_, rfl⟩
    rw [← hkd] at O0 hk
    rw [← had] at O8 FAD hb0 hb2 hb4 HTC HTR HTE HS2
    rw [← hs9] at O9
    rw [← hsz] at hb1 hb2 hb4 HTC HTR HTE HS2
    rw [← hta] at O11 HS2
    rw [← hcn] at O3c FCN hsz
    have HSZ2 := Lib.hid hsz
    have bcn : 0 ≤ cn ∧ cn ≤ 256 := by omega
    obtain ⟨bcn1, bcn2⟩ := bcn
    clear hkd had hsz hs9 hta hcn
    subst hk
    go_enter Try.func38, Try.ntmps38
    go_wp2_with (first
      | ((with_reducible refine ldB Try.underlying43 rfl infoOp w.heap.size 0 oA ?_ ?_ (HW1.out ▸ O1.out) (Sub.all _) HOZ.out ?_); rfl; rfl)
      | (go_at_call 53
         rw [← HW1.out]
         refine (HRT2.out w1).mono ?_
         rintro e w2 ⟨rfl, hb2⟩
         have K2 := Lib.hid (K1.out.trans (hb2.mono K1.out.size))
         have A2 := Lib.hid (A1.out.below hb2)
         have O2 := Lib.hid (O1.out.below hb2)
         have c0 : w2.cell? ⟨w.heap.size, 0, none⟩ = some (.int .i64 13) := by rw [O2.out.cell]; exact O0.out
         have c8 : w2.cell? ⟨w.heap.size, 8, none⟩ = some (.int .i64 ad) := by rw [O2.out.cell]; exact O8.out
         have c9 : w2.cell? ⟨w.heap.size, 9, none⟩ = some (.int .i64 s9) := by rw [O2.out.cell]; exact O9.out
         have c3 : w2.cell? ⟨w.heap.size, 3, none⟩ = some (.int .i64 cn) := by rw [O2.out.cell]; exact O3c.out
         have cl : w.heap.size < w2.heap.size := O2.out.lt
         clear hb2)
      | (go_at_call 54
         rw [← HSZ2.out]
         refine (HTC.out w2).mono ?_
         rintro e w3 ⟨vt, rfl, ho3, hb3⟩
         obtain ⟨A, ct, rfl, hct1, hct2, hr3⟩ := ho3.row fT_len
         have K3 := Lib.hid (K2.out.trans (hb3.mono K2.out.size))
         have A3 := Lib.hid (A2.out.below hb3)
         have O3 := Lib.hid (O2.out.below hb3)
         have R3 := Lib.hid hr3
         have HO3 := Lib.hid ho3
         have LO3 : Hid (g < w2.heap.size) := Lib.hid (Nat.lt_of_lt_of_le hlt K2.out.size)
         clear hb3 ho3 hr3 c0 c8 c9 c3 cl))
    have HLN := HTL.out
    go_loopw [36] (fun i wr => ∃ (k : Nat), k ≤ ts.length ∧ i = .int .i64 k ∧ Hid (Below w3.heap.size w3 wr) ∧ Hid (stopsF p o ts = stopsF p o (ts.drop k))) (fun i _ => ts.length - (intOf i).toNat)
    case atStart => exact ⟨0, by omega, rfl, Lib.hid (Below.refl _ _), Lib.hid (by rw [List.drop_zero])⟩
    case round =>
      obtain ⟨k, hk, rfl, HB, HSD⟩ := hrel
      by_cases hlt2 : k < ts.length
      · obtain ⟨x, hxk⟩ : ∃ x, ts[k]? = some x := ⟨_, List.getElem?_eq_getElem hlt2⟩
        obtain ⟨b, off, rfl, hbl⟩ := R3.out.open (by omega)
        have hcs := (R3.out.below HB.out).at_ fT_len hxk
        have xc0 : wr.cell? ⟨b, off + k * 3, none⟩ = some (.int .i64 x.p) := hcs 0 _ rfl
        have xc1 : wr.cell? ⟨b, off + k * 3 + 1, none⟩ = some (.int .i64 x.f) := hcs 1 _ rfl
        have xc2 : wr.cell? ⟨b, off + k * 3 + 2, none⟩ = some (.int .i64 x.t) := hcs 2 _ rfl
        have HC := Lib.hid (HST2.out (wr.alloc (.cells #[.int .i64 x.p, .int .i64 x.f, .int .i64 x.t] 114)) ((K3.out.trans (HB.out.mono K3.out.size)).trans ((below1 _ _).mono (Nat.le_trans K3.out.size HB.out.size))) x (List.mem_of_getElem? hxk))
        have HDR : Hid (stopsF p o (ts.drop k) = if (stopF p o x).1 ≠ 0 then stopF p o x else stopsF p o (ts.drop (k + 1))) := Lib.hid (by rw [List.drop_eq_getElem_cons hlt2, show ts[k] = x from by rw [List.getElem?_eq_getElem hlt2] at hxk; exact Option.some.inj hxk]; rfl)
        have X4 := Lib.hid ((A3.out.below HB.out).below (below1 wr (.cells #[.int .i64 x.p, .int .i64 x.f, .int .i64 x.t] 114)))
        have O4 := Lib.hid (O3.out.below HB.out)
        have K4 := Lib.hid ((K3.out.trans (HB.out.mono K3.out.size)).trans ((below1 wr (.cells #[.int .i64 x.p, .int .i64 x.f, .int .i64 x.t] 114)).mono (Nat.le_trans K3.out.size HB.out.size)))
        have hwb : b < wr.heap.size := by have := HB.out.size; omega
        clear hcs
        obtain ⟨r, hr⟩ : ∃ r, r = stopF p o x := ⟨_, rfl⟩
        rw [← hr] at HC HDR
        clear hr hxk
        obtain ⟨rf, ra⟩ := r
        simp only at HC HDR
        by_cases hz : rf = 0
        · have HS3 := Lib.hid (HSD.out.trans (HDR.out.trans (if_neg (by simp [hz]))))
          subst hz
          clear HDR HSD
          go_wp2_with (first
            | ((with_reducible refine ldB Try.underlying43 rfl infoOp w.heap.size 0 oA ?_ ?_ (O4.out.below (below1 _ _)) (Sub.all _) HOZ.out ?_); rfl; rfl)
            | (go_at_call 55
               refine HC.out.mono ?_
               rintro e w5 ⟨rfl, hb5⟩
               have HB5 := Lib.hid ((HB.out.alloc HB.out.size (.cells #[.int .i64 x.p, .int .i64 x.f, .int .i64 x.t] 114)).trans (hb5.mono (Nat.le_trans HB.out.size (by simp))))
               clear hb5))
          go_roundw
          case rel => exact ⟨k + 1, by omega, by go_num, HB5, HS3⟩
          case measure => simp [intOf]; omega
        · have HS3 := Lib.hid (HSD.out.trans (HDR.out.trans (if_pos hz)))
          have hne : (rf != 0) = true := by rw [bne_iff_ne]; exact hz
          have HR : Hid (rs = (p, faultA rf ra)) := Lib.hid (by rw [HS2.out, HS3.out]; exact if_pos hz)
          clear HDR HSD HS3
          go_wp2_with (first
            | ((with_reducible refine ldB Try.underlying43 rfl infoOp w.heap.size 0 oA ?_ ?_ (O4.out.below (below1 _ _)) (Sub.all _) HOZ.out ?_); rfl; rfl)
            | (go_at_call 55
               refine HC.out.mono ?_
               rintro e w5 ⟨rfl, hb5⟩
               have X5 := Lib.hid (X4.out.below (hb5.mono (by simp)))
               have K5 := Lib.hid (K4.out.trans (hb5.mono K4.out.size))
               clear hb5)
            | (go_at_call 56; refine (HFU.out _ _ _).mono ?_; rintro e w9 ⟨rfl, hb9⟩; have X9 := Lib.hid (X5.out.below hb9); have K9 := Lib.hid (K5.out.trans (hb9.mono K5.out.size)); clear hb9)
            | ((with_reducible refine stB infoN (w.heap.size + 1) (nA (faultA rf ra)) ?_ ?_ X9.out rfl rfl (nA_one _) ?_); rfl; rfl))
          try simp only [Exit.inBlock, Exit.then]
          refine bodyPost_ret (v := (faultA rf ra).v) ?_ rfl ?_
          rotate_left
          · rw [HR.out]; exact ⟨rfl, cs, (HX.out.below K9.out).orow (by omega) _, (HP.out.below K9.out).rt (fun v h => h.row X9.out (by decide) _), (Keep.of K9.out).row (.inr (by omega)) _⟩
          · rw [results_cell1 rfl]; simp [asAddr, Result.andThen, Act.put, run_ansv (X9.out.row _)]
      · have hkn : k = ts.length := by omega
        have HS3 : Hid (rs = (tgP p ad sz ta, failA 0)) := Lib.hid (by rw [HS2.out, HSD.out, hkn, List.drop_length]; exact if_neg (by simp [stopsF]))
        clear HSD hkn
        obtain ⟨w4, hw4⟩ : ∃ w4, w4 = wr := ⟨_, rfl⟩
        rw [← hw4] at HB ⊢
        clear hw4
        have X4 := Lib.hid (A3.out.below HB.out)
        have O4 := Lib.hid (O3.out.below HB.out)
        have K4 := Lib.hid (K3.out.trans (HB.out.mono K3.out.size))
        have HO4 := Lib.hid (HO3.out.below HB.out (Nat.le_refl _))
        have PK4 : Hid (PvK g (tgP p ad 0 ta) w4 w4) := Lib.hid ⟨cs, HX.out.below K4.out, (HP.out.below K4.out).tg0 ad ta, Keep.refl _ _⟩
        have GA : Hid (¬ g = w.heap.size + 1) := Lib.hid (by omega)
        clear HB
        go_wp2
        go_loopw [11, 55] (fun v i wr => ∃ (j f m : Nat), j ≤ ts.length ∧ i = .int .i64 j ∧ v = .int .i64 0 ∧ m % 16 = 0 ∧ (m : Int) ≤ sz ∧ Hid (ts.drop j = tchs (ad + sz) f (ad + m)) ∧ Hid (Fuel2 (ad + sz) (ad + m) f) ∧ Hid (PvK g (tgP p ad m ta) w4 wr)) (fun _ i _ => ts.length - (intOf i).toNat)
        case atStart => exact ⟨0, 65, 0, by omega, rfl, rfl, rfl, by omega, Lib.hid (by rw [List.drop_zero, HTE.out]; simp), Lib.hid (.inr (by omega)), PK4⟩
        case round =>
          obtain ⟨j, f, m, hj, rfl, rfl, hm16, hm, HTD, HFU2, HPK⟩ := hrel
          have HKW : Hid (Keep (fun b => b = g) w4 wr) := Lib.hid (by obtain ⟨_, _, _, h⟩ := HPK.out; exact h)
          by_cases hlt3 : j < ts.length
          · obtain ⟨pn, ki, f2, hpk, hki, HXJ, HTD2, HFU3⟩ := next_touch hb0 hb2 hlt3 HTD.out HFU2.out
            obtain ⟨b, off, rfl, hbl⟩ := R3.out.open (by omega)
            have hcs := (HO4.out.keepg HKW.out LO3.out).cellsO fT_len HXJ
            obtain ⟨e1, he1⟩ : ∃ e1 : Int, e1 = min (ad + sz) ((pn + 1) * 64) := ⟨_, rfl⟩
            rw [← he1] at HTD2 HFU3 hcs
            have xc0 : wr.cell? ⟨b, off + j * 3, none⟩ = some (.int .i64 pn) := hcs 0 _ rfl
            have xc1 : wr.cell? ⟨b, off + j * 3 + 1, none⟩ = some (.int .i64 ki) := hcs 1 _ rfl
            have xc2 : wr.cell? ⟨b, off + j * 3 + 2, none⟩ = some (.int .i64 (e1 - pn * 64)) := hcs 2 _ rfl
            have hwb : b < wr.heap.size := lt_of_cell xc0
            have HTD3 := Lib.hid HTD2
            have HFU4 := Lib.hid HFU3
            have be1 : ad + m < e1 ∧ e1 ≤ ad + sz ∧ e1 ≤ pn * 64 + 64 := by
              have h := HFU2.out
              unfold Fuel2 at h
              have : ¬ ad + sz ≤ ad + m := fun hh => by
                have h9 := HTD.out
                rw [List.drop_eq_getElem_cons hlt3] at h9
                cases f with
                | zero => cases h9
                | succ f => unfold tchs at h9; rw [if_neg (by omega)] at h9; cases h9
              omega
            obtain ⟨be1, be2, be3⟩ := be1
            have bpn : pn < 64 := by omega
            have bki : ki % 16 = 0 := by omega
            have be4 : e1 % 16 = 0 := by omega
            clear hcs HTD HFU2 HXJ HTD2 HFU3 he1
            go_wp2
            have T5 := Lib.hid (Bx.new wr 114 #[.int .i64 pn, .int .i64 ki, .int .i64 (e1 - pn * 64)])
            have hw5b := below1 wr (.cells #[.int .i64 pn, .int .i64 ki, .int .i64 (e1 - pn * 64)] 114)
            have O5 := Lib.hid ((HKW.out.bx O4.out (by omega)).below hw5b)
            have PK5 := Lib.hid (HPK.out.more hw5b)
            have GT : Hid (¬ wr.heap.size = g) := Lib.hid (by
              obtain ⟨_, h, _, _⟩ := HPK.out
              have := h.lt
              omega)
            obtain ⟨tb, htb⟩ : ∃ tb, tb = wr.heap.size := ⟨_, rfl⟩
            rw [← htb] at T5 GT ⊢
            obtain ⟨w5, hw5⟩ : ∃ w5, w5 = wr.alloc (.cells #[.int .i64 pn, .int .i64 ki, .int .i64 (e1 - pn * 64)] 114) := ⟨_, rfl⟩
            rw [← hw5] at T5 O5 PK5 ⊢
            clear hw5 htb hw5b xc0 xc1 xc2 hwb HKW HPK
            have t0 : w5.cell? ⟨tb, 0, none⟩ = some (.int .i64 pn) := by rw [T5.out.cell]; rfl
            have l5 : tb < w5.heap.size := T5.out.lt
            have gc : ∀ (d : Nat) (os : Array Obj) (b o : Nat), b < w5.heap.size → (grow (redrawn w5 d) os).cell? ⟨b, o, none⟩ = w5.cell? ⟨b, o, none⟩ := fun d os b o h => (below_regrown _ d os).cell (p := ⟨b, o, none⟩) h
            refine wp_region_rel1 [] (by kernel_rfl) (by kernel_rfl) ?_
            intro V hV
            repeat (first | (refine rel_quiet rfl rfl ?_; go_big_quiet_step (fail); refine wpQuiet_nil ?_) | (refine rel_nil ⟨g, 0, none⟩ (by kernel_rfl) rfl rfl ?_; go_big_quiet_step (fail); refine wpQuiet_nil ?_))
            intro w6 hb6 hf
            clear hf hV gc t0 l5
            have T6 := Lib.hid (T5.out.below hb6)
            have O6 := Lib.hid (O5.out.below hb6)
            have PK6 := Lib.hid (PK5.out.more hb6)
            have PK66 : Hid (PvK g (tgP p ad m ta) w6 w6) := Lib.hid (by obtain ⟨c, h1, h2, _⟩ := PK6.out; exact ⟨c, h1, h2, Keep.refl _ _⟩)
            clear hb6
            have t1 : w6.cell? ⟨tb, 1, none⟩ = some (.int .i64 ki) := by rw [T6.out.cell]; rfl
            have l6 : tb < w6.heap.size := T6.out.lt
            have lo6 : w.heap.size < w6.heap.size := O6.out.lt
            have c0 : w6.cell? ⟨w.heap.size, 0, none⟩ = some (.int .i64 13) := by rw [O6.out.cell]; exact O0.out
            obtain ⟨kg, hkg⟩ : ∃ kg : Nat, ki = 16 * kg := ⟨ki / 16, by omega⟩
            subst hkg
            have htd : Int.tdiv ((16 * kg : Nat) : Int) 16 = kg := by rw [Int.tdiv_eq_ediv_of_nonneg (by omega)]; omega
            go_wp2
            clear t1 l6 lo6 c0 htd
            go_loopw [16] (fun kk wr => ∃ (q kj : Nat), (pn : Int) * 64 + kj * 16 = ad + q ∧ ad + q ≤ e1 ∧ kk = .int .i64 kj ∧ Hid (PvK g (tgP p ad q ta) w6 wr)) (fun kk _ => 64 - (intOf kk).toNat)
            case atStart => exact ⟨m, kg, by omega, by omega, by first | rfl | (congr 1; omega), PK66⟩
            case round =>
              obtain ⟨q, kj, hq1, hq2, rfl, HPK7⟩ := hrel
              have HKW7 : Hid (Keep (fun b => b = g) w6 wr) := Lib.hid (by obtain ⟨_, _, _, h⟩ := HPK7.out; exact h)
              have T7 := Lib.hid (HKW7.out.bx T6.out GT.out)
              have O7 := Lib.hid (HKW7.out.bx O6.out (by omega))
              have t2 : wr.cell? ⟨tb, 2, none⟩ = some (.int .i64 (e1 - pn * 64)) := by rw [T7.out.cell]; rfl
              have l7 : tb < wr.heap.size := T7.out.lt
              have lo7 : w.heap.size < wr.heap.size := O7.out.lt
              have c0 : wr.cell? ⟨w.heap.size, 0, none⟩ = some (.int .i64 13) := by rw [O7.out.cell]; exact O0.out
              have c11 : wr.cell? ⟨w.heap.size, 11, none⟩ = some (.int .i64 ta) := by rw [O7.out.cell]; exact O11.out
              by_cases hlt4 : ad + q < e1
              · obtain ⟨c7, hx7, hp7, hk7⟩ := HPK7.out
                have XX := Lib.hid hx7
                have PP := Lib.hid hp7
                have l8 : g < wr.heap.size := hx7.lt
                have hgo : (kj : Int) < Int.tdiv (e1 - pn * 64) 16 := by rw [Int.tdiv_eq_ediv_of_nonneg (by omega)]; omega
                have hgo2 : (kj : Int) < (e1 - pn * 64) / 16 := by omega
                have hkj : kj < 4 := by omega
                clear hx7 hp7 hk7
                go_wp2
                have gc : ∀ (d : Nat) (os : Array Obj) (b o : Nat), b < wr.heap.size → (grow (redrawn wr d) os).cell? ⟨b, o, none⟩ = wr.cell? ⟨b, o, none⟩ := fun d os b o h => (below_regrown _ d os).cell (p := ⟨b, o, none⟩) h
                refine wp_region_rel_tail 7 [] (by kernel_rfl) (by kernel_rfl) (by kernel_rfl) ?_
                intro V hV
                simp only [List.take_succ_cons, List.take_zero, List.drop_succ_cons, List.drop_zero]
                repeat (first | (refine rel_quiet rfl rfl ?_; go_big_quiet_step (fail); refine wpQuiet_nil ?_) | (refine rel_nil ⟨g, 10 + pn * 68, none⟩ (by kernel_rfl) rfl rfl ?_; go_big_quiet_step (fail); refine wpQuiet_nil ?_))
                intro w8 hb8 hf
                clear hf hV gc
                have X8 := Lib.hid (XX.out.below hb8)
                have l9 : g < w8.heap.size := X8.out.lt
                have c9 : w8.cell? ⟨g, 10 + pn * 68 + 64 + kj, none⟩ = some (.int .i64 ((tgP p ad q ta).tg pn kj)) := by rw [X8.out.cell]; exact PP.out.tg pn kj bpn hkj
                have f9 : w8.frozen? ⟨g, 10 + pn * 68 + 64 + kj, none⟩ = false := X8.out.free _
                have PK9 : Hid (PvK g (tgP p ad (q + 16 : Nat) ta) w6 (w8.setCell ⟨g, 10 + pn * 68 + 64 + kj, none⟩ (.int .i64 ta))) := Lib.hid ⟨_, X8.out.set _ _, by
                  have h := (PP.out.below hb8).tg1 (n := pn) (i := kj) bpn hkj (by omega) (by omega)
                  exact h.rt (fun v hr => hr.cell X8.out (by decide) _ _), (HKW7.out.more hb8).cell (.inl rfl) _ _⟩
                clear hb8
                go_wp2
                go_roundw
                case rel => exact ⟨q + 16, kj + 1, by omega, by omega, by go_num, PK9⟩
                case measure => simp [intOf]; omega
              · have hqe : ad + q = e1 := by omega
                have hgo : Int.tdiv (e1 - pn * 64) 16 ≤ (kj : Int) := by rw [Int.tdiv_eq_ediv_of_nonneg (by omega)]; omega
                have hgo2 : (e1 - pn * 64) / 16 ≤ (kj : Int) := by omega
                have HTD5 : Hid (ts.drop (j + 1) = tchs (ad + sz) f2 (ad + q)) := Lib.hid (by rw [hqe]; exact HTD3.out)
                have HFU5 : Hid (Fuel2 (ad + sz) (ad + q) f2) := Lib.hid (by rw [hqe]; exact HFU4.out)
                have hq9 : (q : Int) ≤ sz := by omega
                have hq16 : q % 16 = 0 := by omega
                have PK9 := Lib.hid (PK6.out.trans HPK7.out)
                clear hqe HTD3 HFU4
                go_wp2
                go_roundw
                case rel => exact ⟨j + 1, f2, q, by omega, by go_num, rfl, hq16, hq9, HTD5, HFU5, PK9⟩
                case measure => simp [intOf]; omega
          · have hjn : j = ts.length := by omega
            have hms : (m : Int) = sz := by
              have h := HTD.out
              rw [hjn, List.drop_length] at h
              have h2 := HFU2.out
              unfold Fuel2 at h2
              by_cases hl : ad + m < ad + sz
              · cases f with
                | zero => omega
                | succ f => unfold tchs at h; rw [if_pos hl] at h; cases h
              · omega
            have X9 := Lib.hid (HKW.out.bx X4.out (by omega))
            have K9 := Lib.hid ((Keep.of (S := fun b => b = g) K4.out).trans HKW.out (fun _ _ h => h))
            have PK9 : Hid (PvK g (tgP p ad sz ta) w4 wr) := Lib.hid (by rw [← hms]; exact HPK.out)
            clear HTD HFU2 hjn hms HPK HKW
            go_wp2_with (((with_reducible refine stB infoN (w.heap.size + 1) (nA (failA 0)) ?_ ?_ X9.out rfl rfl (nA_one _) ?_); rfl; rfl))
            try simp only [Exit.inBlock, Exit.then]
            refine bodyPost_ret (v := (failA 0).v) ?_ rfl ?_
            rotate_left
            · rw [HS3.out]
              obtain ⟨c9, h1, h2, h3⟩ := PK9.out
              exact ⟨rfl, c9, h1.orow (by omega) _, h2.rt (fun v h => h.row X9.out (by decide) _), K9.out.row (.inr (by omega)) _⟩
            · rw [results_cell1 rfl]; simp [asAddr, Result.andThen, Act.put, run_ansv (X9.out.row _)]
end Go.Proofs.Ytglnnplijienbaa

/- flat: Do, exit and look. -/
namespace Go.Proofs.Ytglnnplijienbaa
open Go.ChangeShapes Go.WideShapes Go.ChangeAt Go.RowKit Go.Joins Go.Sort
set_option linter.unusedVariables false
set_option linter.unusedSimpArgs false
set_option maxRecDepth 100000
theorem Ws.more {w w' : World} {gw : Nat} {gs : Nat → Nat} {W : Fw} (h : Ws w gw gs W) {k : Nat} (hk : k < 4) {p : Fp} (hp : PvK (gs k) p w w') : Ws w' gw gs (updW W k p) := by
  obtain ⟨cs, h1, h2, h3⟩ := hp
  refine ⟨h3.bx h.top (h.ne hk), fun j hj => ?_, h.inj⟩
  by_cases e : j = k
  · subst e; rw [updW_at]; exact ⟨cs, h1, h2⟩
  · rw [updW_ne _ _ e]
    obtain ⟨c, e1, e2⟩ := h.each j hj
    obtain ⟨c2, e3, _⟩ := h.each k hk
    exact ⟨c, h3.bx e1 (fun hh => e (h.inj j k hj hk hh)), e2.keepg h3 e3⟩
theorem WsK.of_p {w w' : World} {gw : Nat} {gs : Nat → Nat} {W : Fw} (h : Ws w gw gs W) {k : Nat} (hk : k < 4) {p : Fp} (hp : PvK (gs k) p w w') : WsK gw gs (updW W k p) w w' :=
  ⟨gs, h.more hk hp, by obtain ⟨_, _, _, h3⟩ := hp; exact (Keep.refl _ _).trans h3 (fun i _ e => .inr ⟨k, hk, e⟩), fun _ _ => .inl rfl⟩
theorem look_any {w : World} {g : Nat} {cs : Array Value} {p : Fp} (hx : Bx w g 78 cs) (hp : Pv w cs p) (hok : OkP p) (o : Fop) (ho : o.fits) (hk : 10 ≤ o.kind ∧ o.kind ≤ 13) :
    Calls Try.prog 38 #[.pointer (some ⟨g, 0, none⟩), .agg (opA o)] w (GivesL g (lookF p o) w) := by
  have : o.kind = 10 ∨ o.kind = 11 ∨ o.kind = 12 ∨ o.kind = 13 := by omega
  rcases this with h | h | h | h
  · exact lookR hx hp hok o ho (.inl h)
  · exact look11 hx hp hok o ho h
  · exact lookR hx hp hok o ho (.inr h)
  · exact look13 hx hp hok o ho h
set_option maxHeartbeats 16000000 in
theorem do_look {w : World} {gw : Nat} {gs : Nat → Nat} {W : Fw} (h : Ws w gw gs W) (hok : OkW W) (o : Fop) (ho : o.fits) (hk : 10 ≤ o.kind ∧ o.kind ≤ 13) (h0 : 0 ≤ o.proc) (h4 : o.proc < 4) (hl : (W o.proc.toNat).live = true) :
    Calls Try.prog 22 #[.pointer (some ⟨gw, 0, none⟩), .agg (opA o)] w (GivesW gw gs (doF W o) w) := by
  have HFA := Lib.hid (fun (e : Int) (W : World) => fails_any e W)
  have HWS := Lib.hid h
  have hgw := h.top.lt
  have HR : Hid (doF W o = (updW W o.proc.toNat (lookF (W o.proc.toNat) o).1, (lookF (W o.proc.toNat) o).2)) := Lib.hid (by
    unfold doF
    rw [if_neg (by omega), if_neg (by omega), if_neg (by rintro (h | h | h); omega; omega; rw [hl] at h; cases h)]
    rw [if_neg (by omega), if_neg (by omega), if_neg (by omega), if_neg (by omega)])
  have hW1 : Below w.heap.size w ((w.alloc (.cells (opA o) 43)).alloc (.cells #[.int .i64 0, .int .i64 0, .int .i64 0, .int .i64 0] 47)) := (below1 _ _).alloc (by simp) _
  have hO1 : Bx ((w.alloc (.cells (opA o) 43)).alloc (.cells #[.int .i64 0, .int .i64 0, .int .i64 0, .int .i64 0] 47)) w.heap.size 43 (opA o) := (Bx.new _ _ _).below (below1 _ _)
  have hA1 : Bx ((w.alloc (.cells (opA o) 43)).alloc (.cells #[.int .i64 0, .int .i64 0, .int .i64 0, .int .i64 0] 47)) (w.heap.size + 1) 47 #[.int .i64 0, .int .i64 0, .int .i64 0, .int .i64 0] := by
    have := Bx.new (w.alloc (.cells (opA o) 43)) 47 #[.int .i64 0, .int .i64 0, .int .i64 0, .int .i64 0]
    rwa [World.size_alloc] at this
  obtain ⟨w1, hw1⟩ : ∃ w1, w1 = ((w.alloc (.cells (opA o) 43)).alloc (.cells #[.int .i64 0, .int .i64 0, .int .i64 0, .int .i64 0] 47)) := ⟨_, rfl⟩
  have HW1 := Lib.hid hw1
  rw [← hw1] at hW1 hO1 hA1
  have K1 := Lib.hid hW1
  have O1 := Lib.hid hO1
  have A1 := Lib.hid hA1
  have c0 : ((w.alloc (.cells (opA o) 43)).alloc (.cells #[.int .i64 0, .int .i64 0, .int .i64 0, .int .i64 0] 47)).cell? ⟨w.heap.size, 0, none⟩ = some (.int .i64 o.kind) := by rw [← hw1, O1.out.cell]; rfl
  clear h hw1 hW1 hO1 hA1
  have OP : Hid ((opA o)[1]? = some (.int .i64 o.proc)) := Lib.hid rfl
  have OK : Hid ((opA o)[0]? = some (.int .i64 o.kind)) := Lib.hid rfl
  have HOZ : Hid ((opA o).size = 12) := Lib.hid rfl
  generalize doF W o = rs at *
  obtain ⟨kd, hkd⟩ : ∃ kd, kd = o.kind := ⟨_, rfl⟩
  obtain ⟨pr, hpr⟩ : ∃ pr, pr = o.proc := ⟨_, rfl⟩
  have hko := hk
  rw [← hkd] at c0 OK hk
  rw [← hpr] at OP h0 h4 hl
  rw [← hpr] at HR
  clear hkd hpr
  obtain ⟨k, rfl⟩ := Int.eq_ofNat_of_zero_le h0
  have hk4 : k < 4 := by omega
  simp only [Int.toNat_natCast] at hl HR
  have hd : decide ((k : Int) < 0) = false := decide_eq_false (by omega)
  have hd4 : decide (4 ≤ (k : Int)) = false := decide_eq_false (by omega)
  have hd5 : decide (4 ≤ k) = false := decide_eq_false (by omega)
  have HLK := Lib.hid (fun (w' : World) (hb : Below w.heap.size w w') => by
    obtain ⟨cs, h1, h2⟩ := (HWS.out.below hb).each k hk4
    exact look_any h1 h2 (hok.p k) o ho hko)
  clear hko
  obtain ⟨oA, hoA⟩ : ∃ oA, oA = opA o := ⟨_, rfl⟩
  rw [← hoA] at HW1 O1 c0 OP OK HOZ HLK ⊢
  clear hoA ho h0 h4
  obtain ⟨r, hr⟩ : ∃ r, r = lookF (W k) o := ⟨_, rfl⟩
  rw [← hr] at HLK HR
  clear hr hok
  have hkk : kd = 10 ∨ kd = 11 ∨ kd = 12 ∨ kd = 13 := by omega
  clear hk
  rcases hkk with rfl | rfl | rfl | rfl
  all_goals
    go_enter Try.func22, Try.ntmps22
    go_wp2
    rw [← HW1.out]
    clear c0
    have c1 : w1.cell? ⟨w.heap.size, 1, none⟩ = some (.int .i64 k) := by rw [O1.out.cell]; exact OP.out
    have l1 : w.heap.size < w1.heap.size := O1.out.lt
    have gc : ∀ (d : Nat) (os : Array Obj) (b o : Nat), b < w1.heap.size → (grow (redrawn w1 d) os).cell? ⟨b, o, none⟩ = w1.cell? ⟨b, o, none⟩ := fun d os b o h => (below_regrown _ d os).cell (p := ⟨b, o, none⟩) h
    have WS1 := Lib.hid (HWS.out.below K1.out)
    have cw : w1.cell? ⟨gw, k, none⟩ = some (.pointer (some ⟨gs k, 0, none⟩)) := WS1.out.at_ hk4
    have lw : gw < w1.heap.size := WS1.out.top.lt
    have cl : w1.cell? ⟨gs k, 0, none⟩ = some (.bool true) := by rw [WS1.out.cells hk4, hl]
    have ll : gs k < w1.heap.size := lt_of_cell cl
    refine wp_rel [] (by kernel_rfl) (by kernel_rfl) ?_
    intro V hV
    iterate 12 (refine rq rfl rfl ?_; go_big_quiet_step (fail); refine wpQuiet_nil ?_)
    refine rn ⟨gw, 0, none⟩ (by kernel_rfl) rfl rfl ?_; go_big_quiet_step (fail); refine wpQuiet_nil ?_
    iterate 3 (refine rq rfl rfl ?_; go_big_quiet_step (fail); refine wpQuiet_nil ?_)
    refine rn ⟨gs k, 0, none⟩ (by kernel_rfl) rfl rfl ?_; go_big_quiet_step (fail); refine wpQuiet_nil ?_
    iterate 4 (refine rq rfl rfl ?_; go_big_quiet_step (fail); refine wpQuiet_nil ?_)
    refine rend ?_
    intro w3 hb3 hf
    clear hf hV gc c1 l1 cw lw cl ll
    have A3 := Lib.hid (A1.out.below hb3)
    have O3 := Lib.hid (O1.out.below hb3)
    have K3 := Lib.hid (K1.out.trans (hb3.mono K1.out.size))
    have WS3 := Lib.hid (WS1.out.below hb3)
    clear hb3
    go_wp2
    have c1 : w3.cell? ⟨w.heap.size, 1, none⟩ = some (.int .i64 k) := by rw [O3.out.cell]; exact OP.out
    have l1 : w.heap.size < w3.heap.size := O3.out.lt
    have cw : w3.cell? ⟨gw, k, none⟩ = some (.pointer (some ⟨gs k, 0, none⟩)) := WS3.out.at_ hk4
    have lw : gw < w3.heap.size := WS3.out.top.lt
    have gc : ∀ (d : Nat) (os : Array Obj) (b o : Nat), b < w3.heap.size → (grow (redrawn w3 d) os).cell? ⟨b, o, none⟩ = w3.cell? ⟨b, o, none⟩ := fun d os b o h => (below_regrown _ d os).cell (p := ⟨b, o, none⟩) h
    refine wp_rel [] (by kernel_rfl) (by kernel_rfl) ?_
    intro V hV
    iterate 3 (refine rq rfl rfl ?_; go_big_quiet_step (fail); refine wpQuiet_nil ?_)
    refine rn ⟨gw, 0, none⟩ (by kernel_rfl) rfl rfl ?_; go_big_quiet_step (fail); refine wpQuiet_nil ?_
    iterate 4 (refine rq rfl rfl ?_; go_big_quiet_step (fail); refine wpQuiet_nil ?_)
    refine rend ?_
    intro w5 hb5 hf
    clear hf hV gc c1 l1 cw lw
    have A5 := Lib.hid (A3.out.below hb5)
    have O5 := Lib.hid (O3.out.below hb5)
    have K5 := Lib.hid (K3.out.trans (hb5.mono K3.out.size))
    have WS5 := Lib.hid (WS3.out.below hb5)
    clear hb5
    have c0 := (O5.out.cell 0).trans OK.out
    have l0 : w.heap.size < w5.heap.size := O5.out.lt
    have HC := Lib.hid (HLK.out w5 K5.out)
    unfold GivesL at HC
    go_wp2_with (first
      | ((with_reducible refine ldB Try.underlying43 rfl infoOp w.heap.size 0 oA ?_ ?_ O5.out (Sub.all _) HOZ.out ?_); rfl; rfl)
      | (go_at_call 38
         refine HC.out.mono ?_
         rintro e w6 ⟨rfl, hk6⟩
         have WK6 := Lib.hid (WsK.of_p WS5.out hk4 hk6)
         have A6 : Hid (Bx w6 (w.heap.size + 1) 47 #[.int .i64 0, .int .i64 0, .int .i64 0, .int .i64 0]) := Lib.hid (by obtain ⟨_, _, hkp, _⟩ := WK6.out; exact hkp.bxT (w := w5) WS5.out A5.out (by decide) (by decide))
         clear hk6)
      | ((with_reducible refine stB infoN (w.heap.size + 1) (nA r.2) ?_ ?_ A6.out rfl rfl (nA_one _) ?_); rfl; rfl))
    try simp only [Exit.inBlock, Exit.then]
    refine bodyPost_ret (v := (r.2 : Fan).v) ?_ rfl ?_
    rotate_left
    · rw [HR.out]; exact ⟨rfl, (WsK.trans K5.out WK6.out).row A6.out (by omega) (by decide) (by decide) (by decide) _⟩
    · rw [results_cell1 rfl]; simp [asAddr, Result.andThen, Act.put, run_ansv (A6.out.row _)]
set_option maxHeartbeats 16000000 in
theorem do_exit {w : World} {gw : Nat} {gs : Nat → Nat} {W : Fw} (h : Ws w gw gs W) (hok : OkW W) (o : Fop) (ho : o.fits) (hk : o.kind = 9) (h0 : 0 ≤ o.proc) (h4 : o.proc < 4) (hl : (W o.proc.toNat).live = true) :
    Calls Try.prog 22 #[.pointer (some ⟨gw, 0, none⟩), .agg (opA o)] w (GivesW gw gs (doF W o) w) := by
  have HFA := Lib.hid (fun (e : Int) (W : World) => fails_any e W)
  have HWS := Lib.hid h
  have hgw := h.top.lt
  have HR : Hid (doF W o = (updW W o.proc.toNat zeroFp, failA 0)) := Lib.hid (by
    unfold doF
    rw [if_neg (by omega), if_neg (by omega), if_neg (by rintro (h | h | h); omega; omega; rw [hl] at h; cases h)]
    rw [if_neg (by omega), if_neg (by omega), if_neg (by omega), if_pos hk])
  have hW1 : Below w.heap.size w ((w.alloc (.cells (opA o) 43)).alloc (.cells #[.int .i64 0, .int .i64 0, .int .i64 0, .int .i64 0] 47)) := (below1 _ _).alloc (by simp) _
  have hO1 : Bx ((w.alloc (.cells (opA o) 43)).alloc (.cells #[.int .i64 0, .int .i64 0, .int .i64 0, .int .i64 0] 47)) w.heap.size 43 (opA o) := (Bx.new _ _ _).below (below1 _ _)
  have hA1 : Bx ((w.alloc (.cells (opA o) 43)).alloc (.cells #[.int .i64 0, .int .i64 0, .int .i64 0, .int .i64 0] 47)) (w.heap.size + 1) 47 #[.int .i64 0, .int .i64 0, .int .i64 0, .int .i64 0] := by
    have := Bx.new (w.alloc (.cells (opA o) 43)) 47 #[.int .i64 0, .int .i64 0, .int .i64 0, .int .i64 0]
    rwa [World.size_alloc] at this
  obtain ⟨w1, hw1⟩ : ∃ w1, w1 = ((w.alloc (.cells (opA o) 43)).alloc (.cells #[.int .i64 0, .int .i64 0, .int .i64 0, .int .i64 0] 47)) := ⟨_, rfl⟩
  have HW1 := Lib.hid hw1
  rw [← hw1] at hW1 hO1 hA1
  have K1 := Lib.hid hW1
  have O1 := Lib.hid hO1
  have A1 := Lib.hid hA1
  have c0 : ((w.alloc (.cells (opA o) 43)).alloc (.cells #[.int .i64 0, .int .i64 0, .int .i64 0, .int .i64 0] 47)).cell? ⟨w.heap.size, 0, none⟩ = some (.int .i64 o.kind) := by rw [← hw1, O1.out.cell]; rfl
  clear h hw1 hW1 hO1 hA1
  have OP : Hid ((opA o)[1]? = some (.int .i64 o.proc)) := Lib.hid rfl
  have OK : Hid ((opA o)[0]? = some (.int .i64 o.kind)) := Lib.hid rfl
  have HOZ : Hid ((opA o).size = 12) := Lib.hid rfl
  generalize doF W o = rs at *
  obtain ⟨kd, hkd⟩ : ∃ kd, kd = o.kind := ⟨_, rfl⟩
  obtain ⟨pr, hpr⟩ : ∃ pr, pr = o.proc := ⟨_, rfl⟩
  have hko := hk
  rw [← hkd] at c0 OK hk
  rw [← hpr] at OP h0 h4 hl
  rw [← hpr] at HR
  clear hkd hpr
  obtain ⟨k, rfl⟩ := Int.eq_ofNat_of_zero_le h0
  have hk4 : k < 4 := by omega
  simp only [Int.toNat_natCast] at hl HR
  have hd : decide ((k : Int) < 0) = false := decide_eq_false (by omega)
  have hd4 : decide (4 ≤ (k : Int)) = false := decide_eq_false (by omega)
  have hd5 : decide (4 ≤ k) = false := decide_eq_false (by omega)
  clear hko
  obtain ⟨oA, hoA⟩ : ∃ oA, oA = opA o := ⟨_, rfl⟩
  rw [← hoA] at HW1 O1 c0 OP OK HOZ  ⊢
  clear hoA ho h0 h4
  subst hk
  clear hok
  go_enter Try.func22, Try.ntmps22
  go_wp2
  rw [← HW1.out]
  clear c0
  have c1 : w1.cell? ⟨w.heap.size, 1, none⟩ = some (.int .i64 k) := by rw [O1.out.cell]; exact OP.out
  have l1 : w.heap.size < w1.heap.size := O1.out.lt
  have gc : ∀ (d : Nat) (os : Array Obj) (b o : Nat), b < w1.heap.size → (grow (redrawn w1 d) os).cell? ⟨b, o, none⟩ = w1.cell? ⟨b, o, none⟩ := fun d os b o h => (below_regrown _ d os).cell (p := ⟨b, o, none⟩) h
  have WS1 := Lib.hid (HWS.out.below K1.out)
  have cw : w1.cell? ⟨gw, k, none⟩ = some (.pointer (some ⟨gs k, 0, none⟩)) := WS1.out.at_ hk4
  have lw : gw < w1.heap.size := WS1.out.top.lt
  have cl : w1.cell? ⟨gs k, 0, none⟩ = some (.bool true) := by rw [WS1.out.cells hk4, hl]
  have ll : gs k < w1.heap.size := lt_of_cell cl
  refine wp_rel [] (by kernel_rfl) (by kernel_rfl) ?_
  intro V hV
  iterate 12 (refine rq rfl rfl ?_; go_big_quiet_step (fail); refine wpQuiet_nil ?_)
  refine rn ⟨gw, 0, none⟩ (by kernel_rfl) rfl rfl ?_; go_big_quiet_step (fail); refine wpQuiet_nil ?_
  iterate 3 (refine rq rfl rfl ?_; go_big_quiet_step (fail); refine wpQuiet_nil ?_)
  refine rn ⟨gs k, 0, none⟩ (by kernel_rfl) rfl rfl ?_; go_big_quiet_step (fail); refine wpQuiet_nil ?_
  iterate 4 (refine rq rfl rfl ?_; go_big_quiet_step (fail); refine wpQuiet_nil ?_)
  refine rend ?_
  intro w3 hb3 hf
  clear hf hV gc c1 l1 cw lw cl ll
  have A3 := Lib.hid (A1.out.below hb3)
  have O3 := Lib.hid (O1.out.below hb3)
  have K3 := Lib.hid (K1.out.trans (hb3.mono K1.out.size))
  have WS3 := Lib.hid (WS1.out.below hb3)
  clear hb3
  go_wp2
  have c1 : w3.cell? ⟨w.heap.size, 1, none⟩ = some (.int .i64 k) := by rw [O3.out.cell]; exact OP.out
  have l1 : w.heap.size < w3.heap.size := O3.out.lt
  have cw : w3.cell? ⟨gw, k, none⟩ = some (.pointer (some ⟨gs k, 0, none⟩)) := WS3.out.at_ hk4
  have lw : gw < w3.heap.size := WS3.out.top.lt
  have gc : ∀ (d : Nat) (os : Array Obj) (b o : Nat), b < w3.heap.size → (grow (redrawn w3 d) os).cell? ⟨b, o, none⟩ = w3.cell? ⟨b, o, none⟩ := fun d os b o h => (below_regrown _ d os).cell (p := ⟨b, o, none⟩) h
  refine wp_rel [] (by kernel_rfl) (by kernel_rfl) ?_
  intro V hV
  iterate 3 (refine rq rfl rfl ?_; go_big_quiet_step (fail); refine wpQuiet_nil ?_)
  refine rn ⟨gw, 0, none⟩ (by kernel_rfl) rfl rfl ?_; go_big_quiet_step (fail); refine wpQuiet_nil ?_
  iterate 4 (refine rq rfl rfl ?_; go_big_quiet_step (fail); refine wpQuiet_nil ?_)
  refine rend ?_
  intro w5 hb5 hf
  clear hf hV gc c1 l1 cw lw
  have A5 := Lib.hid (A3.out.below hb5)
  have O5 := Lib.hid (O3.out.below hb5)
  have K5 := Lib.hid (K3.out.trans (hb5.mono K3.out.size))
  have WS5 := Lib.hid (WS3.out.below hb5)
  clear hb5
  have c0 := (O5.out.cell 0).trans OK.out
  have l0 : w.heap.size < w5.heap.size := O5.out.lt
  have HGS : Hid (∀ j, j < 4 → gs j < w5.heap.size) := Lib.hid (fun j hj => by
    obtain ⟨c, h1, _⟩ := WS5.out.each j hj
    exact h1.lt)
  go_wp2
  have c1 : w5.cell? ⟨w.heap.size, 1, none⟩ = some (.int .i64 k) := by rw [O5.out.cell]; exact OP.out
  have gc : ∀ (d : Nat) (os : Array Obj) (b o : Nat), b < w5.heap.size → (grow (redrawn w5 d) os).cell? ⟨b, o, none⟩ = w5.cell? ⟨b, o, none⟩ := fun d os b o h => (below_regrown _ d os).cell (p := ⟨b, o, none⟩) h
  refine wp_relt 8 [Sp.box 4 78 Try.zeroCells78 w5.heap.size] (by kernel_rfl) (by kernel_rfl) (by kernel_rfl) ?_
  intro V hV
  obtain ⟨nb, e4⟩ : ∃ b, V 4 = .pointer (some ⟨b, 0, none⟩) := hV 4
  simp only [List.take_succ_cons, List.take_zero, List.drop_succ_cons, List.drop_zero]
  iterate 4 (refine rq rfl rfl ?_; go_big_quiet_step (fail); refine wpQuiet_nil ?_)
  refine rsp (Sp.box 4 78 Try.zeroCells78 w5.heap.size) (by kernel_rfl) rfl (fun w' hb hf => ?_) ?_
  · refine becomes_value (w' := w'.alloc (.cells Try.zeroCells78 78)) (v := .pointer (some ⟨w'.heap.size, 0, none⟩)) ?_ (below1 _ _) ⟨⟨_, rfl⟩, _, rfl, hb.size, Bx.new _ _ _⟩
    go_simp
  go_big_quiet_step (fail)
  refine wpQuiet_nil ?_
  simp only [e4]
  refine rn ⟨gw, 0, none⟩ (by kernel_rfl) rfl rfl ?_; go_big_quiet_step (fail); refine wpQuiet_nil ?_
  iterate 2 (refine rq rfl rfl ?_; go_big_quiet_step (fail); refine wpQuiet_nil ?_)
  refine rend ?_
  intro w6 hb6 hf
  obtain ⟨nb2, hnb, hng, BN⟩ : ∃ b, Value.pointer (some ⟨nb, 0, none⟩) = .pointer (some ⟨b, 0, none⟩) ∧ w5.heap.size ≤ b ∧ Bx w6 b 78 Try.zeroCells78 := hf _ (List.Mem.head _)
  cases hnb
  clear hf hV gc c0 c1 l0 e4
  have A6 := Lib.hid (A5.out.below hb6)
  have K6 := Lib.hid (K5.out.trans (hb6.mono K5.out.size))
  have WS6 := Lib.hid (WS5.out.below hb6)
  clear hb6
  have cw : w6.cell? ⟨gw, k, none⟩ = some (.pointer (some ⟨gs k, 0, none⟩)) := WS6.out.at_ hk4
  have fw : w6.frozen? ⟨gw, k, none⟩ = false := WS6.out.top.free _
  have lw : gw < w6.heap.size := WS6.out.top.lt
  have WK7 : Hid (WsK gw gs (updW W k zeroFp) w (w6.setCell ⟨gw, k, none⟩ (.pointer (some ⟨nb, 0, none⟩)))) := Lib.hid ⟨_, WS6.out.put hk4 BN (zP_pv _) (fun j hj => Nat.ne_of_lt (Nat.lt_of_lt_of_le (HGS.out j hj) hng)), (Keep.of K6.out).cell (.inl (.inl rfl)) _ _, fun j hj => by
    unfold updG
    split
    · exact .inr (Nat.le_trans K5.out.size hng)
    · exact .inl rfl⟩
  have A7 : Hid (Bx (w6.setCell ⟨gw, k, none⟩ (.pointer (some ⟨nb, 0, none⟩))) (w.heap.size + 1) 47 #[.int .i64 0, .int .i64 0, .int .i64 0, .int .i64 0]) := Lib.hid (A6.out.other (by omega) _ _)
  clear BN hng
  go_wp2_with (first
    | ((with_reducible refine stB infoN (w.heap.size + 1) (nA (failA 0)) ?_ ?_ A7.out rfl rfl (nA_one _) ?_); rfl; rfl))
  try simp only [Exit.inBlock, Exit.then]
  refine bodyPost_ret (v := (failA 0 : Fan).v) ?_ rfl ?_
  rotate_left
  · rw [HR.out]; exact ⟨rfl, WK7.out.row A7.out (by omega) (by decide) (by decide) (by decide) _⟩
  · rw [results_cell1 rfl]; simp [asAddr, Result.andThen, Act.put, run_ansv (A7.out.row _)]
end Go.Proofs.Ytglnnplijienbaa
