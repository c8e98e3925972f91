/- FlatRight: its walk. -/
import Derived.Test.YtglnnplijienbaaM44
import Derived.Test.YtglnnplijienbaaM38
import Derived.Test.YtglnnplijienbaaCFsp
namespace Go.Proofs.Ytglnnplijienbaa
open Go.ChangeShapes Go.WideShapes Go.ChangeAt Go.RowKit Go.Joins Go.Sort
set_option linter.unusedVariables false
set_option linter.unusedSimpArgs false
set_option maxRecDepth 100000
def sumP (W : Fw) : Nat → Int
  | 0 => 0
  | k + 1 => sumP W k + ((pagesN (W k).rg).length : Int)
theorem sumP_range (W : Fw) : ∀ k, 0 ≤ sumP W k ∧ sumP W k ≤ 64 * k
  | 0 => by simp [sumP]
  | k + 1 => by
    have h1 := sumP_range W k
    have h2 := pages_le (W k).rg
    unfold sumP
    omega
theorem sumP_all {W : Fw} (h : OkW W) : sumP W 4 ≤ 64 := by
  have := mapped_sum h
  unfold sumP sumP sumP sumP sumP
  omega
/-- One process out of the array. -/
theorem Seem.one_ {w : World} {B : Nat} {cs : Array Value} {W : Fw} (h : Seem w B cs W) {k : Nat} (hk : k < 4) : (cs.extract (k * 11) (k * 11 + 11)).size = 11 ∧ (cs.extract (k * 11) (k * 11 + 11)).all (·.oneCell') = true ∧ Sv w B (cs.extract (k * 11) (k * 11 + 11)) 0 (W k) := by
  have hs := h.size
  have hget : ∀ j, j < 11 → (cs.extract (k * 11) (k * 11 + 11))[j]? = cs[k * 11 + j]? := fun j hj => by
    rw [Array.getElem?_extract, hs, if_pos (by omega)]
  refine ⟨by rw [Array.size_extract, hs]; omega, all_extract h.one _ _, ?_⟩
  have hv := h.each k hk
  refine ⟨by rw [← hv.live]; exact hget 0 (by decide), ?_, fun i u hu => ?_, ?_⟩
  · obtain ⟨v, h1, h2⟩ := hv.rg; exact ⟨v, by rw [← h1]; exact hget 1 (by decide), h2⟩
  · have hi : i < 8 := by have := (Array.getElem?_eq_some_iff.1 hu).1; simpa [kA] using this
    have e := hget (2 + i) (by omega)
    rw [← Nat.add_assoc] at e
    rw [Nat.zero_add, e]; exact hv.ks i u hu
  · obtain ⟨v, h1, h2⟩ := hv.pg; exact ⟨v, by rw [← h1]; exact hget 10 (by decide), h2⟩
attribute [local go_sem] and_2 and_4
set_option maxHeartbeats 16000000 in
theorem flatRight_walk {w : World} (A : Option Addr) (n c : Nat) (xs : List Fop) (hz : Rw fO 12 w w.heap.size A n xs) (hwf : ∀ x ∈ xs, x.fits) (hcap : n ≤ c) (_ : c ≤ maxLen) (hbig : c ≤ 1466015503658) :
    Calls Try.prog 3 #[.slice A n c] w fun e w' => e = .returned (.bool true) ∧ Below w.heap.size w w' := by
  have HRUN : Hid (∀ w', Below w.heap.size w w' → Calls Try.prog 9 #[.slice A n c] w' (GivesRun w' xs)) := Lib.hid (fun w' hb => run_any A n c xs w' _ (hz.on hb (Nat.le_refl _)) (Nat.le_refl _) (by omega) hwf)
  have HOK := Lib.hid (ok_run xs)
  clear hz hwf
  go_enter Try.func3, Try.ntmps3
  go_wp2_with (first
    | (go_at_call 8; refine (alive14_any w).mono ?_; rintro e w1 ⟨rfl, hb1⟩; have HB1 := Lib.hid hb1; clear hb1)
    | (go_at_call 9
       refine (HRUN.out w1 HB1.out).mono ?_
       rintro e w2 ⟨va, cs, rfl, ha, hs, hb2⟩
       have HS := Lib.hid hs.size
       have HO := Lib.hid hs.one
       have HSE := Lib.hid hs
       have HB2 := Lib.hid (HB1.out.trans (hb2.mono HB1.out.size))
       obtain ⟨Aa, na, rfl⟩ : ∃ Aa na, va = .slice Aa (runF xs).2.length na := by obtain ⟨A', c', e, _⟩ := ha.form; exact ⟨A', c', e⟩
       clear ha hs hb2)
    | ((with_reducible refine stN infoS4 cs ?_ ?_ rfl HS.out HO.out ?_); rfl; rfl)
    | ((with_reducible refine ldB Try.underlying32 rfl infoS4 w2.heap.size 0 cs ?_ ?_ (Bx.new _ _ _) (Sub.all _) HS.out ?_); rfl; rfl))
  obtain ⟨w3, hw3⟩ : ∃ w3, w3 = w2.alloc (.cells cs 32) := ⟨_, rfl⟩
  have HB3 : Hid (Below w.heap.size w w3) := Lib.hid (by rw [hw3]; exact HB2.out.trans ((below1 _ _).mono HB2.out.size))
  have HSE3 : Hid (Seem w3 w1.heap.size cs (runF xs).1) := Lib.hid (by rw [hw3]; exact HSE.out.below (below1 _ _))
  rw [← hw3]
  clear hw3 HB2 HSE HRUN
  obtain ⟨S, hS⟩ : ∃ S, S = (runF xs).1 := ⟨_, rfl⟩
  rw [← hS] at HOK HSE3
  clear hS
  go_loopw [18, 5] (fun i t wr => ∃ k : Nat, k ≤ 4 ∧ i = .int .i64 k ∧ t = .int .i64 (sumP S k) ∧ Hid (Below w3.heap.size w3 wr)) (fun i _ _ => 4 - (intOf i).toNat)
  case atStart => exact ⟨0, by omega, rfl, rfl, Lib.hid (Below.refl _ _)⟩
  case round =>
    obtain ⟨k, hk, rfl, rfl, HB⟩ := hrel
    by_cases hlt : k < 4
    · obtain ⟨hr1, hr2, hsv⟩ := HSE3.out.one_ hlt
      have hsv := hsv.keepT (KeepT.of HB.out)
      have hidx : ∀ W, (Instr.index 32 (.agg cs) (.int .i64 (k : Int))).run Try.prog W = .ok (.agg (cs.extract (k * 11) (k * 11 + 11))) W := fun W => index_aggs Try.underlying32 infoS1 (fun w => by simp [Try.isAgg31]) hlt W
      obtain ⟨r, hr⟩ : ∃ r, r = cs.extract (k * 11) (k * 11 + 11) := ⟨_, rfl⟩
      rw [← hr] at hr1 hr2 hsv hidx
      have HR1 := Lib.hid hr1
      have HR2 := Lib.hid hr2
      have HSV := Lib.hid hsv
      have HPK := Lib.hid (HOK.out.p k)
      have HSK : Hid (sumP S (k + 1) = sumP S k + ((pagesN (S k).rg).length : Int)) := Lib.hid rfl
      have hrg := sumP_range S k
      have hpl := pages_le (S k).rg
      clear hr hr1 hr2 hsv
      generalize hp : S k = p at *
      clear hp
      go_wp2_with (first
        | ((with_reducible refine stN infoS1 r ?_ ?_ rfl HR1.out HR2.out ?_); rfl; rfl))
      have X5 : Hid (Bx (wr.alloc (.cells r 31)) wr.heap.size 31 r) := Lib.hid (Bx.new _ _ _)
      have K5 := Lib.hid (HB.out.trans ((below1 wr (.cells r 31)).mono HB.out.size))
      have S5 := Lib.hid (HSV.out.keepT (KeepT.of (below1 wr (.cells r 31))))
      obtain ⟨w5, hw5⟩ : ∃ w5, w5 = wr.alloc (.cells r 31) := ⟨_, rfl⟩
      have E5 : w5.heap.size = wr.heap.size + 1 := by rw [hw5]; simp
      rw [← hw5] at X5 K5 S5 ⊢
      clear hw5 HSV hidx
      obtain ⟨bb, hbb⟩ : ∃ bb, bb = wr.heap.size := ⟨_, rfl⟩
      rw [← hbb] at X5 E5 ⊢
      clear hbb HB
      obtain ⟨vr, gr, hor⟩ := S5.out.rg
      obtain ⟨vp, gp, hqp⟩ := S5.out.pg
      obtain ⟨Ar, cr, rfl, _, _, hrr⟩ := hor.row fR_len
      obtain ⟨xg, hog, hlg, _⟩ := hqp
      obtain ⟨Ap, cp, rfl, _, _, _⟩ := hog.row fG_len
      rw [hlg] at gp
      have HRR := Lib.hid hrr
      have hln := rightL_len HPK.out.r
      have HRT : Hid (∀ w', Below w5.heap.size w5 w' → Calls Try.prog 10 #[.slice Ar p.rg.length cr] w' fun e w'' => e = .returned (.bool true) ∧ Below w'.heap.size w' w'') := Lib.hid (fun w' hb => by
        have := right_any Ar p.rg.length cr p.rg w' _ (HRR.out.on hb (Nat.le_refl _)) (Nat.le_refl _) (by omega)
        rw [HPK.out.r] at this
        exact this)
      have HCT : Hid (∀ w', Below w5.heap.size w5 w' → Calls Try.prog 11 #[.slice Ar p.rg.length cr] w' fun e w'' => e = .returned (.int .i64 ((pagesN p.rg).length : Int)) ∧ Below w'.heap.size w' w'') := Lib.hid (fun w' hb => by
        have := count_any Ar p.rg.length cr p.rg w' _ (HRR.out.on hb (Nat.le_refl _)) (Nat.le_refl _) (by omega) (fun x hx => (rightL_asc HPK.out.r).mem x hx)
        rw [← pages_len HPK.out.r] at this
        exact this)
      have HDD : Hid (p.live = false → p.rg.length = 0) := Lib.hid (fun h => by rw [HPK.out.dead h]; rfl)
      have HRX : Hid (∀ (i : Nat) (x : Rgn), p.rg[i]? = some x → ¬ (x.a.r / 2 % 2 ≠ 0 ∧ x.a.r / 4 % 2 ≠ 0) ∧ 0 ≤ x.a.k ∧ x.a.k < 4 ∧ p.ks.tk x.a.k = true) := Lib.hid (fun i x hx => region_ok HPK.out x (List.mem_of_getElem? hx))
      have c0 : w5.cell? ⟨bb, 0, none⟩ = some (.bool p.live) := by rw [X5.out.cell]; exact S5.out.live
      have c1 : w5.cell? ⟨bb, 1, none⟩ = some (.slice Ar p.rg.length cr) := by rw [X5.out.cell]; exact gr
      have c2 : w5.cell? ⟨bb, 10, none⟩ = some (.slice Ap (pagesN p.rg).length cp) := by rw [X5.out.cell]; exact gp
      have l5 : bb < w5.heap.size := X5.out.lt
      have gc : ∀ (d : Nat) (os : Array Obj) (b o : Nat), b < w5.heap.size → (grow (redrawn w5 d) os).cell? ⟨b, o, none⟩ = w5.cell? ⟨b, o, none⟩ := fun d os b o h => (below_regrown _ d os).cell (p := ⟨b, o, none⟩) h
      have C1 := Lib.hid gr
      have C2 := Lib.hid gp
      simp only [Nat.zero_add] at C1 C2
      clear gr gp hor hog hlg hrr HPK
      generalize (pagesN p.rg).length = np at *
      generalize hrl : p.rg.length = rl at *
      cases hlv : p.live with
      | true =>
        rw [hlv] at c0
        simp only [Act.put]
        refine wp_rel [Sp.call 2 (.bool true), Sp.call 10 (.int .i64 (np : Int))] (by kernel_rfl) (by kernel_rfl) ?_
        intro V hV
        have e2 : V 2 = .bool true := hV 2
        have e10 : V 10 = .int .i64 (np : Int) := hV 10
        iterate 2 (refine rq rfl rfl ?_; go_big_quiet_step (fail); refine wpQuiet_nil ?_)
        refine rsp (Sp.call 2 (.bool true)) (by kernel_rfl) rfl (fun w' hb hf => ?_) ?_
        · refine becomes_known (f := 10) (args := #[.slice Ar rl cr]) ?_ (HRT.out w' hb)
          go_simp
        go_big_quiet_step (fail)
        refine wpQuiet_nil ?_
        simp only [e2]
        iterate 7 (refine rq rfl rfl ?_; go_big_quiet_step (fail); refine wpQuiet_nil ?_)
        refine rsp (Sp.call 10 (.int .i64 (np : Int))) (by kernel_rfl) rfl (fun w' hb hf => ?_) ?_
        · refine becomes_known (f := 11) (args := #[.slice Ar rl cr]) ?_ (HCT.out w' hb)
          go_simp
        go_big_quiet_step (fail)
        refine wpQuiet_nil ?_
        simp only [e10]
        iterate 7 (refine rq rfl rfl ?_; go_big_quiet_step (fail); refine wpQuiet_nil ?_)
        iterate 4 (refine rk (by kernel_rfl) ?_; go_big_quiet_step (fail); refine wpQuiet_nil ?_)
        iterate 2 (refine rq rfl rfl ?_; go_big_quiet_step (fail); refine wpQuiet_nil ?_)
        refine rend ?_
        intro w6 hb6 hf
        clear hf hV e2 e10 gc HRT HCT HDD
        have K6 := Lib.hid (K5.out.trans (hb6.mono K5.out.size))
        have X6 := Lib.hid (X5.out.below hb6)
        have R6 := Lib.hid (HRR.out.on hb6 (Nat.le_refl _))
        have HKS := Lib.hid S5.out.ks
        clear hb6 c0 c1 c2 l5 S5 X5 K5 HRR E5
        have c1 : w6.cell? ⟨bb, 1, none⟩ = some (.slice Ar rl cr) := by rw [X6.out.cell]; exact C1.out
        have c2 : w6.cell? ⟨bb, 10, none⟩ = some (.slice Ap np cp) := by rw [X6.out.cell]; exact C2.out
        have l6 : bb < w6.heap.size := X6.out.lt
        have HW : Hid (IntKind.i64.wrap (sumP S k + (np : Int)) = sumP S (k + 1)) := Lib.hid (by rw [HSK.out, IntKind.wrap_i64]; omega)
        have hw := HW.out
        go_wp2
        go_loopw [53] (fun i wr => ∃ m : Nat, m ≤ rl ∧ i = .int .i64 m ∧ Hid (Below w6.heap.size w6 wr)) (fun i _ => rl - (intOf i).toNat)
        case atStart => exact ⟨0, by omega, rfl, Lib.hid (Below.refl _ _)⟩
        case round =>
          obtain ⟨m, hm, rfl, HBi⟩ := hrel
          by_cases hlt2 : m < rl
          · obtain ⟨x, hx⟩ : ∃ x, p.rg[m]? = some x := ⟨_, List.getElem?_eq_getElem (by omega)⟩
            obtain ⟨br, off, hAe, _⟩ := R6.out.open (by omega)
            subst hAe
            have hcs := (R6.out.on HBi.out (Nat.le_refl _)).at_ fR_len hx
            obtain ⟨hx1, hx2, hx3, hx4⟩ := HRX.out m x hx
            obtain ⟨xf, xt, ⟨xr, xk, xg, xs_⟩⟩ := x
            simp only at hx1 hx2 hx3 hx4
            have d0 : wr.cell? ⟨br, off + m * 6, none⟩ = some (.int .i64 xf) := hcs 0 _ rfl
            have d1 : wr.cell? ⟨br, off + m * 6 + 1, none⟩ = some (.int .i64 xt) := hcs 1 _ rfl
            have d2 : wr.cell? ⟨br, off + m * 6 + 2, none⟩ = some (.int .i64 xr) := hcs 2 _ rfl
            have d3 : wr.cell? ⟨br, off + m * 6 + 3, none⟩ = some (.int .i64 xk) := hcs 3 _ rfl
            have d4 : wr.cell? ⟨br, off + m * 6 + 4, none⟩ = some (.bool xg) := hcs 4 _ rfl
            have d5 : wr.cell? ⟨br, off + m * 6 + 5, none⟩ = some (.bool xs_) := hcs 5 _ rfl
            have XI := Lib.hid (X6.out.below HBi.out)
            have lb := XI.out.lt
            have lr := lt_of_cell d0
            have hk4 : xk = 0 ∨ xk = 1 ∨ xk = 2 ∨ xk = 3 := by omega
            have kc : ∀ (j : Nat) u, (kA p.ks)[j]? = some u → wr.cell? ⟨bb, 2 + j, none⟩ = some u := fun j u hj => by rw [XI.out.cell]; have := HKS.out j u hj; simpa using this
            clear hx hcs hx2 hx3
            rcases hk4 with rfl | rfl | rfl | rfl
            · have g0 : wr.cell? ⟨bb, 2, none⟩ = some (.bool true) := kc 0 _ (by rw [← hx4]; rfl)
              clear kc hx4
              by_cases hb : xr / 2 % 2 = 0
              · go_wp2
                go_roundw
                case rel => exact ⟨m + 1, by omega, by go_num, Lib.hid (HBi.out.trans ((below1 _ _).mono HBi.out.size))⟩
                case measure => simp [intOf]; omega
              · have hb1 : xr / 2 % 2 = 1 := by omega
                have hb4 : xr / 4 % 2 = 0 := by
                  by_cases h : xr / 4 % 2 = 0
                  · exact h
                  · exact absurd ⟨hb, h⟩ hx1
                go_wp2
                go_roundw
                case rel => exact ⟨m + 1, by omega, by go_num, Lib.hid (HBi.out.trans ((below1 _ _).mono HBi.out.size))⟩
                case measure => simp [intOf]; omega
            · have g0 : wr.cell? ⟨bb, 4, none⟩ = some (.bool true) := kc 2 _ (by rw [← hx4]; rfl)
              clear kc hx4
              by_cases hb : xr / 2 % 2 = 0
              · go_wp2
                go_roundw
                case rel => exact ⟨m + 1, by omega, by go_num, Lib.hid (HBi.out.trans ((below1 _ _).mono HBi.out.size))⟩
                case measure => simp [intOf]; omega
              · have hb1 : xr / 2 % 2 = 1 := by omega
                have hb4 : xr / 4 % 2 = 0 := by
                  by_cases h : xr / 4 % 2 = 0
                  · exact h
                  · exact absurd ⟨hb, h⟩ hx1
                go_wp2
                go_roundw
                case rel => exact ⟨m + 1, by omega, by go_num, Lib.hid (HBi.out.trans ((below1 _ _).mono HBi.out.size))⟩
                case measure => simp [intOf]; omega
            · have g0 : wr.cell? ⟨bb, 6, none⟩ = some (.bool true) := kc 4 _ (by rw [← hx4]; rfl)
              clear kc hx4
              by_cases hb : xr / 2 % 2 = 0
              · go_wp2
                go_roundw
                case rel => exact ⟨m + 1, by omega, by go_num, Lib.hid (HBi.out.trans ((below1 _ _).mono HBi.out.size))⟩
                case measure => simp [intOf]; omega
              · have hb1 : xr / 2 % 2 = 1 := by omega
                have hb4 : xr / 4 % 2 = 0 := by
                  by_cases h : xr / 4 % 2 = 0
                  · exact h
                  · exact absurd ⟨hb, h⟩ hx1
                go_wp2
                go_roundw
                case rel => exact ⟨m + 1, by omega, by go_num, Lib.hid (HBi.out.trans ((below1 _ _).mono HBi.out.size))⟩
                case measure => simp [intOf]; omega
            · have g0 : wr.cell? ⟨bb, 8, none⟩ = some (.bool true) := kc 6 _ (by rw [← hx4]; rfl)
              clear kc hx4
              by_cases hb : xr / 2 % 2 = 0
              · go_wp2
                go_roundw
                case rel => exact ⟨m + 1, by omega, by go_num, Lib.hid (HBi.out.trans ((below1 _ _).mono HBi.out.size))⟩
                case measure => simp [intOf]; omega
              · have hb1 : xr / 2 % 2 = 1 := by omega
                have hb4 : xr / 4 % 2 = 0 := by
                  by_cases h : xr / 4 % 2 = 0
                  · exact h
                  · exact absurd ⟨hb, h⟩ hx1
                go_wp2
                go_roundw
                case rel => exact ⟨m + 1, by omega, by go_num, Lib.hid (HBi.out.trans ((below1 _ _).mono HBi.out.size))⟩
                case measure => simp [intOf]; omega
          · go_wp2
            go_roundw
            case rel => exact ⟨k + 1, by omega, by go_num, rfl, Lib.hid (K6.out.trans (HBi.out.mono K6.out.size))⟩
            case measure => simp [intOf]; omega
      | false =>
        rw [hlv] at c0
        have h0 : rl = 0 := HDD.out hlv
        clear HRX
        subst h0
        simp only [Act.put]
        refine wp_rel [Sp.call 2 (.bool true), Sp.call 10 (.int .i64 (np : Int))] (by kernel_rfl) (by kernel_rfl) ?_
        intro V hV
        have e2 : V 2 = .bool true := hV 2
        have e10 : V 10 = .int .i64 (np : Int) := hV 10
        iterate 2 (refine rq rfl rfl ?_; go_big_quiet_step (fail); refine wpQuiet_nil ?_)
        refine rsp (Sp.call 2 (.bool true)) (by kernel_rfl) rfl (fun w' hb hf => ?_) ?_
        · refine becomes_known (f := 10) (args := #[.slice Ar 0 cr]) ?_ (HRT.out w' hb)
          go_simp
        go_big_quiet_step (fail)
        refine wpQuiet_nil ?_
        simp only [e2]
        iterate 7 (refine rq rfl rfl ?_; go_big_quiet_step (fail); refine wpQuiet_nil ?_)
        refine rsp (Sp.call 10 (.int .i64 (np : Int))) (by kernel_rfl) rfl (fun w' hb hf => ?_) ?_
        · refine becomes_known (f := 11) (args := #[.slice Ar 0 cr]) ?_ (HCT.out w' hb)
          go_simp
        go_big_quiet_step (fail)
        refine wpQuiet_nil ?_
        simp only [e10]
        iterate 7 (refine rq rfl rfl ?_; go_big_quiet_step (fail); refine wpQuiet_nil ?_)
        iterate 6 (refine rq rfl rfl ?_; go_big_quiet_step (fail); refine wpQuiet_nil ?_)
        refine rend ?_
        intro w6 hb6 hf
        clear hf hV e2 e10 gc HRT HCT HDD
        have K6 := Lib.hid (K5.out.trans (hb6.mono K5.out.size))
        have X6 := Lib.hid (X5.out.below hb6)
        have R6 := Lib.hid (HRR.out.on hb6 (Nat.le_refl _))
        have HKS := Lib.hid S5.out.ks
        clear hb6 c0 c1 c2 l5 S5 X5 K5 HRR E5
        have c1 : w6.cell? ⟨bb, 1, none⟩ = some (.slice Ar 0 cr) := by rw [X6.out.cell]; exact C1.out
        have c2 : w6.cell? ⟨bb, 10, none⟩ = some (.slice Ap np cp) := by rw [X6.out.cell]; exact C2.out
        have l6 : bb < w6.heap.size := X6.out.lt
        have HW : Hid (IntKind.i64.wrap (sumP S k + (np : Int)) = sumP S (k + 1)) := Lib.hid (by rw [HSK.out, IntKind.wrap_i64]; omega)
        have hw := HW.out
        go_wp2
        go_loopw [53] (fun i wr => ∃ m : Nat, m ≤ 0 ∧ i = .int .i64 m ∧ Hid (Below w6.heap.size w6 wr)) (fun i _ => 0 - (intOf i).toNat)
        case atStart => exact ⟨0, by omega, rfl, Lib.hid (Below.refl _ _)⟩
        case round =>
          obtain ⟨m, hm, rfl, HBi⟩ := hrel
          obtain rfl : m = 0 := by omega
          go_wp2
          go_roundw
          case rel => exact ⟨k + 1, by omega, by go_num, rfl, Lib.hid (K6.out.trans (HBi.out.mono K6.out.size))⟩
          case measure => simp [intOf]; omega
    · obtain rfl : k = 4 := by omega
      have hs := sumP_all HOK.out
      have hr := sumP_range S 4
      have hd : decide (sumP S 4 ≤ 64) = true := decide_eq_true hs
      generalize sumP S 4 = sp at *
      go_wp2
      go_ret
      exact ⟨ret_b rfl, HB3.out.trans (HB.out.mono HB3.out.size)⟩
end Go.Proofs.Ytglnnplijienbaa
