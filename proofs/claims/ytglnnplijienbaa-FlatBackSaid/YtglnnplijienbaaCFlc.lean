/- flat.Map. -/
import Derived.Test.YtglnnplijienbaaM29
import Derived.Test.YtglnnplijienbaaCGrd
namespace Go.Proofs.Ytglnnplijienbaa
open Go.ChangeShapes Go.WideShapes Go.ChangeAt Go.RowKit Go.Joins
set_option linter.unusedVariables false
set_option linter.unusedSimpArgs false
set_option maxRecDepth 100000
set_option maxHeartbeats 16000000 in
theorem map_any {w : World} {v : Value} {l : List Rgn} (h : Rv w v l) (hr : rightL l = true) (K : Key4) (all : Int) (h0 : 0 ≤ all) (h1 : all ≤ 256) (o : Fop) (ho : o.fits) :
    Calls Try.prog 32 #[v, K.v, .int .i64 all, o.v] w (GivesMA w (mapF l K all o)) := by
  obtain ⟨k, pr, pg, cn, ri, ke, tgd, dr, ad, sz, va, ta⟩ := o
  obtain ⟨t0, d0, t1, d1, t2, d2, t3, d3⟩ := K
  unfold Fop.fits I64 at ho
  simp only at ho
  obtain ⟨fk, fp, fpg, fc, fri, fke, fdr, fad, fsz, fva, fta⟩ := ho
  simp only [Fop.v, Key4.v]
  have HFA := Lib.hid (fun (e : Int) (W : World) => fails_any e W)
  have HWR := Lib.hid (fun (W : World) => wrong_any ri W)
  have HE1 : Hid ((w.alloc (.cells #[.bool t0, .int .i64 d0, .bool t1, .int .i64 d1, .bool t2, .int .i64 d2, .bool t3, .int .i64 d3] 28)).heap.size = w.heap.size + 1) := Lib.hid (by simp)
  have HE2 : Hid (((w.alloc (.cells #[.bool t0, .int .i64 d0, .bool t1, .int .i64 d1, .bool t2, .int .i64 d2, .bool t3, .int .i64 d3] 28)).alloc (.cells #[.int .i64 k, .int .i64 pr, .int .i64 pg, .int .i64 cn, .int .i64 ri, .int .i64 ke, .bool tgd, .int .i64 dr, .int .i64 ad, .int .i64 sz, .int .i64 va, .int .i64 ta] 43)).heap.size = w.heap.size + 1 + 1) := Lib.hid (by simp)
  have HW3 : Hid (Below w.heap.size w (((w.alloc (.cells #[.bool t0, .int .i64 d0, .bool t1, .int .i64 d1, .bool t2, .int .i64 d2, .bool t3, .int .i64 d3] 28)).alloc (.cells #[.int .i64 k, .int .i64 pr, .int .i64 pg, .int .i64 cn, .int .i64 ri, .int .i64 ke, .bool tgd, .int .i64 dr, .int .i64 ad, .int .i64 sz, .int .i64 va, .int .i64 ta] 43)).alloc (.cells #[.int .i64 0, .int .i64 0, .int .i64 0, .int .i64 0] 47))) := Lib.hid ((((Below.refl _ _).alloc (Nat.le_refl _) _).alloc (by simp) _).alloc (by simp; omega) _)
  have HX3 : Hid (Bx (((w.alloc (.cells #[.bool t0, .int .i64 d0, .bool t1, .int .i64 d1, .bool t2, .int .i64 d2, .bool t3, .int .i64 d3] 28)).alloc (.cells #[.int .i64 k, .int .i64 pr, .int .i64 pg, .int .i64 cn, .int .i64 ri, .int .i64 ke, .bool tgd, .int .i64 dr, .int .i64 ad, .int .i64 sz, .int .i64 va, .int .i64 ta] 43)).alloc (.cells #[.int .i64 0, .int .i64 0, .int .i64 0, .int .i64 0] 47)) (w.heap.size + 1 + 1) 47 #[.int .i64 0, .int .i64 0, .int .i64 0, .int .i64 0]) := Lib.hid (by rw [← HE2.out]; exact Bx.new _ _ _)
  have HO3 : Hid (Bx (((w.alloc (.cells #[.bool t0, .int .i64 d0, .bool t1, .int .i64 d1, .bool t2, .int .i64 d2, .bool t3, .int .i64 d3] 28)).alloc (.cells #[.int .i64 k, .int .i64 pr, .int .i64 pg, .int .i64 cn, .int .i64 ri, .int .i64 ke, .bool tgd, .int .i64 dr, .int .i64 ad, .int .i64 sz, .int .i64 va, .int .i64 ta] 43)).alloc (.cells #[.int .i64 0, .int .i64 0, .int .i64 0, .int .i64 0] 47)) (w.heap.size + 1) 43 #[.int .i64 k, .int .i64 pr, .int .i64 pg, .int .i64 cn, .int .i64 ri, .int .i64 ke, .bool tgd, .int .i64 dr, .int .i64 ad, .int .i64 sz, .int .i64 va, .int .i64 ta]) := Lib.hid (by rw [← HE1.out]; exact (Bx.new _ _ _).below (below1 _ _))
  have HS : Hid (mapF l ⟨t0, d0, t1, d1, t2, d2, t3, d3⟩ all ⟨k, pr, pg, cn, ri, ke, tgd, dr, ad, sz, va, ta⟩ = if cn < 1 ∨ 64 < cn then (([], failA 2) : List Rgn × Fan)
    else if wrongE ri ≠ 0 then ([], failA (wrongE ri))
    else if (Key4.mk t0 d0 t1 d1 t2 d2 t3 d3).tk ke = false then ([], failA 3)
    else if 64 < all + cn then ([], failA 4)
    else if chE l cn ≠ 0 then ([], failA (chE l cn))
    else (addL l ⟨chN l cn dr, chN l cn dr + cn, ⟨ri, ke, tgd, false⟩⟩, ⟨addE l ⟨chN l cn dr, chN l cn dr + cn, ⟨ri, ke, tgd, false⟩⟩, chN l cn dr, 0, 0⟩)) := Lib.hid rfl
  have HV := Lib.hid h
  obtain ⟨A, n, c, rfl, hz, hn⟩ := h
  have HCH := Lib.hid (choose_any A n c l cn dr (((w.alloc (.cells #[.bool t0, .int .i64 d0, .bool t1, .int .i64 d1, .bool t2, .int .i64 d2, .bool t3, .int .i64 d3] 28)).alloc (.cells #[.int .i64 k, .int .i64 pr, .int .i64 pg, .int .i64 cn, .int .i64 ri, .int .i64 ke, .bool tgd, .int .i64 dr, .int .i64 ad, .int .i64 sz, .int .i64 va, .int .i64 ta] 43)).alloc (.cells #[.int .i64 0, .int .i64 0, .int .i64 0, .int .i64 0] 47)) w.heap.size (hz.below HW3.out) HW3.out.size (by omega) fc fdr)
  have HAD := Lib.hid (fun (W : World) (hb : Below w.heap.size w W) => add_any A n c l ⟨chN l cn dr, chN l cn dr + cn, ⟨ri, ke, tgd, false⟩⟩ W w.heap.size (hz.below hb) hb.size (by omega))
  have HCF := Lib.hid (fun (h : chE l cn = 0) => (mem_all.1 (ch_mem (d := dr) h)))
  clear hz hr
  generalize mapF l ⟨t0, d0, t1, d1, t2, d2, t3, d3⟩ all ⟨k, pr, pg, cn, ri, ke, tgd, dr, ad, sz, va, ta⟩ = rs at *
  by_cases c1 : cn < 1
  · have HRES : Hid (rs = ([], failA 2)) := Lib.hid (by rw [HS.out, if_pos (by omega)])
    have hd : decide (cn < 1) = true := decide_eq_true c1
    clear HS HCH HAD HCF
    go_enter Try.func32, Try.ntmps32
    go_wp2_with (first
      | (go_at_call 39; refine (HWR.out _).mono ?_; rintro e w' ⟨rfl, rfl⟩)
      | ((with_reducible refine stB infoN (w.heap.size + 1 + 1) (nA (failA 2)) ?_ ?_ X9.out rfl rfl (nA_one _) ?_); rfl; rfl)
      | (go_at_call 31; refine (HFA.out 2 _).mono ?_; rintro e w9 ⟨rfl, hb9⟩; have X9 := Lib.hid (HX3.out.below hb9); have K9 := Lib.hid (HW3.out.trans (hb9.mono HW3.out.size)); clear hb9))
    try simp only [Exit.inBlock, Exit.then]
    refine bodyPost_ret (v := .tuple #[.slice none 0 0, (failA 2).v]) ?_ rfl ?_
    rotate_left
    · rw [HRES.out]; exact finMA (r := ([], failA 2)) X9.out Os.nil K9.out (by omega) (fun k h => by cases h)
    · rw [results_tmp_cell rfl]; simp [asAddr, Result.andThen, Act.put, run_ansv (X9.out.row _)]
  have hd1 : decide (cn < 1) = false := decide_eq_false c1
  by_cases c2 : 64 < cn
  · have HRES : Hid (rs = ([], failA 2)) := Lib.hid (by rw [HS.out, if_pos (by omega)])
    have hd : decide (64 < cn) = true := decide_eq_true c2
    clear HS HCH HAD HCF
    go_enter Try.func32, Try.ntmps32
    go_wp2_with (first
      | (go_at_call 39; refine (HWR.out _).mono ?_; rintro e w' ⟨rfl, rfl⟩)
      | ((with_reducible refine stB infoN (w.heap.size + 1 + 1) (nA (failA 2)) ?_ ?_ X9.out rfl rfl (nA_one _) ?_); rfl; rfl)
      | (go_at_call 31; refine (HFA.out 2 _).mono ?_; rintro e w9 ⟨rfl, hb9⟩; have X9 := Lib.hid (HX3.out.below hb9); have K9 := Lib.hid (HW3.out.trans (hb9.mono HW3.out.size)); clear hb9))
    try simp only [Exit.inBlock, Exit.then]
    refine bodyPost_ret (v := .tuple #[.slice none 0 0, (failA 2).v]) ?_ rfl ?_
    rotate_left
    · rw [HRES.out]; exact finMA (r := ([], failA 2)) X9.out Os.nil K9.out (by omega) (fun k h => by cases h)
    · rw [results_tmp_cell rfl]; simp [asAddr, Result.andThen, Act.put, run_ansv (X9.out.row _)]
  have hd2 : decide (64 < cn) = false := decide_eq_false c2
  obtain ⟨er, her⟩ : ∃ e, e = wrongE ri := ⟨_, rfl⟩
  rw [← her] at HS HWR
  clear her
  by_cases c3 : er = 0
  · subst c3
    by_cases c4 : ke < 0
    · have HRES : Hid (rs = ([], failA 3)) := Lib.hid (by rw [HS.out, if_neg (by omega), if_neg (by omega), if_pos (by unfold Key4.tk; rw [if_neg (by omega), if_neg (by omega), if_neg (by omega), if_neg (by omega)])])
      have hd : decide (ke < 0) = true := decide_eq_true c4
      clear HS HCH HAD HCF
      go_enter Try.func32, Try.ntmps32
      go_wp2_with (first
        | (go_at_call 39; refine (HWR.out _).mono ?_; rintro e w' ⟨rfl, rfl⟩)
        | ((with_reducible refine stB infoN (w.heap.size + 1 + 1) (nA (failA 3)) ?_ ?_ X9.out rfl rfl (nA_one _) ?_); rfl; rfl)
        | (go_at_call 31; refine (HFA.out 3 _).mono ?_; rintro e w9 ⟨rfl, hb9⟩; have X9 := Lib.hid (HX3.out.below hb9); have K9 := Lib.hid (HW3.out.trans (hb9.mono HW3.out.size)); clear hb9))
      try simp only [Exit.inBlock, Exit.then]
      refine bodyPost_ret (v := .tuple #[.slice none 0 0, (failA 3).v]) ?_ rfl ?_
      rotate_left
      · rw [HRES.out]; exact finMA (r := ([], failA 3)) X9.out Os.nil K9.out (by omega) (fun k h => by cases h)
      · rw [results_tmp_cell rfl]; simp [asAddr, Result.andThen, Act.put, run_ansv (X9.out.row _)]
    by_cases c5 : 4 ≤ ke
    · have HRES : Hid (rs = ([], failA 3)) := Lib.hid (by rw [HS.out, if_neg (by omega), if_neg (by omega), if_pos (by unfold Key4.tk; rw [if_neg (by omega), if_neg (by omega), if_neg (by omega), if_neg (by omega)])])
      have hd : decide (4 ≤ ke) = true := decide_eq_true c5
      have hd0 : decide (ke < 0) = false := decide_eq_false c4
      clear HS HCH HAD HCF
      go_enter Try.func32, Try.ntmps32
      go_wp2_with (first
        | (go_at_call 39; refine (HWR.out _).mono ?_; rintro e w' ⟨rfl, rfl⟩)
        | ((with_reducible refine stB infoN (w.heap.size + 1 + 1) (nA (failA 3)) ?_ ?_ X9.out rfl rfl (nA_one _) ?_); rfl; rfl)
        | (go_at_call 31; refine (HFA.out 3 _).mono ?_; rintro e w9 ⟨rfl, hb9⟩; have X9 := Lib.hid (HX3.out.below hb9); have K9 := Lib.hid (HW3.out.trans (hb9.mono HW3.out.size)); clear hb9))
      try simp only [Exit.inBlock, Exit.then]
      refine bodyPost_ret (v := .tuple #[.slice none 0 0, (failA 3).v]) ?_ rfl ?_
      rotate_left
      · rw [HRES.out]; exact finMA (r := ([], failA 3)) X9.out Os.nil K9.out (by omega) (fun k h => by cases h)
      · rw [results_tmp_cell rfl]; simp [asAddr, Result.andThen, Act.put, run_ansv (X9.out.row _)]
    have hke : ke = 0 ∨ ke = 1 ∨ ke = 2 ∨ ke = 3 := by omega
    clear c4 c5
    cases ht : (Key4.mk t0 d0 t1 d1 t2 d2 t3 d3).tk ke with
    | false =>
      have HRES : Hid (rs = ([], failA 3)) := Lib.hid (by rw [HS.out, if_neg (by omega), if_neg (by omega), if_pos ht])
      clear HS HCH HAD HCF
      rcases hke with rfl | rfl | rfl | rfl
      all_goals
        simp [Key4.tk] at ht
        subst ht
        go_enter Try.func32, Try.ntmps32
        go_wp2_with (first
          | (go_at_call 39; refine (HWR.out _).mono ?_; rintro e w' ⟨rfl, rfl⟩)
          | ((with_reducible refine stB infoN (w.heap.size + 1 + 1) (nA (failA 3)) ?_ ?_ X9.out rfl rfl (nA_one _) ?_); rfl; rfl)
          | (go_at_call 31; refine (HFA.out 3 _).mono ?_; rintro e w9 ⟨rfl, hb9⟩; have X9 := Lib.hid (HX3.out.below hb9); have K9 := Lib.hid (HW3.out.trans (hb9.mono HW3.out.size)); clear hb9))
        try simp only [Exit.inBlock, Exit.then]
        refine bodyPost_ret (v := .tuple #[.slice none 0 0, (failA 3).v]) ?_ rfl ?_
        rotate_left
        · rw [HRES.out]; exact finMA (r := ([], failA 3)) X9.out Os.nil K9.out (by omega) (fun k h => by cases h)
        · rw [results_tmp_cell rfl]; simp [asAddr, Result.andThen, Act.put, run_ansv (X9.out.row _)]
    | true =>
      have HS2 : Hid (rs = if 64 < all + cn then (([], failA 4) : List Rgn × Fan)
        else if chE l cn ≠ 0 then ([], failA (chE l cn))
        else (addL l ⟨chN l cn dr, chN l cn dr + cn, ⟨ri, ke, tgd, false⟩⟩, ⟨addE l ⟨chN l cn dr, chN l cn dr + cn, ⟨ri, ke, tgd, false⟩⟩, chN l cn dr, 0, 0⟩)) := Lib.hid (by rw [HS.out, if_neg (by omega), if_neg (by omega), if_neg (by rw [ht]; exact Bool.noConfusion)])
      clear HS
      by_cases c6 : 64 < all + cn
      · have HRES : Hid (rs = ([], failA 4)) := Lib.hid (by rw [HS2.out, if_pos c6])
        have hd6 : decide (64 < all + cn) = true := decide_eq_true c6
        clear HS2 HCH HAD HCF
        rcases hke with rfl | rfl | rfl | rfl
        all_goals
          simp [Key4.tk] at ht
          subst ht
          go_enter Try.func32, Try.ntmps32
          go_wp2_with (first
            | (go_at_call 39; refine (HWR.out _).mono ?_; rintro e w' ⟨rfl, rfl⟩)
            | ((with_reducible refine stB infoN (w.heap.size + 1 + 1) (nA (failA 4)) ?_ ?_ X9.out rfl rfl (nA_one _) ?_); rfl; rfl)
            | (go_at_call 31; refine (HFA.out 4 _).mono ?_; rintro e w9 ⟨rfl, hb9⟩; have X9 := Lib.hid (HX3.out.below hb9); have K9 := Lib.hid (HW3.out.trans (hb9.mono HW3.out.size)); clear hb9))
          try simp only [Exit.inBlock, Exit.then]
          refine bodyPost_ret (v := .tuple #[.slice none 0 0, (failA 4).v]) ?_ rfl ?_
          rotate_left
          · rw [HRES.out]; exact finMA (r := ([], failA 4)) X9.out Os.nil K9.out (by omega) (fun k h => by cases h)
          · rw [results_tmp_cell rfl]; simp [asAddr, Result.andThen, Act.put, run_ansv (X9.out.row _)]
      have hd6 : decide (64 < all + cn) = false := decide_eq_false c6
      obtain ⟨ce, hce⟩ : ∃ e, e = chE l cn := ⟨_, rfl⟩
      obtain ⟨cp, hcp⟩ : ∃ e, e = chN l cn dr := ⟨_, rfl⟩
      rw [← hce] at HS2 HCH HCF
      rw [← hcp] at HS2 HCH HAD HCF
      clear hce hcp
      unfold Two at HCH
      obtain ⟨kv, hkv⟩ : ∃ kv, kv = ke := ⟨_, rfl⟩
      by_cases c7 : ce = 0
      · subst c7
        obtain ⟨_, _, p0, p1, _⟩ := HCF.out rfl
        have HRES : Hid (rs = (addL l ⟨cp, cp + cn, ⟨ri, ke, tgd, false⟩⟩, ⟨addE l ⟨cp, cp + cn, ⟨ri, ke, tgd, false⟩⟩, cp, 0, 0⟩)) := Lib.hid (by rw [HS2.out, if_neg c6, if_neg (by omega)])
        unfold TR at HAD
        simp only at HAD
        obtain ⟨al, hal⟩ : ∃ e, e = addL l ⟨cp, cp + cn, ⟨ri, ke, tgd, false⟩⟩ := ⟨_, rfl⟩
        obtain ⟨ae, hae⟩ : ∃ e, e = addE l ⟨cp, cp + cn, ⟨ri, ke, tgd, false⟩⟩ := ⟨_, rfl⟩
        rw [← hal, ← hae] at HRES HAD
        clear HS2 HCF hal hae
        rcases hke with rfl | rfl | rfl | rfl
        all_goals
          simp [Key4.tk] at ht
          subst ht
          go_enter Try.func32, Try.ntmps32
          go_wp2_with (first
            | (go_at_call 39; refine (HWR.out _).mono ?_; rintro e w' ⟨rfl, rfl⟩)
            | (go_at_call 41
               refine (HAD.out w4 K4.out).mono ?_
               rintro e w5 ⟨u5, rfl, ho5, hb5⟩
               have X5 := Lib.hid (X4.out.below hb5)
               have K5 := Lib.hid (K4.out.trans (hb5.mono K4.out.size))
               have U5 := Lib.hid (ho5.rebase K4.out.size)
               have N5 : Hid (∀ k, u5.ownBlock = some k → k ≠ w.heap.size + 1 + 1) := Lib.hid (fun k hk => by have := (ho5.blk_lt2 k hk).2; omega)
               clear hb5 ho5)
            | (go_at_call 40
               refine HCH.out.mono ?_
               rintro e w4 ⟨rfl, hb4⟩
               have X4 := Lib.hid (HX3.out.below hb4)
               have K4 := Lib.hid (HW3.out.trans (hb4.mono HW3.out.size))
               have O4 := Lib.hid (HO3.out.below hb4)
               have hz4 : w.heap.size + 1 + 1 < w4.heap.size := X4.out.lt
               have o3 : w4.cell? ⟨w.heap.size + 1, 3, none⟩ = some (.int .i64 cn) := by rw [O4.out.cell]; rfl
               have o4 : w4.cell? ⟨w.heap.size + 1, 4, none⟩ = some (.int .i64 ri) := by rw [O4.out.cell]; rfl
               have o5 : w4.cell? ⟨w.heap.size + 1, 5, none⟩ = some (.int .i64 kv) := by rw [O4.out.cell, hkv]; rfl
               rw [hkv] at o5
               have o6 : w4.cell? ⟨w.heap.size + 1, 6, none⟩ = some (.bool tgd) := by rw [O4.out.cell]; rfl
               clear hb4)
            | ((with_reducible refine stB infoN (w.heap.size + 1 + 1) (nA ⟨ae, cp, 0, 0⟩) ?_ ?_ X5.out rfl rfl (nA_one _) ?_); rfl; rfl))
          try simp only [Exit.inBlock, Exit.then]
          refine bodyPost_ret (v := .tuple #[u5, (Fan.mk ae cp 0 0).v]) ?_ rfl ?_
          rotate_left
          · rw [HRES.out]; exact finMA (r := (al, Fan.mk ae cp 0 0)) X5.out U5.out K5.out (by omega) N5.out
          · rw [results_tmp_cell rfl]; simp [asAddr, Result.andThen, Act.put, run_ansv (X5.out.row _)]
      · have HRES : Hid (rs = ([], failA ce)) := Lib.hid (by rw [HS2.out, if_neg c6, if_pos c7])
        have hne : (ce != 0) = true := by rw [bne_iff_ne]; exact c7
        clear HS2 HAD HCF
        rcases hke with rfl | rfl | rfl | rfl
        all_goals
          simp [Key4.tk] at ht
          subst ht
          go_enter Try.func32, Try.ntmps32
          go_wp2_with (first
            | (go_at_call 39; refine (HWR.out _).mono ?_; rintro e w' ⟨rfl, rfl⟩)
            | ((with_reducible refine stB infoN (w.heap.size + 1 + 1) (nA (failA ce)) ?_ ?_ X9.out rfl rfl (nA_one _) ?_); rfl; rfl)
            | (go_at_call 40
               refine HCH.out.mono ?_
               rintro e w4 ⟨rfl, hb4⟩
               have X4 := Lib.hid (HX3.out.below hb4)
               have K4 := Lib.hid (HW3.out.trans (hb4.mono HW3.out.size))
               have O4 := Lib.hid (HO3.out.below hb4)
               have hz4 : w.heap.size + 1 + 1 < w4.heap.size := X4.out.lt
               have o3 : w4.cell? ⟨w.heap.size + 1, 3, none⟩ = some (.int .i64 cn) := by rw [O4.out.cell]; rfl
               have o4 : w4.cell? ⟨w.heap.size + 1, 4, none⟩ = some (.int .i64 ri) := by rw [O4.out.cell]; rfl
               have o5 : w4.cell? ⟨w.heap.size + 1, 5, none⟩ = some (.int .i64 kv) := by rw [O4.out.cell, hkv]; rfl
               rw [hkv] at o5
               have o6 : w4.cell? ⟨w.heap.size + 1, 6, none⟩ = some (.bool tgd) := by rw [O4.out.cell]; rfl
               clear hb4)
            | (go_at_call 31; refine (HFA.out ce _).mono ?_; rintro e w9 ⟨rfl, hb9⟩; have X9 := Lib.hid (X4.out.below hb9); have K9 := Lib.hid (K4.out.trans (hb9.mono K4.out.size)); clear hb9))
          try simp only [Exit.inBlock, Exit.then]
          refine bodyPost_ret (v := .tuple #[.slice none 0 0, (failA ce).v]) ?_ rfl ?_
          rotate_left
          · rw [HRES.out]; exact finMA (r := ([], failA ce)) X9.out Os.nil K9.out (by omega) (fun k h => by cases h)
          · rw [results_tmp_cell rfl]; simp [asAddr, Result.andThen, Act.put, run_ansv (X9.out.row _)]
  · have HRES : Hid (rs = ([], failA er)) := Lib.hid (by rw [HS.out, if_neg (by omega), if_pos c3])
    have hne : (er != 0) = true := by rw [bne_iff_ne]; exact c3
    clear HS HCH HAD HCF
    go_enter Try.func32, Try.ntmps32
    go_wp2_with (first
      | (go_at_call 39; refine (HWR.out _).mono ?_; rintro e w' ⟨rfl, rfl⟩)
      | ((with_reducible refine stB infoN (w.heap.size + 1 + 1) (nA (failA er)) ?_ ?_ X9.out rfl rfl (nA_one _) ?_); rfl; rfl)
      | (go_at_call 31; refine (HFA.out er _).mono ?_; rintro e w9 ⟨rfl, hb9⟩; have X9 := Lib.hid (HX3.out.below hb9); have K9 := Lib.hid (HW3.out.trans (hb9.mono HW3.out.size)); clear hb9))
    try simp only [Exit.inBlock, Exit.then]
    refine bodyPost_ret (v := .tuple #[.slice none 0 0, (failA er).v]) ?_ rfl ?_
    rotate_left
    · rw [HRES.out]; exact finMA (r := ([], failA er)) X9.out Os.nil K9.out (by omega) (fun k h => by cases h)
    · rw [results_tmp_cell rfl]; simp [asAddr, Result.andThen, Act.put, run_ansv (X9.out.row _)]
end Go.Proofs.Ytglnnplijienbaa
