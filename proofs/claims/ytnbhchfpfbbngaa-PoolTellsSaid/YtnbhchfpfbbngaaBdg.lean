/- buddy.Give. -/
import Derived.Test.YtnbhchfpfbbngaaBdt
namespace Go.Proofs.Ytnbhchfpfbbngaa
open Go.ChangeShapes Go.WideShapes Go.ChangeAt Go.RowKit Go.Joins Go.Sort
set_option linter.unusedVariables false
theorem giveS_eq (l : List Blk) (b : Blk) : giveS l b = if rightB l then (if okB b then (if meets l b then (([], 7) : List Blk × Int) else (giveC l b, 0)) else ([], 2)) else ([], 1) := rfl
/-- What Give hands back. -/
def GivesG (w : World) (r : List Blk × Int) (e : Ending) (w' : World) : Prop := ∃ v, e = .returned (.tuple #[v, .int .i64 r.2]) ∧ Os fB 2 30 w' w.heap.size v r.1 ∧ Below w.heap.size w w'
theorem os_some {w : World} {base : Nat} {A : Option Addr} {n c : Nat} {xs : List Blk} (h : Os fB 2 30 w base (.slice A n c) xs) (hn : 0 < xs.length) : ∃ g, A = some ⟨g, 0, none⟩ := by
  obtain ⟨_, ⟨e, h0⟩ | ⟨g, cap, cur, e, _⟩⟩ := h
  · omega
  · injection e with e _ _; exact ⟨g, e⟩
theorem meets_up {xs : List Blk} {b : Blk} {n : Nat} (hn : xs.length = n) (h : ∀ j x, j < n → xs[j]? = some x → meetB x b = false) : meets xs b = false := by
  unfold meets
  rw [List.any_eq_false]
  intro x hx
  obtain ⟨j, hj⟩ := List.getElem?_of_mem hx
  have hl := (List.getElem?_eq_some_iff.1 hj).1
  rw [h j x (by omega) hj]; simp
theorem meets_yes {xs : List Blk} {b x : Blk} {j : Nat} (hx : xs[j]? = some x) (h : meetB x b = true) : meets xs b = true := by
  unfold meets
  rw [List.any_eq_true]
  exact ⟨x, List.mem_of_getElem? hx, h⟩

set_option maxHeartbeats 8000000 in
set_option maxRecDepth 100000 in
theorem give_any (A : Option Addr) (n c : Nat) (xs : List Blk) (b : Blk) (hbf : b.fits) (w : World) (B : Nat) (hz : Rw fB 2 w B A n xs) (hf : ∀ x ∈ xs, x.fits) (hB : B ≤ w.heap.size) (hbig : n ≤ 140737488355328) :
    Calls Try.prog 12 #[.slice A n c, .agg #[.int .i64 b.a, .int .i64 b.o]] w (GivesG w (giveS xs b)) := by
  have HW0 := Lib.hid ((Below.refl w.heap.size w).alloc (Nat.le_refl _) (.cells #[.int .i64 b.a, .int .i64 b.o] 30))
  have hright := right_any A n c xs (w.alloc (.cells #[.int .i64 b.a, .int .i64 b.o] 30)) B (hz.below (HW0.out.mono hB)) hf (by simp; omega) hbig
  have HTS := Lib.hid (giveS_eq xs b)
  have HZ := Lib.hid hz
  have HL := Lib.hid hz.1
  cases hr : rightB xs with
  | false =>
    rw [hr] at hright
    have HRES : Hid (giveS xs b = ([], 1)) := Lib.hid (by rw [HTS.out, hr]; rfl)
    clear HTS hz hf hr
    generalize giveS xs b = rs at *
    go_enter Try.func12, Try.ntmps12
    go_wp2_with (go_at_call 14; refine hright.mono ?_; rintro e w1 ⟨rfl, hb1⟩)
    go_ret2
    exact ⟨_, by rw [HRES.out]; rfl, by rw [HRES.out]; exact Os.nil, HW0.out.trans (hb1.mono (by simp))⟩
  | true =>
    rw [hr] at hright
    have HRP := Lib.hid (right_rp hr)
    have hn64 : n ≤ 64 := by rw [← hz.1]; exact rp_len HRP.out
    have HX := Lib.hid (fun (i : Nat) (hi : i < n) => (⟨xs[i]'(by rw [hz.1]; exact hi), List.getElem?_eq_getElem _⟩ : ∃ x, xs[i]? = some x))
    have HA : Hid (0 < n → ∃ b off, A = some ⟨b, off, none⟩ ∧ b < B) := Lib.hid (fun h => HZ.out.open h)
    have HT1 : Hid (okB b = false → giveS xs b = ([], 2)) := Lib.hid (fun h => by rw [HTS.out, hr, h]; rfl)
    have HT2 : Hid (okB b = true → meets xs b = true → giveS xs b = ([], 7)) := Lib.hid (fun h h2 => by rw [HTS.out, hr, h, h2]; rfl)
    have HT3 : Hid (okB b = true → meets xs b = false → giveS xs b = (giveC xs b, 0)) := Lib.hid (fun h h2 => by rw [HTS.out, hr, h, h2]; rfl)
    clear HTS hz hf hr
    generalize giveS xs b = rs at *
    have hfit := fits_any b hbf
    cases hok : okB b with
    | false =>
      rw [hok] at hfit
      have HRES := Lib.hid (HT1.out hok)
      clear hok HT1 HT2 HT3
      go_enter Try.func12, Try.ntmps12
      go_wp2_with (first
        | (go_at_call 36; refine (hfit w1).mono ?_; rintro e w2 ⟨rfl, hb2⟩)
        | (go_at_call 14
           refine hright.mono ?_
           rintro e w1 ⟨rfl, hb1⟩
           have HB1 := Lib.hid hb1
           have d0 : w1.cell? ⟨w.heap.size, 0, none⟩ = some (.int .i64 b.a) := by rw [hb1.cell (p := ⟨w.heap.size, 0, none⟩) (by simp)]; simp [go_sem]
           have d1 : w1.cell? ⟨w.heap.size, 1, none⟩ = some (.int .i64 b.o) := by rw [hb1.cell (p := ⟨w.heap.size, 1, none⟩) (by simp)]; simp [go_sem]
           clear hb1 hright))
      have HB2 : Hid (Below (w.alloc (.cells #[.int .i64 b.a, .int .i64 b.o] 30)).heap.size (w.alloc (.cells #[.int .i64 b.a, .int .i64 b.o] 30)) w2) := Lib.hid (HB1.out.trans (hb2.mono HB1.out.size))
      have HBW := Lib.hid (HW0.out.trans (HB2.out.mono (by simp)))
      have hg2 : w.heap.size < w2.heap.size := by have := HB2.out.size; simp at this; omega
      have e0 : w2.cell? ⟨w.heap.size, 0, none⟩ = some (.int .i64 b.a) := by rw [HB2.out.cell (p := ⟨w.heap.size, 0, none⟩) (by simp)]; simp [go_sem]
      have e1 : w2.cell? ⟨w.heap.size, 1, none⟩ = some (.int .i64 b.o) := by rw [HB2.out.cell (p := ⟨w.heap.size, 1, none⟩) (by simp)]; simp [go_sem]
      have f0 : w2.frozen? ⟨w.heap.size, 0, none⟩ = false := by rw [HB2.out.frozen (p := ⟨w.heap.size, 0, none⟩) (by simp)]; simp [go_sem]
      have f1 : w2.frozen? ⟨w.heap.size, 1, none⟩ = false := by rw [HB2.out.frozen (p := ⟨w.heap.size, 1, none⟩) (by simp)]; simp [go_sem]
      clear hb2 d0 d1
      go_ret2
      exact ⟨_, by rw [HRES.out]; rfl, by rw [HRES.out]; exact Os.nil, HBW.out⟩
    | true =>
      rw [hok] at hfit
      have HOKB := Lib.hid hok
      obtain ⟨p1, p2, p3, p4⟩ := okB_cases hok
      have po1 : 0 ≤ b.o := by omega
      have po2 : b.o ≤ 6 := by omega
      have hsb := size_any b.o po1 po2
      obtain ⟨s1, s2⟩ := szO_le po1 po2
      have HMB : Hid (∀ x : Blk, meetB x b = (decide (x.a < b.a + szO b.o) && decide (b.a < x.a + szO x.o))) := Lib.hid (fun x => rfl)
      clear hok HT1 p3 p4
      obtain ⟨sb, hsbE⟩ : ∃ s, s = szO b.o := ⟨_, rfl⟩
      rw [← hsbE] at hsb s1 s2 p2
      rw [← hsbE] at HMB
      have HSB := Lib.hid hsbE
      clear hsbE
      go_enter Try.func12, Try.ntmps12
      go_wp2_with (first
        | (go_at_call 36; refine (hfit w1).mono ?_; rintro e w2 ⟨rfl, hb2⟩)
        | (go_at_call 14
           refine hright.mono ?_
           rintro e w1 ⟨rfl, hb1⟩
           have HB1 := Lib.hid hb1
           have d0 : w1.cell? ⟨w.heap.size, 0, none⟩ = some (.int .i64 b.a) := by rw [hb1.cell (p := ⟨w.heap.size, 0, none⟩) (by simp)]; simp [go_sem]
           have d1 : w1.cell? ⟨w.heap.size, 1, none⟩ = some (.int .i64 b.o) := by rw [hb1.cell (p := ⟨w.heap.size, 1, none⟩) (by simp)]; simp [go_sem]
           clear hb1 hright))
      have HB2 : Hid (Below (w.alloc (.cells #[.int .i64 b.a, .int .i64 b.o] 30)).heap.size (w.alloc (.cells #[.int .i64 b.a, .int .i64 b.o] 30)) w2) := Lib.hid (HB1.out.trans (hb2.mono HB1.out.size))
      have HBW := Lib.hid (HW0.out.trans (HB2.out.mono (by simp)))
      have hg2 : w.heap.size < w2.heap.size := by have := HB2.out.size; simp at this; omega
      have e0 : w2.cell? ⟨w.heap.size, 0, none⟩ = some (.int .i64 b.a) := by rw [HB2.out.cell (p := ⟨w.heap.size, 0, none⟩) (by simp)]; simp [go_sem]
      have e1 : w2.cell? ⟨w.heap.size, 1, none⟩ = some (.int .i64 b.o) := by rw [HB2.out.cell (p := ⟨w.heap.size, 1, none⟩) (by simp)]; simp [go_sem]
      have f0 : w2.frozen? ⟨w.heap.size, 0, none⟩ = false := by rw [HB2.out.frozen (p := ⟨w.heap.size, 0, none⟩) (by simp)]; simp [go_sem]
      have f1 : w2.frozen? ⟨w.heap.size, 1, none⟩ = false := by rw [HB2.out.frozen (p := ⟨w.heap.size, 1, none⟩) (by simp)]; simp [go_sem]
      clear hb2 d0 d1
      clear hfit
      go_loopw [18] (fun i wr => ∃ k : Nat, k ≤ n ∧ i = .int .i64 k ∧ Hid (Below w2.heap.size w2 wr) ∧ Hid (∀ j x, j < k → xs[j]? = some x → meetB x b = false)) (fun i _ => n - (intOf i).toNat)
      case atStart => exact ⟨0, by omega, rfl, Lib.hid (Below.refl _ _), Lib.hid (fun j x hj => absurd hj (Nat.not_lt_zero _))⟩
      case round =>
        obtain ⟨k, hk, rfl, HB, HG⟩ := hrel
        have hsz := HB.out.size
        have c0 : wr.cell? ⟨w.heap.size, 0, none⟩ = some (.int .i64 b.a) := by rw [HB.out.cell (p := ⟨w.heap.size, 0, none⟩) hg2]; exact e0
        have c1 : wr.cell? ⟨w.heap.size, 1, none⟩ = some (.int .i64 b.o) := by rw [HB.out.cell (p := ⟨w.heap.size, 1, none⟩) hg2]; exact e1
        have c2 : wr.frozen? ⟨w.heap.size, 0, none⟩ = false := by rw [HB.out.frozen (p := ⟨w.heap.size, 0, none⟩) hg2]; exact f0
        have c3 : wr.frozen? ⟨w.heap.size, 1, none⟩ = false := by rw [HB.out.frozen (p := ⟨w.heap.size, 1, none⟩) hg2]; exact f1
        have hgr : w.heap.size < wr.heap.size := by omega
        have HBQ := Lib.hid (HBW.out.trans (HB.out.mono (by omega)))
        have HZr := Lib.hid (HZ.out.below (HBQ.out.mono hB))
        by_cases hlt : k < n
        · obtain ⟨x, hx⟩ := HX.out k hlt
          obtain ⟨ab, off, hAe, hb⟩ := HA.out (by omega)
          subst hAe
          have hcs := HZr.out.at_ fB_len hx
          have xc0 : wr.cell? ⟨ab, off + k * 2, none⟩ = some (.int .i64 x.a) := hcs 0 _ rfl
          have xc1 : wr.cell? ⟨ab, off + k * 2 + 1, none⟩ = some (.int .i64 x.o) := hcs 1 _ rfl
          have HX0 := Lib.hid hx
          have HBA := Lib.hid (fun q => (HB.out.alloc hsz (.cells #[.int .i64 x.a, .int .i64 x.o] 30)).trans (below_drewN w2.heap.size _ q))
          obtain ⟨x1, x2, x3, x4⟩ := okB_cases (HRP.out.1 x (List.mem_of_getElem? hx))
          have xo1 : 0 ≤ x.o := by omega
          have xo2 : x.o ≤ 6 := by omega
          have hsx := size_any x.o xo1 xo2
          obtain ⟨t1, t2⟩ := szO_le xo1 xo2
          have HMX := Lib.hid (HMB.out x)
          clear hcs hx x3 x4
          generalize szO x.o = sx at *
          by_cases h1 : x.a < b.a + sb
          · have hd1 : decide (x.a < b.a + sb) = true := decide_eq_true h1
            by_cases h2 : b.a < x.a + sx
            · have hd2 : decide (b.a < x.a + sx) = true := decide_eq_true h2
              have HRES := Lib.hid (HT2.out HOKB.out (meets_yes HX0.out (by rw [HMX.out, hd1, hd2]; rfl)))
              clear HT2 HT3
              go_wp2
              go_quiet (first | (go_at_call 33; exact quiet_same hsb) | (go_at_call 33; exact quiet_same hsx))
              go_wp2
              go_ret2
              exact ⟨_, by rw [HRES.out]; rfl, by rw [HRES.out]; exact Os.nil, HBW.out.trans ((HBA.out _).mono (by omega))⟩
            · have hd2 : decide (b.a < x.a + sx) = false := decide_eq_false h2
              have HMM : Hid (meetB x b = false) := Lib.hid (by rw [HMX.out, hd2]; simp)
              go_wp2
              go_quiet (first | (go_at_call 33; exact quiet_same hsb) | (go_at_call 33; exact quiet_same hsx))
              go_wp2
              go_roundw
              case rel => exact ⟨k + 1, by omega, by go_num, Lib.hid (HBA.out _), Lib.hid (fun j y hj hy => by
                by_cases e : j = k
                · subst e
                  rw [HX0.out] at hy; cases hy; exact HMM.out
                · exact HG.out j y (by omega) hy)⟩
              case measure => simp [intOf]; omega
          · have hd1 : decide (x.a < b.a + sb) = false := decide_eq_false h1
            have HMM : Hid (meetB x b = false) := Lib.hid (by rw [HMX.out, hd1]; simp)
            go_wp2
            go_quiet (first | (go_at_call 33; exact quiet_same hsb))
            go_wp2
            go_roundw
            case rel => exact ⟨k + 1, by omega, by go_num, Lib.hid (HBA.out _), Lib.hid (fun j y hj hy => by
              by_cases e : j = k
              · subst e
                rw [HX0.out] at hy; cases hy; exact HMM.out
              · exact HG.out j y (by omega) hy)⟩
            case measure => simp [intOf]; omega
        · have hkn : k = n := by omega
          subst hkn
          have HMS := Lib.hid (meets_up HL.out HG.out)
          have HRES := Lib.hid (HT3.out HOKB.out HMS.out)
          have HGS := Lib.hid (GvI.start HRP.out HOKB.out HMS.out)
          obtain ⟨wo, hwo⟩ : ∃ wo, wo = wr := ⟨_, rfl⟩
          subst hwo
          have hclone := clone_B A k c xs wo B HZr.out (by omega) (by omega)
          have HLX := HL
          clear HT2 HT3 HG hsb
          go_wp2_with (go_at_call 32; refine hclone.mono ?_; rintro e w3 ⟨v3, rfl, ho3, hb3⟩)
          have HO3 := Lib.hid ho3
          have HB3 := Lib.hid hb3
          have hs3 := hb3.size
          have z0 : w3.cell? ⟨w.heap.size, 0, none⟩ = some (.int .i64 b.a) := by rw [HB3.out.cell (p := ⟨w.heap.size, 0, none⟩) hgr]; exact c0
          have z1 : w3.cell? ⟨w.heap.size, 1, none⟩ = some (.int .i64 b.o) := by rw [HB3.out.cell (p := ⟨w.heap.size, 1, none⟩) hgr]; exact c1
          have z2 : w3.frozen? ⟨w.heap.size, 0, none⟩ = false := by rw [HB3.out.frozen (p := ⟨w.heap.size, 0, none⟩) hgr]; exact c2
          have z3 : w3.frozen? ⟨w.heap.size, 1, none⟩ = false := by rw [HB3.out.frozen (p := ⟨w.heap.size, 1, none⟩) hgr]; exact c3
          clear ho3 hb3 hclone e0 e1 f0 f1 c0 c1 c2 c3
          go_loopw [8] (fun v8 wr => ∃ (a o : Int) (out : List Blk), Hid (GvI xs b out ⟨a, o⟩) ∧ Hid (Os fB 2 30 wr wo.heap.size v8 out) ∧ Hid (Below w.heap.size w wr) ∧ wo.heap.size ≤ wr.heap.size ∧ wr.cell? ⟨w.heap.size, 0, none⟩ = some (.int .i64 a) ∧ wr.cell? ⟨w.heap.size, 1, none⟩ = some (.int .i64 o) ∧ wr.frozen? ⟨w.heap.size, 0, none⟩ = false ∧ wr.frozen? ⟨w.heap.size, 1, none⟩ = false ∧ out.length ≤ 64) (fun _ wr => (6 - cellI wr ⟨w.heap.size, 1, none⟩).toNat)
          case atStart => exact ⟨b.a, b.o, xs, HGS, HO3, Lib.hid (HBQ.out.trans (HB3.out.mono (by omega))), hs3, z0, z1, z2, z3, by rw [HLX.out]; exact hn64⟩
          case round =>
            obtain ⟨a, o, out, HT, HO, HBr, hsr, c0, c1, c2, c3, hol⟩ := hrel
            obtain ⟨A2, cp, rfl, hcp1, hcp2⟩ := HO.out.form
            have hgw : w.heap.size < wr.heap.size := by omega
            by_cases h6 : o < 6
            · obtain ⟨q1, q2, q3⟩ : 0 ≤ a ∧ a < 64 ∧ 0 ≤ o := by
                obtain ⟨h1, h2, _, h4⟩ := okB_cases HT.out.1
                have := szO_pos o
                simp only at h1 h2 h4
                exact ⟨h1, by omega, by omega⟩
              have hs1 := size_any o q3 (by omega)
              have hxor := xor_bud q1 q2 q3 h6
              have hbdL : 0 ≤ budA a o ∧ budA a o ≤ 64 := by
                obtain ⟨m1, m2, m3⟩ := merge_ok HT.out.1 h6
                have m4 := okB_cases m2
                simp only at m4
                have := szO_pos (o + 1)
                have := szO_pos o
                omega
              obtain ⟨s, hsE⟩ : ∃ s, s = szO o := ⟨_, rfl⟩
              rw [← hsE] at hs1 hxor
              clear hsE
              obtain ⟨bd, hbdE⟩ : ∃ bd, bd = budA a o := ⟨_, rfl⟩
              rw [← hbdE] at hxor hbdL
              have HBD := Lib.hid hbdE
              clear hbdE
              obtain ⟨b1, b2⟩ := hbdL
              obtain ⟨A3, c3', e3, _, _, hrw⟩ := HO.out.row fB_len
              injection e3 with e31 e32 e33
              subst e31 e33
              clear e32
              have hidx : ∀ (d : Nat) (os : Array Obj), Calls Try.prog 37 #[.slice A2 out.length cp, .agg #[.int .i64 bd, .int .i64 o]] (grow (redrawn wr d) os) fun e w' => e = .returned (.int .i64 (idxOf (fun x => eqB ⟨bd, o⟩ x) out)) ∧ Below (grow (redrawn wr d) os).heap.size (grow (redrawn wr d) os) w' := fun d os => index_B ⟨bd, o⟩ A2 out.length cp out _ wr.heap.size (hrw.below (below_regrown wr d os)) (below_regrown wr d os).size (by omega)
              have HIX := Lib.hid (show idxOf (fun x => eqB ⟨bd, o⟩ x) out = if out.findIdx (fun x => eqB ⟨bd, o⟩ x) < out.length then (out.findIdx (fun x => eqB ⟨bd, o⟩ x) : Int) else -1 from rfl)
              have HIY := Lib.hid (fun (h : out.findIdx (fun x => eqB ⟨bd, o⟩ x) < out.length) => (by
                have h2 := List.findIdx_getElem (w := h)
                rw [List.getElem?_eq_getElem h]
                exact congrArg some (eqB_iff.1 h2).symm : out[out.findIdx (fun x => eqB ⟨bd, o⟩ x)]? = some ⟨bd, o⟩))
              have rg0 : ∀ d os, (grow (redrawn wr d) os).cell? ⟨w.heap.size, 0, none⟩ = some (.int .i64 a) := cell_regrown c0
              have rg1 : ∀ d os, (grow (redrawn wr d) os).cell? ⟨w.heap.size, 1, none⟩ = some (.int .i64 o) := cell_regrown c1
              clear hrw
              obtain ⟨ix, hixE⟩ : ∃ ix, ix = idxOf (fun x => eqB ⟨bd, o⟩ x) out := ⟨_, rfl⟩
              rw [← hixE] at HIX
              rw [← hixE] at hidx
              clear hixE
              go_wp2
              refine wp_region_quiet_below (by kernel_rfl) (by kernel_rfl) ?_
              repeat (go_big_quiet_step (first | (go_at_call 37; exact Calls.regrown_of (hidx _ _)) | (go_at_call 33; exact regrown_same hs1)))
              refine wpQuiet_nil ?_
              intro w5 hw'
              obtain ⟨p', hw'⟩ := hw'
              have hb5 : Below wr.heap.size wr w5 := by rw [hw']; exact below_regrown _ _ _
              clear hw' p' rg0 rg1 hidx hs1
              have hs5 := hb5.size
              have HO5 := Lib.hid (HO.out.below hb5 (Nat.le_refl _))
              have HB5 := Lib.hid (HBr.out.trans (hb5.mono (by omega)))
              have y0 : w5.cell? ⟨w.heap.size, 0, none⟩ = some (.int .i64 a) := by rw [hb5.cell (p := ⟨w.heap.size, 0, none⟩) hgw]; exact c0
              have y1 : w5.cell? ⟨w.heap.size, 1, none⟩ = some (.int .i64 o) := by rw [hb5.cell (p := ⟨w.heap.size, 1, none⟩) hgw]; exact c1
              have y2 : w5.frozen? ⟨w.heap.size, 0, none⟩ = false := by rw [hb5.frozen (p := ⟨w.heap.size, 0, none⟩) hgw]; exact c2
              have y3 : w5.frozen? ⟨w.heap.size, 1, none⟩ = false := by rw [hb5.frozen (p := ⟨w.heap.size, 1, none⟩) hgw]; exact c3
              have hm1 : cellI wr ⟨w.heap.size, 1, none⟩ = o := cellI_eq c1
              clear hb5 c0 c1 c2 c3
              by_cases hfi : out.findIdx (fun x => eqB ⟨bd, o⟩ x) < out.length
              · have HKX := Lib.hid (HIY.out hfi)
                rw [if_pos hfi] at HIX
                have hixE := HIX.out
                clear HIX HIY
                obtain ⟨kk, hkkE⟩ : ∃ kk, kk = out.findIdx (fun x => eqB ⟨bd, o⟩ x) := ⟨_, rfl⟩
                rw [← hkkE] at HKX hixE hfi
                clear hkkE
                subst hixE
                have hk0 : decide ((kk : Int) < 0) = false := decide_eq_false (by omega)
                obtain ⟨g, rfl⟩ := os_some HO5.out (by omega)
                have hcs := HO5.out.cells fB_len HKX.out
                have r0 : w5.cell? ⟨g, kk * 2, none⟩ = some (.int .i64 bd) := (hcs 0 _ rfl).1
                have hgs := HO5.out.blk_lt_
                have hkk1 : (kk : Int) < (out.length : Int) := by omega
                have hkk2 : (0 : Int) ≤ (kk : Int) := by omega
                have HT2 : Hid (GvI xs b (out.eraseIdx kk) ⟨min a bd, o + 1⟩) := Lib.hid (by
                  have := HT.out.step (k := kk) h6 (by rw [← HBD.out]; exact HKX.out)
                  rw [← HBD.out] at this; exact this)
                have HOS : Hid (Os fB 2 30 ((w5.drew.setCell ⟨w.heap.size, 0, none⟩ (.int .i64 (min a bd))).setCell ⟨w.heap.size, 1, none⟩ (.int .i64 (o + 1))) wo.heap.size (.slice (some ⟨g, 0, none⟩) out.length cp) out) := Lib.hid (((HO5.out.below (below_drew _ _) (Nat.le_refl _)).set_other (by omega) _).set_other (by omega) _)
                have hdel := delete_B (.slice (some ⟨g, 0, none⟩) out.length cp) out kk hfi _ wo.heap.size HOS.out (by simp; omega) (by omega)
                have hg5 : w.heap.size < w5.heap.size := by omega
                have hW0 : Hid (((w5.drew.setCell ⟨w.heap.size, 0, none⟩ (.int .i64 (min a bd))).setCell ⟨w.heap.size, 1, none⟩ (.int .i64 (o + 1))).cell? ⟨w.heap.size, 0, none⟩ = some (.int .i64 (min a bd))) := Lib.hid (by simp [go_sem, y0])
                have hW1 : Hid (((w5.drew.setCell ⟨w.heap.size, 0, none⟩ (.int .i64 (min a bd))).setCell ⟨w.heap.size, 1, none⟩ (.int .i64 (o + 1))).cell? ⟨w.heap.size, 1, none⟩ = some (.int .i64 (o + 1))) := Lib.hid (by simp [go_sem, y1])
                have hW2 : Hid (((w5.drew.setCell ⟨w.heap.size, 0, none⟩ (.int .i64 (min a bd))).setCell ⟨w.heap.size, 1, none⟩ (.int .i64 (o + 1))).frozen? ⟨w.heap.size, 0, none⟩ = false) := Lib.hid (by simp [go_sem, y2])
                have hW3 : Hid (((w5.drew.setCell ⟨w.heap.size, 0, none⟩ (.int .i64 (min a bd))).setCell ⟨w.heap.size, 1, none⟩ (.int .i64 (o + 1))).frozen? ⟨w.heap.size, 1, none⟩ = false) := Lib.hid (by simp [go_sem, y3])
                have HBX : Hid (Below w.heap.size w ((w5.drew.setCell ⟨w.heap.size, 0, none⟩ (.int .i64 (min a bd))).setCell ⟨w.heap.size, 1, none⟩ (.int .i64 (o + 1)))) := Lib.hid (((HB5.out.trans (below_drew _ _)).setCell (Nat.le_refl _) _).setCell (Nat.le_refl _) _)
                have HSX : Hid (((w5.drew.setCell ⟨w.heap.size, 0, none⟩ (.int .i64 (min a bd))).setCell ⟨w.heap.size, 1, none⟩ (.int .i64 (o + 1))).heap.size = w5.heap.size) := Lib.hid (by simp)
                clear hcs
                go_wp2
                go_region
                go_wp2_with (go_at_call 31; refine hdel.mono ?_; rintro e w6 ⟨v6, rfl, ho6, hb6⟩)
                have HO6 := Lib.hid ho6
                have HB6 := Lib.hid hb6
                clear ho6 hb6 hdel
                have z0 : w6.cell? ⟨w.heap.size, 0, none⟩ = some (.int .i64 (min a bd)) := by rw [HB6.out.cell (p := ⟨w.heap.size, 0, none⟩) hgr]; exact hW0.out
                have z1 : w6.cell? ⟨w.heap.size, 1, none⟩ = some (.int .i64 (o + 1)) := by rw [HB6.out.cell (p := ⟨w.heap.size, 1, none⟩) hgr]; exact hW1.out
                have z2 : w6.frozen? ⟨w.heap.size, 0, none⟩ = false := by rw [HB6.out.frozen (p := ⟨w.heap.size, 0, none⟩) hgr]; exact hW2.out
                have z3 : w6.frozen? ⟨w.heap.size, 1, none⟩ = false := by rw [HB6.out.frozen (p := ⟨w.heap.size, 1, none⟩) hgr]; exact hW3.out
                go_roundw
                case rel => exact ⟨min a bd, o + 1, out.eraseIdx kk, HT2, HO6, Lib.hid (HBX.out.trans (HB6.out.mono (by omega))), by have := HB6.out.size; have := HSX.out; omega, z0, z1, z2, z3, by rw [List.length_eraseIdx]; split <;> omega⟩
                case measure =>
                  have e1 : cellI w6 ⟨w.heap.size, 1, none⟩ = o + 1 := cellI_eq z1
                  rw [hm1, e1]; omega
              · rw [if_neg hfi] at HIX
                have hixE := HIX.out
                clear HIX HIY
                subst hixE
                have HOT := HO5
                have HBT := HB5
                have c0 := y0
                have c1 := y1
                clear y2 y3
                have HGD := HT.out.2.1
                have hgb := HT.out.1
                have HNB : Hid (o < 6 → ∀ x ∈ out, x ≠ ⟨budA a o, o⟩) := Lib.hid (fun _ x hx e => by have := (List.findIdx_lt_length (p := fun x => eqB ⟨bd, o⟩ x) (xs := out)).2 ⟨x, hx, by rw [e, ← HBD.out]; exact eqB_iff.2 rfl⟩; omega)
                obtain ⟨j1, j2⟩ : 0 ≤ a ∧ a ≤ 64 := by
                  obtain ⟨h1, h2, _⟩ := okB_cases hgb
                  have := szO_pos o
                  simp only at h1 h2
                  exact ⟨h1, by omega⟩
                have HOK : Hid (∀ x ∈ out ++ [(⟨a, o⟩ : Blk)], 0 ≤ x.a ∧ x.a ≤ 64) := Lib.hid (fun x hx => by
                  rcases List.mem_append.1 hx with hx | hx
                  · obtain ⟨h1, h2, _⟩ := okB_cases (HGD.1 x hx)
                    have := szO_pos x.o
                    exact ⟨h1, by omega⟩
                  · rw [List.mem_singleton.1 hx]; exact ⟨j1, j2⟩)
                clear HGD hgb j1 j2
                go_wp2_with (first
                  | (go_at_call 34
                     refine (sort_Bk (.slice (some ⟨g', 0, none⟩) (out.length + 1) c') (out ++ [⟨a, o⟩]) w6 (wo.heap.size) HO6.out HOK.out (by simp; omega) (by have := HB6.out.size; omega)).mono ?_
                     rintro e w7 ⟨rfl, ys, hp, hsr2, ho7, hb7⟩)
                  | (at_builtin
                     refine append_one Try.underlying22 info_B rfl (by decide) fB_len fB_one1 rfl _ _ rfl wo.heap.size (.slice A2 out.length cp) out w5 ⟨a, o⟩ w5.heap.size rfl rfl rfl HOT.out (by omega) (by unfold maxLen; omega) (by omega) ?_
                     intro g' c' w6 ho6 hb6 hbg6 hcc6 hmx6
                     have HO6 := Lib.hid ho6
                     have HB6 := Lib.hid hb6
                     clear ho6 hb6))
                have HYS : Hid (ys = giveC xs b) := Lib.hid (HT.out.end HNB.out hp.symm hsr2)
                have HO7 := Lib.hid ho7
                have HB7 := Lib.hid hb7
                clear ho7 hb7 hp hsr2
                go_ret2
                refine ⟨_, by rw [HRES.out]; rfl, ?_, HBT.out.trans ((HB6.out.mono (by omega)).trans (HB7.out.mono (by omega)))⟩
                rw [HRES.out, ← HYS.out]
                exact HO7.out.rebase (by omega)
            · have hoe : 6 ≤ o := by omega
              have HOT := HO
              have HBT := HBr
              have HGD := HT.out.2.1
              have hgb := HT.out.1
              have HNB : Hid (o < 6 → ∀ x ∈ out, x ≠ ⟨budA a o, o⟩) := Lib.hid (fun h => absurd h (by omega))
              obtain ⟨j1, j2⟩ : 0 ≤ a ∧ a ≤ 64 := by
                obtain ⟨h1, h2, _⟩ := okB_cases hgb
                have := szO_pos o
                simp only at h1 h2
                exact ⟨h1, by omega⟩
              have HOK : Hid (∀ x ∈ out ++ [(⟨a, o⟩ : Blk)], 0 ≤ x.a ∧ x.a ≤ 64) := Lib.hid (fun x hx => by
                rcases List.mem_append.1 hx with hx | hx
                · obtain ⟨h1, h2, _⟩ := okB_cases (HGD.1 x hx)
                  have := szO_pos x.o
                  exact ⟨h1, by omega⟩
                · rw [List.mem_singleton.1 hx]; exact ⟨j1, j2⟩)
              clear HGD hgb j1 j2
              go_wp2_with (first
                | (go_at_call 34
                   refine (sort_Bk (.slice (some ⟨g', 0, none⟩) (out.length + 1) c') (out ++ [⟨a, o⟩]) w6 (wo.heap.size) HO6.out HOK.out (by simp; omega) (by have := HB6.out.size; omega)).mono ?_
                   rintro e w7 ⟨rfl, ys, hp, hsr2, ho7, hb7⟩)
                | (at_builtin
                   refine append_one Try.underlying22 info_B rfl (by decide) fB_len fB_one1 rfl _ _ rfl wo.heap.size (.slice A2 out.length cp) out wr ⟨a, o⟩ wr.heap.size rfl rfl rfl HOT.out (by omega) (by unfold maxLen; omega) (by omega) ?_
                   intro g' c' w6 ho6 hb6 hbg6 hcc6 hmx6
                   have HO6 := Lib.hid ho6
                   have HB6 := Lib.hid hb6
                   clear ho6 hb6))
              have HYS : Hid (ys = giveC xs b) := Lib.hid (HT.out.end HNB.out hp.symm hsr2)
              have HO7 := Lib.hid ho7
              have HB7 := Lib.hid hb7
              clear ho7 hb7 hp hsr2
              go_ret2
              refine ⟨_, by rw [HRES.out]; rfl, ?_, HBT.out.trans ((HB6.out.mono (by omega)).trans (HB7.out.mono (by omega)))⟩
              rw [HRES.out, ← HYS.out]
              exact HO7.out.rebase (by omega)
end Go.Proofs.Ytnbhchfpfbbngaa
