/- pool.Right. -/
import Derived.Test.YtnbhchfpfbbngaaPlw
namespace Go.Proofs.Ytnbhchfpfbbngaa
open Go.ChangeShapes Go.WideShapes Go.ChangeAt Go.RowKit Go.Joins
set_option linter.unusedVariables false
set_option linter.unusedSimpArgs false
/-- 64 integers, in a block. -/
structure Fi (w : World) (g : Nat) (r : Nat → Int) : Prop where
  at_ : ∀ i, i < 64 → w.cell? ⟨g, i, none⟩ = some (.int .i64 (r i))
  free : ∀ i, i < 64 → w.frozen? ⟨g, i, none⟩ = false
theorem Fi.lt {w : World} {g : Nat} {r : Nat → Int} (h : Fi w g r) : g < w.heap.size := lt_of_cell (h.at_ 0 (by omega))
theorem Fi.below {w w' : World} {g : Nat} {r : Nat → Int} (h : Fi w g r) (hb : Below w.heap.size w w') : Fi w' g r :=
  ⟨fun i hi => (hb.cell (p := ⟨g, i, none⟩) h.lt).trans (h.at_ i hi), fun i hi => (hb.frozen (p := ⟨g, i, none⟩) h.lt).trans (h.free i hi)⟩
theorem Fi.congr {w : World} {g : Nat} {r r' : Nat → Int} (h : Fi w g r) (he : ∀ i, i < 64 → r i = r' i) : Fi w g r' :=
  ⟨fun i hi => by rw [← he i hi]; exact h.at_ i hi, h.free⟩
theorem Fi.set {w : World} {g : Nat} {r : Nat → Int} (h : Fi w g r) {j : Nat} (hj : j < 64) (x : Int) : Fi (w.setCell ⟨g, j, none⟩ (.int .i64 x)) g (updI r j x) := by
  have hc := h.at_ j hj
  refine ⟨fun i hi => ?_, fun i hi => ?_⟩
  · by_cases e : i = j
    · subst e
      simp [go_sem, hc, updI]
    · have := h.at_ i hi
      simp [go_sem, this, updI, e]
  · have := h.free i hi
    simp [go_sem, this]
theorem fi_new (w : World) : Fi (w.alloc (.cells zR 40)) w.heap.size (fun _ => 0) :=
  ⟨fun i hi => by rw [(Bx.new w _ zR).cell]; exact zR_v.at_ i hi, fun i hi => (Bx.new w _ zR).free i⟩
def b01 (b : Bool) : Int := if b then 1 else 0
theorem b01_eq (b : Bool) : (b01 b == 1) = b := by cases b <;> rfl
def parI (xs : List Blk) (k : Nat) (x : Blk) (j : Nat) : Nat → Int := fun m => b01 (covB (xs.take k) m || (decide (x.a ≤ m) && decide ((m : Int) < x.a + j)))
theorem covB_take {xs : List Blk} {k : Nat} {x : Blk} (hx : xs[k]? = some x) (m : Nat) : covB (xs.take (k + 1)) m = (covB (xs.take k) m || inBB x m) := by
  have hlt := (List.getElem?_eq_some_iff.1 hx).1
  rw [List.take_succ_eq_append_getElem hlt, (List.getElem?_eq_some_iff.1 hx).2, covB_snoc]
theorem run_idxR {rs : Array Value} {r : Nat → Int} (h : RfV rs r) {k : Nat} (hk : k < 64) (w : World) : (Instr.index 40 (.agg rs) (.int .i64 (k : Int))).run Try.prog w = .ok (.int .i64 (r k)) w := by
  have ha := Try.isAgg3
  have hz := Try.sizeOf3
  have hv := h.at_ k hk
  unfold Instr.index
  simp [go_sem, ha, hz, part, hv]
  intro h; omega
theorem right_all {p : Pl} (h1 : rightB p.f = true) (h2 : ∀ n, n < 64 → refOk p n = true) : rightP p = true := by
  simp only [rightP, Bool.and_eq_true, List.all_eq_true, List.mem_range]
  exact ⟨h1, h2⟩
theorem right_not {p : Pl} {n : Nat} (hn : n < 64) (h : refOk p n = false) : rightP p = false := by
  rw [← Bool.not_eq_true]
  simp only [rightP, Bool.and_eq_true, List.all_eq_true, List.mem_range]
  rintro ⟨_, h2⟩
  rw [h2 n hn] at h; cases h
theorem right_no {p : Pl} (h : rightB p.f = false) : rightP p = false := by unfold rightP; rw [h]; rfl
set_option maxHeartbeats 8000000 in
set_option maxRecDepth 100000 in
theorem rightP_v {w : World} {cs : Array Value} {p : Pl} (h : PlV w cs p) (hf : ∀ x ∈ p.f, x.fits) :
    Calls Try.prog 22 #[.agg cs] w fun e w' => e = .returned (.bool (rightP p)) ∧ Below w.heap.size w w' := by
  have HW0 := Lib.hid ((Below.refl w.heap.size w).alloc (Nat.le_refl _) (.cells cs 42))
  have HBX := Lib.hid (Bx.new w 42 cs)
  have HP := Lib.hid h
  have HRF := Lib.hid h.refs
  have HSZ := Lib.hid h.size
  obtain ⟨v, hv0, hbv⟩ := h.list
  have hri := right_v (hbv.below HW0.out) hf
  obtain ⟨A, n, c, rfl, hz, hn⟩ := hbv
  have HZ := Lib.hid hz
  have HLN := Lib.hid hz.1
  cases hr : rightB p.f with
  | false =>
    rw [hr] at hri
    have HRES := Lib.hid (right_no hr)
    clear hr h hz hf
    generalize rightP p = res at *
    go_enter Try.func22, Try.ntmps22
    go_wp2_with (go_at_call 14; refine hri.mono ?_; rintro e w1 ⟨rfl, hb1⟩)
    go_ret
    exact ⟨ret_b HRES.out.symm, HW0.out.trans (hb1.mono HW0.out.size)⟩
  | true =>
    rw [hr] at hri
    have HRP := Lib.hid (right_rp hr)
    have hn64 : n ≤ 64 := by rw [← hz.1]; exact rp_len HRP.out
    have HX := Lib.hid (fun (i : Nat) (hi : i < n) => (⟨p.f[i]'(by rw [hz.1]; exact hi), List.getElem?_eq_getElem _⟩ : ∃ x, p.f[i]? = some x))
    have HA : Hid (0 < n → ∃ b off, A = some ⟨b, off, none⟩ ∧ b < w.heap.size) := Lib.hid (fun h => HZ.out.open h)
    have HALL := Lib.hid (right_all hr)
    have HNOT := Lib.hid (fun (n : Nat) (hn : n < 64) => right_not (p := p) hn)
    have HRO : Hid (∀ n : Nat, refOk p n = (decide (0 ≤ p.r n) && ((p.r n == 0) == covB p.f n))) := Lib.hid (fun n => rfl)
    clear hr h hz hf
    generalize rightP p = res at *
    go_enter Try.func22, Try.ntmps22
    go_wp2_with (first
      | (with_reducible refine alR ?_)
      | (go_at_call 14
         refine hri.mono ?_
         rintro e w1 ⟨rfl, hb1⟩
         have K1 := Lib.hid (HW0.out.trans (hb1.mono HW0.out.size))
         have X1 := Lib.hid (HBX.out.below hb1)
         have hg1 : w.heap.size < w1.heap.size := X1.out.lt
         have c1 : w1.cell? ⟨w.heap.size, 0, none⟩ = some (.slice A n c) := by rw [X1.out.cell]; exact hv0
         have F1 := Lib.hid (fi_new w1)
         have K2 := Lib.hid (K1.out.alloc K1.out.size (.cells zR 40))
         have X2 := Lib.hid (X1.out.below ((Below.refl _ _).alloc (Nat.le_refl _) (.cells zR 40)))
         have hg2 : w1.heap.size < (w1.alloc (.cells zR 40)).heap.size := by simp
         clear hb1 hri))
    have HG2 := Lib.hid hg2
    clear hg2
    go_loopw [16] (fun i wr => ∃ k : Nat, k ≤ n ∧ i = .int .i64 k ∧ Hid (Fi wr w1.heap.size (fun m => b01 (covB (p.f.take k) m))) ∧ Hid (Bx wr w.heap.size 42 cs) ∧ Hid (Below w.heap.size w wr)) (fun i _ => n - (intOf i).toNat)
    case atStart => exact ⟨0, by omega, rfl, Lib.hid (F1.out.congr fun i hi => by simp [covB, b01]), X2, K2⟩
    case round =>
      obtain ⟨k, hk, rfl, HF, HXr, HB⟩ := hrel
      have hszr := HB.out.size
      have hg1r : w1.heap.size < wr.heap.size := HF.out.lt
      by_cases hlt : k < n
      · obtain ⟨x, hx⟩ := HX.out k hlt
        obtain ⟨b, off, hAe, hb⟩ := HA.out (by omega)
        subst hAe
        have hcs := (HZ.out.below HB.out).at_ fB_len hx
        have xc0 : wr.cell? ⟨b, off + k * 2, none⟩ = some (.int .i64 x.a) := hcs 0 _ rfl
        have xc1 : wr.cell? ⟨b, off + k * 2 + 1, none⟩ = some (.int .i64 x.o) := hcs 1 _ rfl
        have HX0 := Lib.hid hx
        have hA := (Below.refl wr.heap.size wr).alloc (Nat.le_refl _) (.cells #[.int .i64 x.a, .int .i64 x.o] 30)
        have KA := Lib.hid (HB.out.trans (hA.mono hszr))
        have FA := Lib.hid (HF.out.below hA)
        have XA := Lib.hid (HXr.out.below hA)
        obtain ⟨x1, x2, x3, x4⟩ := okB_cases (HRP.out.1 x (List.mem_of_getElem? hx))
        have xo1 : 0 ≤ x.o := by omega
        have xo2 : x.o ≤ 6 := by omega
        have hsh := shl_one (o := x.o) xo1 xo2
        obtain ⟨s1, s2⟩ := szO_le (o := x.o) xo1 xo2
        have hxs : x.a + szO x.o ≤ 64 := by omega
        have HIN : Hid (∀ m : Nat, inBB x m = (decide (x.a ≤ m) && decide ((m : Int) < x.a + szO x.o))) := Lib.hid (fun n => rfl)
        have HSE : Hid (szO x.o = 2 ^ x.o.toNat) := Lib.hid rfl
        obtain ⟨xa, hxa⟩ := Int.eq_ofNat_of_zero_le x1
        obtain ⟨wq, hwq⟩ : ∃ wp, wp = wr := ⟨_, rfl⟩
        subst hwq
        obtain ⟨s, hs⟩ : ∃ s, s = szO x.o := ⟨_, rfl⟩
        rw [← hs] at hsh s1 s2 HIN HSE hxs
        have hw64 : wrap64 (2 ^ x.o.toNat) = s := by rw [← HSE.out]; unfold wrap64; omega
        have HXA := Lib.hid hxa
        have hqz : wq.heap.size < (wq.alloc (.cells #[.int .i64 x.a, .int .i64 x.o] 30)).heap.size := by simp
        have HQZ := Lib.hid hqz
        have Y0 : Hid ((wq.alloc (.cells #[.int .i64 x.a, .int .i64 x.o] 30)).cell? ⟨wq.heap.size, 0, none⟩ = some (.int .i64 xa)) := Lib.hid (by rw [← HXA.out]; simp [go_sem])
        clear hs x2 x3 x4 hxa hx hcs hA hqz
        go_wp2
        simp only [hw64]
        clear hw64 hsh HSE xc0 xc1
        rw [HXA.out] at hxs
        go_loopw [23] (fun i wr => ∃ q : Nat, (q : Int) ≤ s ∧ i = .int .i64 q ∧ Hid (Fi wr w1.heap.size (fun m => b01 (covB (p.f.take k) m || (decide ((xa : Int) ≤ m) && decide ((m : Int) < xa + q))))) ∧ Hid (Bx wr w.heap.size 42 cs) ∧ Hid (Below w.heap.size w wr) ∧ wq.heap.size < wr.heap.size ∧ wr.cell? ⟨wq.heap.size, 0, none⟩ = some (.int .i64 xa)) (fun i _ => 64 - (intOf i).toNat)
        case atStart => exact ⟨0, by omega, rfl, Lib.hid (FA.out.congr fun i hi => by
          congr 1
          rw [Bool.eq_iff_iff]
          simp; omega), XA, KA, HQZ.out, Y0.out⟩
        case round =>
          obtain ⟨q, hq, rfl, HFq, HXq, HBq, hqs, bc0⟩ := hrel
          by_cases hql : (q : Int) < s
          · have hdq : decide ((q : Int) < s) = true := decide_eq_true hql
            have hix : ((xa : Int) + (q : Int)).toNat = xa + q := by omega
            have hi64 : xa + q < 64 := by omega
            have hi64' : (xa : Int) + (q : Int) < 64 := by omega
            have hi0 : (0 : Int) ≤ (xa : Int) + (q : Int) := by omega
            have hfc := HFq.out.at_ (xa + q) hi64
            have hff := HFq.out.free (xa + q) hi64
            have hne : ¬ (wq.heap.size = w1.heap.size) := by omega
            go_wp2
            go_roundw
            case rel => exact ⟨q + 1, by omega, by go_num, Lib.hid ((HFq.out.set hi64 1).congr fun i hi => by
                unfold updI
                by_cases e : i = xa + q
                · subst e
                  rw [if_pos rfl, show decide ((xa : Int) ≤ ((xa + q : Nat) : Int)) = true from decide_eq_true (by omega), show decide (((xa + q : Nat) : Int) < (xa : Int) + ((q + 1 : Nat) : Int)) = true from decide_eq_true (by omega)]
                  simp [b01]
                · rw [if_neg e]
                  show b01 (covB (p.f.take k) i || (decide ((xa : Int) ≤ i) && decide ((i : Int) < xa + q))) = b01 (covB (p.f.take k) i || (decide ((xa : Int) ≤ i) && decide ((i : Int) < xa + ((q + 1 : Nat) : Int))))
                  rw [show decide ((i : Int) < xa + q) = decide ((i : Int) < xa + ((q + 1 : Nat) : Int)) from decide_eq_decide.2 (by omega)]), Lib.hid (HXq.out.other (by omega) _ _), Lib.hid (HBq.out.setCell (p := ⟨w1.heap.size, xa + q, none⟩) (by show w.heap.size ≤ w1.heap.size; omega) _), by simpa using hqs, by simp [go_sem, bc0, hne]⟩
            case measure => simp [intOf]; omega
          · have hqe : (q : Int) = s := by omega
            have hdq : decide ((q : Int) < s) = false := decide_eq_false hql
            have HFN : Hid (Fi wr w1.heap.size (fun m => b01 (covB (p.f.take (k + 1)) m))) := Lib.hid (HFq.out.congr fun i hi => by
              show b01 (covB (p.f.take k) i || (decide ((xa : Int) ≤ i) && decide ((i : Int) < xa + q))) = b01 (covB (p.f.take (k + 1)) i)
              rw [covB_take HX0.out, HIN.out, HXA.out, hqe])
            go_wp2
            go_roundw
            case rel => exact ⟨k + 1, by omega, by go_num, HFN, HXq, HBq⟩
            case measure => simp [intOf]; omega
      · have hkn : k = n := by omega
        subst hkn
        have HFN : Hid (Fi wr w1.heap.size (fun m => b01 (covB p.f m))) := Lib.hid (HF.out.congr fun i hi => by
          show b01 (covB (p.f.take k) i) = b01 (covB p.f i)
          rw [List.take_of_length_le (by rw [HLN.out]; exact Nat.le_refl _)])
        have HEX : Hid (∀ i v, (cs.extract 1 65)[i]? = some v → cs[1 + i]? = some v) := Lib.hid (fun i v hv => by
          rw [Array.getElem?_extract] at hv
          split at hv
          · exact hv
          · cases hv)
        obtain ⟨wo, hwo⟩ : ∃ wp, wp = wr := ⟨_, rfl⟩
        subst hwo
        obtain ⟨rs, hrs⟩ : ∃ rs, rs = cs.extract 1 65 := ⟨_, rfl⟩
        rw [← hrs] at HEX HRF
        clear hrs HF
        go_wp2_with ((with_reducible (refine ldR w.heap.size 1 rs ?_ HXr.out HEX.out HRF.out.size ?_)); rfl)
        go_loop [35] (fun i => ∃ k : Nat, k ≤ 64 ∧ i = .int .i64 k ∧ Hid (∀ m, m < k → refOk p m = true)) (fun i => 64 - (intOf i).toNat)
        case atStart => exact ⟨0, by omega, rfl, Lib.hid (fun m hm => absurd hm (Nat.not_lt_zero _))⟩
        case round =>
          obtain ⟨k, hk, rfl, HOK⟩ := hrel
          by_cases hlt : k < 64
          · have hidx := run_idxR HRF.out hlt
            have hfc := HFN.out.at_ k hlt
            have hk0 : (0 : Int) ≤ (k : Int) := by omega
            have hk64 : (k : Int) < 64 := by omega
            have hgw := HFN.out.lt
            have HB0 := Lib.hid (b01_eq (covB p.f k))
            have HROk := Lib.hid (HRO.out k)
            have HNk := Lib.hid (HNOT.out k hlt)
            have HSTEP := Lib.hid (fun (h : refOk p k = true) => (show ∀ m, m < k + 1 → refOk p m = true from fun m hm => by
              by_cases e : m = k
              · subst e; exact h
              · exact HOK.out m (by omega)))
            obtain ⟨rk, hrk⟩ : ∃ r, r = p.r k := ⟨_, rfl⟩
            obtain ⟨y, hy⟩ : ∃ y, y = covB p.f k := ⟨_, rfl⟩
            rw [← hrk] at hidx HROk
            rw [← hy] at hfc HB0 HROk
            clear hrk hy
            by_cases hneg : rk < 0
            · have HR := Lib.hid (HNk.out (by rw [HROk.out, decide_eq_false (by omega)]; rfl))
              have hd : decide (rk < 0) = true := decide_eq_true hneg
              go_wp2
              go_ret
              exact ⟨ret_b HR.out.symm, HB.out⟩
            · have hd : decide (rk < 0) = false := decide_eq_false hneg
              have HD0 : Hid (decide (0 ≤ rk) = true) := Lib.hid (decide_eq_true (by omega))
              cases y with
              | true =>
                have hfc' : wo.cell? ⟨w1.heap.size, k, none⟩ = some (.int .i64 1) := hfc
                clear hfc
                by_cases h0 : rk = 0
                · have HR := Lib.hid (HSTEP.out (by rw [HROk.out, HD0.out, h0]; rfl))
                  subst h0
                  go_wp2
                  go_round
                  case rel => exact ⟨k + 1, by omega, by go_num, HR⟩
                  case measure => simp [intOf]; omega
                · have hq0 : (rk == 0) = false := by rw [beq_eq_false_iff_ne]; exact h0
                  have HR := Lib.hid (HNk.out (by rw [HROk.out, hq0]; simp))
                  go_wp2
                  go_ret
                  exact ⟨ret_b HR.out.symm, HB.out⟩
              | false =>
                have hfc' : wo.cell? ⟨w1.heap.size, k, none⟩ = some (.int .i64 0) := hfc
                clear hfc
                by_cases h0 : rk = 0
                · have HR := Lib.hid (HNk.out (by rw [HROk.out, h0]; simp))
                  subst h0
                  go_wp2
                  go_ret
                  exact ⟨ret_b HR.out.symm, HB.out⟩
                · have hq0 : (rk == 0) = false := by rw [beq_eq_false_iff_ne]; exact h0
                  have HR := Lib.hid (HSTEP.out (by rw [HROk.out, HD0.out, hq0]; rfl))
                  go_wp2
                  go_round
                  case rel => exact ⟨k + 1, by omega, by go_num, HR⟩
                  case measure => simp [intOf]; omega
          · have hk64 : k = 64 := by omega
            subst hk64
            have HR := Lib.hid (HALL.out HOK.out)
            go_wp2
            go_ret
            exact ⟨ret_b HR.out.symm, HB.out⟩
end Go.Proofs.Ytnbhchfpfbbngaa
