/- TlbTrue: its walk. -/
import Derived.Test.YtfhcjainhpjdfaaTlbA
namespace Go.Proofs.Ytfhcjainhpjdfaa
open Go.ChangeShapes Go.WideShapes Go.ChangeAt Go.RowKit Go.Joins Go.Sort
set_option linter.unusedVariables false
attribute [local go_sem] Oper.quiet Oper.quietAt Oper.quietUpon
theorem true_pred (c : Cac) (w : World) (b base : Nat) (hb : b < base) (hbase : base ≤ w.heap.size) (hc0 : w.cell? ⟨b, 0, none⟩ = some (.int .i64 c.p)) (hc1 : w.cell? ⟨b, 1, none⟩ = some (.int .i64 c.g)) :
    PredC 17 #[.pointer (some ⟨b, 0, none⟩)] (sameG c.p c.g) base w := by
  intro W x hW
  have h0 : W.cell? ⟨b, 0, none⟩ = some (.int .i64 c.p) := (hW.cell (p := ⟨b, 0, none⟩) hb).trans hc0
  have h1 : W.cell? ⟨b, 1, none⟩ = some (.int .i64 c.g) := (hW.cell (p := ⟨b, 1, none⟩) hb).trans hc1
  have hlt : b < W.heap.size := by have := hW.size; omega
  clear hW hc0 hc1
  cases hq : x.p == c.p with
  | true =>
    have HQ := Lib.hid hq
    have hq' : x.p = c.p := by simpa using hq
    clear hq
    go_enter Try.func17, Try.ntmps17
    go_wp2
    go_ret
    exact ⟨ret_b (by unfold sameG; rw [HQ.out]; simp), (Below.refl _ _).alloc (Nat.le_refl _) _⟩
  | false =>
    have HQ := Lib.hid hq
    go_enter Try.func17, Try.ntmps17
    go_wp2
    go_ret
    exact ⟨ret_b (by unfold sameG; rw [HQ.out]; simp), (Below.refl _ _).alloc (Nat.le_refl _) _⟩

theorem set4 (a b c d : Value) (y : Cac) : Go.Sort.setMany #[a, b, c, d] 0 (fC y) = #[.int .i64 y.p, .int .i64 y.g, .int .i64 y.k, .int .i64 y.n] := by
  simp [Go.Sort.setMany, fC]
set_option maxHeartbeats 4000000 in
set_option maxRecDepth 100000 in
theorem tlbTrue_walk {w : World} (A : Option Addr) (n c : Nat) (xs : List Cac) (hz : Rw fC 4 w w.heap.size A n xs) (hwf : ∀ x ∈ xs, x.fits) (_ : n ≤ c) (_ : c ≤ maxLen) (hbig : c ≤ 4398046510976) :
    Calls Try.prog 5 #[.slice A n c] w fun e w' => e = .returned (.bool true) ∧ Below w.heap.size w w' := by
  have hln := hz.1
  have HX := Lib.hid (fun (i : Nat) (hi : i < n) => (⟨xs[i]'(by omega), List.getElem?_eq_getElem _⟩ : ∃ x, xs[i]? = some x))
  have HLN := Lib.hid hln
  have HZ := Lib.hid hz
  clear hz hln hwf
  have HA : Hid (0 < n → ∃ b off, A = some ⟨b, off, none⟩ ∧ b < w.heap.size) := Lib.hid (fun h => HZ.out.open h)
  have h8 := playC_len xs
  go_enter Try.func5, Try.ntmps5
  go_wp2_with fail
  refine (alive6_any _).mono ?_
  rintro e w1 ⟨rfl, hb1⟩
  have HB1 := Lib.hid hb1
  have hs1 := hb1.size
  clear hb1
  go_wp2_with fail
  refine (play_any A n c xs _ _ (HZ.out.on HB1.out (Nat.le_refl _)) (Nat.le_refl _) (by omega)).mono ?_
  rintro e w2 ⟨v2, rfl, ho2, hb2⟩
  obtain ⟨A2, c2, rfl, hc2, hm2, hr2⟩ := ho2.row fC_len
  have HR2 := Lib.hid hr2
  have HBw : Hid (Below w.heap.size w w2) := Lib.hid (HB1.out.trans (hb2.mono hs1))
  clear ho2 hr2 hb2
  have HT := Lib.hid (fun (k : Nat) (x : Cac) (h : (playC xs)[k]? = some x) => true_last h)
  have HO := Lib.hid (fun (k : Nat) (x : Cac) (h : (playC xs)[k]? = some x) => true_once h)
  have HX2 := Lib.hid (fun (i : Nat) (hi : i < (playC xs).length) => (⟨(playC xs)[i]'(by omega), List.getElem?_eq_getElem _⟩ : ∃ x, (playC xs)[i]? = some x))
  have HA2 : Hid (0 < (playC xs).length → ∃ b off, A2 = some ⟨b, off, none⟩ ∧ b < w2.heap.size) := Lib.hid (fun h => HR2.out.open h)
  generalize playC xs = t at *
  go_wp2
  go_loopw [15] (fun i wr => ∃ k : Nat, k ≤ t.length ∧ i = .int .i64 k ∧ Hid (Below w2.heap.size w2 wr)) (fun i _ => t.length - (intOf i).toNat)
  case atStart => exact ⟨0, by omega, rfl, Lib.hid (Below.refl _ _)⟩
  case round =>
    obtain ⟨k, hk, rfl, HB⟩ := hrel
    have hsr := HB.out.size
    by_cases hlt : k < t.length
    · obtain ⟨x, hx⟩ := HX2.out k hlt
      obtain ⟨b, off, hAe, hb⟩ := HA2.out (by omega)
      subst hAe
      have hcs := (HR2.out.below HB.out).at_ fC_len hx
      have c0 : wr.cell? ⟨b, off + k * 4, none⟩ = some (.int .i64 x.p) := hcs 0 _ rfl
      have c1 : wr.cell? ⟨b, off + k * 4 + 1, none⟩ = some (.int .i64 x.g) := hcs 1 _ rfl
      have c2' : wr.cell? ⟨b, off + k * 4 + 2, none⟩ = some (.int .i64 x.k) := hcs 2 _ rfl
      have c3 : wr.cell? ⟨b, off + k * 4 + 3, none⟩ = some (.int .i64 x.n) := hcs 3 _ rfl
      have HTL := Lib.hid (HT.out k x hx ⟨0, -2, 0, 0⟩)
      have HTO := Lib.hid (HO.out k x hx)
      clear hcs hx
      obtain ⟨wo, hwo⟩ : ∃ wo : World, wo = wr := ⟨_, rfl⟩
      subst hwo
      have HWA := Lib.hid (((Below.refl wo.heap.size wo).alloc (Nat.le_refl _) (.cells #[.int .i64 x.p, .int .i64 x.g, .int .i64 x.k, .int .i64 x.n] 27)).alloc (by simp) (.cells #[.int .i64 0, .int .i64 (-2), .int .i64 0, .int .i64 0] 27))
      go_wp2
      clear c0 c1 c2' c3
      go_loopw [23] (fun i wr => ∃ (m : Nat) (d : Cac), m ≤ n ∧ i = .int .i64 m ∧ Hid (d = lastOf (xs.take m) x ⟨0, -2, 0, 0⟩) ∧ Hid (Below (wo.heap.size + 1) ((wo.alloc (.cells #[.int .i64 x.p, .int .i64 x.g, .int .i64 x.k, .int .i64 x.n] 27)).alloc (.cells #[.int .i64 0, .int .i64 (-2), .int .i64 0, .int .i64 0] 27)) wr) ∧ Hid (wr.heap[wo.heap.size + 1]? = some (.cells #[.int .i64 d.p, .int .i64 d.g, .int .i64 d.k, .int .i64 d.n] 27 (0, 0)))) (fun i _ => n - (intOf i).toNat)
      case atStart => exact ⟨0, ⟨0, -2, 0, 0⟩, by omega, rfl, Lib.hid rfl, Lib.hid (Below.refl _ _), Lib.hid (by have := heap_alloc_new (wo.alloc (.cells #[.int .i64 x.p, .int .i64 x.g, .int .i64 x.k, .int .i64 x.n] 27)) (.cells #[.int .i64 0, .int .i64 (-2), .int .i64 0, .int .i64 0] 27); rwa [World.size_alloc] at this)⟩
      case round =>
        obtain ⟨m, d, hm, rfl, HD, HB2, HBD⟩ := hrel
        have hbd := HBD.out
        have hs2 : wo.heap.size + 1 < wr.heap.size := by have := HB2.out.size; simp at this; omega
        have hs3 : wo.heap.size < wr.heap.size := by omega
        have d0 : wr.cell? ⟨wo.heap.size, 0, none⟩ = some (.int .i64 x.p) := by rw [HB2.out.cell (p := ⟨wo.heap.size, 0, none⟩) (Nat.lt_succ_self _)]; simp [go_sem]
        have d1 : wr.cell? ⟨wo.heap.size, 1, none⟩ = some (.int .i64 x.g) := by rw [HB2.out.cell (p := ⟨wo.heap.size, 1, none⟩) (Nat.lt_succ_self _)]; simp [go_sem]
        have d2 : wr.cell? ⟨wo.heap.size, 2, none⟩ = some (.int .i64 x.k) := by rw [HB2.out.cell (p := ⟨wo.heap.size, 2, none⟩) (Nat.lt_succ_self _)]; simp [go_sem]
        have d3 : wr.cell? ⟨wo.heap.size, 3, none⟩ = some (.int .i64 x.n) := by rw [HB2.out.cell (p := ⟨wo.heap.size, 3, none⟩) (Nat.lt_succ_self _)]; simp [go_sem]
        have q0 : wr.cell? ⟨wo.heap.size + 1, 0, none⟩ = some (.int .i64 d.p) := by rw [blk_cell hbd]; rfl
        have q1 : wr.cell? ⟨wo.heap.size + 1, 1, none⟩ = some (.int .i64 d.g) := by rw [blk_cell hbd]; rfl
        have q2 : wr.cell? ⟨wo.heap.size + 1, 2, none⟩ = some (.int .i64 d.k) := by rw [blk_cell hbd]; rfl
        have q3 : wr.cell? ⟨wo.heap.size + 1, 3, none⟩ = some (.int .i64 d.n) := by rw [blk_cell hbd]; rfl
        have f0 : ∀ o, wr.frozen? ⟨wo.heap.size + 1, o, none⟩ = false := fun o => blk_free hbd o
        clear hbd
        by_cases hlt2 : m < n
        · obtain ⟨y, hy⟩ := HX.out m hlt2
          obtain ⟨b2, off2, hAe2, hb2⟩ := HA.out (by omega)
          subst hAe2
          have hBB : Below w.heap.size w wr := (HBw.out.trans (HB.out.mono (by have := HBw.out.size; omega))).trans ((HWA.out.mono (by have := HBw.out.size; omega)).trans (HB2.out.mono (by have := HBw.out.size; omega)))
          have hcs := (HZ.out.below hBB).at_ fC_len hy
          have e0 : wr.cell? ⟨b2, off2 + m * 4, none⟩ = some (.int .i64 y.p) := hcs 0 _ rfl
          have e1 : wr.cell? ⟨b2, off2 + m * 4 + 1, none⟩ = some (.int .i64 y.g) := hcs 1 _ rfl
          have e2 : wr.cell? ⟨b2, off2 + m * 4 + 2, none⟩ = some (.int .i64 y.k) := hcs 2 _ rfl
          have e3 : wr.cell? ⟨b2, off2 + m * 4 + 3, none⟩ = some (.int .i64 y.n) := hcs 3 _ rfl
          have HN : Hid (lastOf (xs.take (m + 1)) x ⟨0, -2, 0, 0⟩ = if touches x y then y else lastOf (xs.take m) x ⟨0, -2, 0, 0⟩) := Lib.hid (by rw [take_snoc hy, lastOf_snoc])
          have HW3 := Lib.hid ((Below.refl wr.heap.size wr).alloc (Nat.le_refl _) (.cells #[.int .i64 y.p, .int .i64 y.g, .int .i64 y.k, .int .i64 y.n] 27))
          have HB3 := Lib.hid (HB2.out.trans (HW3.out.mono (by omega)))
          have HBD2 := Lib.hid ((HW3.out.block (wo.heap.size + 1) hs2).trans HBD.out)
          have HS6 : Hid (Below (wo.heap.size + 1) ((wo.alloc (.cells #[.int .i64 x.p, .int .i64 x.g, .int .i64 x.k, .int .i64 x.n] 27)).alloc (.cells #[.int .i64 0, .int .i64 (-2), .int .i64 0, .int .i64 0] 27)) (((((wr.setCell ⟨wo.heap.size + 1, 0, none⟩ (.int .i64 y.p)).setCell ⟨wo.heap.size + 1, 1, none⟩ (.int .i64 y.g)).setCell ⟨wo.heap.size + 1, 2, none⟩ (.int .i64 y.k)).setCell ⟨wo.heap.size + 1, 3, none⟩ (.int .i64 y.n)).alloc (.cells #[.int .i64 y.p, .int .i64 y.g, .int .i64 y.k, .int .i64 y.n] 27))) := Lib.hid ((below_setCells (Nat.le_refl _) (fC y) 0 _ HB2.out).alloc (by rw [setCells_size]; omega) _)
          have HS7 : Hid ((((((wr.setCell ⟨wo.heap.size + 1, 0, none⟩ (.int .i64 y.p)).setCell ⟨wo.heap.size + 1, 1, none⟩ (.int .i64 y.g)).setCell ⟨wo.heap.size + 1, 2, none⟩ (.int .i64 y.k)).setCell ⟨wo.heap.size + 1, 3, none⟩ (.int .i64 y.n)).alloc (.cells #[.int .i64 y.p, .int .i64 y.g, .int .i64 y.k, .int .i64 y.n] 27)).heap[wo.heap.size + 1]? = some (.cells #[.int .i64 y.p, .int .i64 y.g, .int .i64 y.k, .int .i64 y.n] 27 (0, 0))) := Lib.hid (by
            have h1 := setCells_blk (fC y) 0 _ _ HBD.out
            rw [set4] at h1
            refine (heap_alloc_old _ _ ?_).trans h1
            have h2 := setCells_size (g := wo.heap.size + 1) (fC y) 0 wr
            exact Nat.lt_of_lt_of_eq hs2 h2.symm)
          clear hcs hy hBB
          cases g1 : (y.p == x.p) with
          | false =>
            have HKe : Hid (touches x y = false) := Lib.hid (by unfold touches; rw [g1]; rfl)
            go_wp2
            go_roundw
            case rel => exact ⟨m + 1, d, by omega, by go_num, Lib.hid (by rw [HN.out, HKe.out, HD.out]; rfl), HB3, HBD2⟩
            case measure => simp [intOf]; omega
          | true =>
            cases g2 : (y.g == x.g) with
            | true =>
              have HKe : Hid (touches x y = true) := Lib.hid (by unfold touches; rw [g1, g2]; rfl)
              go_wp2
              go_roundw
              case rel => exact ⟨m + 1, y, by omega, by go_num, Lib.hid (by rw [HN.out, HKe.out]; rfl), Lib.hid HS6.out, Lib.hid HS7.out⟩
              case measure => simp [intOf]; omega
            | false =>
              by_cases g3 : y.g < 0
              · have HKe : Hid (touches x y = true) := Lib.hid (by unfold touches; rw [g1]; simp [g3])
                go_wp2
                go_roundw
                case rel => exact ⟨m + 1, y, by omega, by go_num, Lib.hid (by rw [HN.out, HKe.out]; rfl), Lib.hid HS6.out, Lib.hid HS7.out⟩
                case measure => simp [intOf]; omega
              · have HKe : Hid (touches x y = false) := Lib.hid (by unfold touches; rw [g1, g2]; simp; omega)
                go_wp2
                go_roundw
                case rel => exact ⟨m + 1, d, by omega, by go_num, Lib.hid (by rw [HN.out, HKe.out, HD.out]; rfl), HB3, HBD2⟩
                case measure => simp [intOf]; omega
        · have hmn : m = n := by omega
          have hdx : d = x := by rw [HD.out, List.take_of_length_le (by rw [HLN.out]; omega)]; exact HTL.out
          subst hdx
          have heq : ∀ w, (Op.equalIn 10000 27 (.agg #[.int .i64 d.p, .int .i64 d.g, .int .i64 d.k, .int .i64 d.n]) (.agg #[.int .i64 d.p, .int .i64 d.g, .int .i64 d.k, .int .i64 d.n])).run Try.prog w = .ok true w := fun w => by rw [run_eqCd 9997, eqC_iff.2 rfl]
          have hkc : k ≤ c2 := by omega
          have hkz : (0 : Int) ≤ (k : Int) := by omega
          have hkz2 : (k : Int) ≤ (c2 : Int) := by omega
          have HWT : Hid (Below w2.heap.size w2 wr) := Lib.hid ((HB.out.trans (HWA.out.mono hsr)).trans (HB2.out.mono (by omega)))
          have hP := true_pred d wr wo.heap.size (wo.heap.size + 1) (Nat.lt_succ_self _) (by omega) d0 d1
          have hcall := containsFunc_C _ _ (enters_of Try.func17 (by kernel_rfl) rfl) (sameG d.p d.g) (some ⟨b, off, none⟩) k c2 (t.take k) wr w2.heap.size (wo.heap.size + 1) ((HR2.out.take hk).below HWT.out) HWT.out.size (by omega) (by omega) hP
          rw [HTO.out] at hcall
          clear hP
          go_wp2_with fail
          refine hcall.mono ?_
          rintro e w3 ⟨rfl, hb3⟩
          have HB3 := Lib.hid hb3
          clear hb3 heq d0 d1 d2 d3 q0 q1 q2 q3 f0 hcall
          go_wp2
          go_roundw
          case rel => exact ⟨k + 1, by omega, by go_num, Lib.hid (HWT.out.trans (HB3.out.mono (by have := HWT.out.size; omega)))⟩
          case measure => simp [intOf]; omega
    · have hkn : k = t.length := by omega
      have h8d : decide ((t.length : Int) ≤ 8) = true := by simp; omega
      go_wp2
      go_ret
      exact ⟨rfl, HBw.out.trans (HB.out.mono (by have := HBw.out.size; omega))⟩
end Go.Proofs.Ytfhcjainhpjdfaa
