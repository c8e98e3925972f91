/- TlbOther: its walk. -/
import Derived.Test.YtfhcjainhpjdfaaTlbA
namespace Go.Proofs.Ytfhcjainhpjdfaa
open Go.ChangeShapes Go.WideShapes Go.ChangeAt Go.RowKit Go.Joins Go.Sort
set_option linter.unusedVariables false
theorem other_pred (p : Int) (w : World) (b base : Nat) (hb : b < base) (hbase : base ≤ w.heap.size) (hc : w.cell? ⟨b, 0, none⟩ = some (.int .i64 p)) :
    PredC 15 #[.pointer (some ⟨b, 0, none⟩)] (fun x => x.p != p) base w := by
  intro W x hW
  have h1 : W.cell? ⟨b, 0, none⟩ = some (.int .i64 p) := (hW.cell (p := ⟨b, 0, none⟩) hb).trans hc
  have hlt : b < W.heap.size := by have := hW.size; omega
  clear hW hc
  go_enter Try.func15, Try.ntmps15
  go_wp2
  go_ret
  exact ⟨rfl, (Below.refl _ _).alloc (Nat.le_refl _) _⟩
theorem ofP_not (p : Int) (t : List Cac) : (t.filter fun x => !(x.p != p)) = ofP p t := by
  unfold ofP sameP; congr 1; funext x; simp [bne]
theorem ofP_snoc (p : Int) (l : List Cac) (x : Cac) : ofP p (l ++ [x]) = ofP p l ++ if x.p == p then [x] else [] := by
  simp [ofP, sameP, List.filter_cons]
theorem says_snoc (l : List Cac) (x : Cac) : saysAll (l ++ [x]) = saysAll l + if x.k != 0 then 1 else 0 := by
  by_cases h : x.k = 0 <;> simp [saysAll, h]

set_option maxHeartbeats 1500000 in
set_option maxRecDepth 100000 in
theorem tlbOther_walk {w : World} (A : Option Addr) (n c : Nat) (xs : List Cac) (hz : Rw fC 4 w w.heap.size A n xs) (hwf : ∀ x ∈ xs, x.fits) (_ : n ≤ c) (_ : c ≤ maxLen) (hbig : c ≤ 4398046510976) (proc : Int) (_ : I64 proc) :
    Calls Try.prog 4 #[.slice A n c, .int .i64 proc] w fun e w' => e = .returned (.bool true) ∧ Below w.heap.size w w' := by
  have hln := hz.1
  have HX := Lib.hid (fun (i : Nat) (hi : i < n) => (⟨xs[i]'(by omega), List.getElem?_eq_getElem _⟩ : ∃ x, xs[i]? = some x))
  have HLN := Lib.hid hln
  have HZ := Lib.hid hz
  clear hz hln hwf
  have HA : Hid (0 < n → ∃ b off, A = some ⟨b, off, none⟩ ∧ b < w.heap.size) := Lib.hid (fun h => HZ.out.open h)
  go_enter Try.func4, Try.ntmps4
  go_wp2_with fail
  refine (alive6_any _).mono ?_
  rintro e w1 ⟨rfl, hb1⟩
  simp only [World.size_alloc] at hb1
  have HB1 := Lib.hid hb1
  have hs1 : w.heap.size < w1.heap.size := by have := hb1.size; simp at this; omega
  have HBw : Hid (Below w.heap.size w w1) := Lib.hid (((Below.refl _ _).alloc (Nat.le_refl _) _).trans (hb1.mono (by omega)))
  have hp1 : w1.cell? ⟨w.heap.size, 0, none⟩ = some (.int .i64 proc) := by rw [hb1.cell (p := ⟨w.heap.size, 0, none⟩) (Nat.lt_succ_self _)]; simp [go_sem]
  clear hb1
  go_wp2
  go_loopw [5, 6, 14] (fun a o i wr => ∃ (k : Nat) (ys : List Cac) (A6 : Option Addr) (c6 : Nat), k ≤ n ∧ i = .int .i64 k ∧ a = .int .i64 (saysAll (xs.take k) : Nat) ∧ o = .slice A6 ys.length c6 ∧ saysAll (xs.take k) ≤ k ∧ ys.length ≤ k ∧ Hid (ys = ofP proc (xs.take k)) ∧ Hid (Os fC 4 27 wr w1.heap.size (.slice A6 ys.length c6) ys) ∧ Hid (Below w1.heap.size w1 wr)) (fun _ _ i _ => n - (intOf i).toNat)
  case atStart => exact ⟨0, [], none, 0, by omega, rfl, rfl, rfl, by simp [saysAll], by simp, Lib.hid rfl, Lib.hid Os.nil, Lib.hid (Below.refl _ _)⟩
  case round =>
    obtain ⟨k, ys, A6, c6, hk, rfl, rfl, rfl, hsk, hyk, HY, HO, HB⟩ := hrel
    have hs2 : w.heap.size < wr.heap.size := by have := HB.out.size; omega
    have hp2 : wr.cell? ⟨w.heap.size, 0, none⟩ = some (.int .i64 proc) := (HB.out.cell (p := ⟨w.heap.size, 0, none⟩) hs1).trans hp1
    by_cases hlt : k < n
    · obtain ⟨x, hx⟩ := HX.out k hlt
      obtain ⟨b, off, hAe, hb⟩ := HA.out (by omega)
      subst hAe
      have hcs := (HZ.out.below (HBw.out.trans (HB.out.mono (by omega)))).at_ fC_len hx
      have c0 : wr.cell? ⟨b, off + k * 4, none⟩ = some (.int .i64 x.p) := hcs 0 _ rfl
      have c1 : wr.cell? ⟨b, off + k * 4 + 1, none⟩ = some (.int .i64 x.g) := hcs 1 _ rfl
      have c2 : wr.cell? ⟨b, off + k * 4 + 2, none⟩ = some (.int .i64 x.k) := hcs 2 _ rfl
      have c3 : wr.cell? ⟨b, off + k * 4 + 3, none⟩ = some (.int .i64 x.n) := hcs 3 _ rfl
      have HS : Hid (saysAll (xs.take (k + 1)) = saysAll (xs.take k) + if x.k != 0 then 1 else 0) := Lib.hid (by rw [take_snoc hx, says_snoc])
      have HP : Hid (ofP proc (xs.take (k + 1)) = ofP proc (xs.take k) ++ if x.p == proc then [x] else []) := Lib.hid (by rw [take_snoc hx, ofP_snoc])
      clear hcs hx
      have HW2 := Lib.hid ((Below.refl wr.heap.size wr).alloc (Nat.le_refl _) (.cells #[.int .i64 x.p, .int .i64 x.g, .int .i64 x.k, .int .i64 x.n] 27))
      have HO1 := Lib.hid (HO.out.below HW2.out (Nat.le_refl _))
      have HB2 := Lib.hid (HB.out.trans (HW2.out.mono HB.out.size))
      generalize saysAll (xs.take k) = m at *
      cases q1 : (x.k != 0) with
      | true =>
        rw [q1] at HS
        cases q2 : (x.p == proc) with
        | true =>
          rw [q2] at HP
          go_wp2_with (at_builtin; refine append_C rfl _ _ rfl w1.heap.size (.slice A6 ys.length c6) ys _ x _ rfl rfl (by simp) HO1.out (by have := HB2.out.size; omega) (by omega) ?_)
          intro g7 c7 w7 ho7 hb7 hg7 hc7 hm7
          have HO7 := Lib.hid ho7
          clear ho7
          go_wp2
          go_roundw
          case rel => exact ⟨k + 1, ys ++ [x], some ⟨g7, 0, none⟩, c7, by omega, by go_num, by rw [HS.out]; go_num, by simp, by rw [HS.out]; simp; omega, by simp; omega, Lib.hid (by rw [HY.out, HP.out]; rfl), Lib.hid (by simpa using HO7.out), Lib.hid (HB2.out.trans hb7)⟩
          case measure => simp [intOf]; omega
        | false =>
          rw [q2] at HP
          go_wp2
          go_roundw
          case rel => exact ⟨k + 1, ys, A6, c6, by omega, by go_num, by rw [HS.out]; go_num, rfl, by rw [HS.out]; simp; omega, by omega, Lib.hid (by rw [HY.out, HP.out]; simp), HO1, HB2⟩
          case measure => simp [intOf]; omega
      | false =>
        rw [q1] at HS
        cases q2 : (x.p == proc) with
        | true =>
          rw [q2] at HP
          go_wp2_with (at_builtin; refine append_C rfl _ _ rfl w1.heap.size (.slice A6 ys.length c6) ys _ x _ rfl rfl (by simp) HO1.out (by have := HB2.out.size; omega) (by omega) ?_)
          intro g7 c7 w7 ho7 hb7 hg7 hc7 hm7
          have HO7 := Lib.hid ho7
          clear ho7
          go_wp2
          go_roundw
          case rel => exact ⟨k + 1, ys ++ [x], some ⟨g7, 0, none⟩, c7, by omega, by go_num, by rw [HS.out]; rfl, by simp, by rw [HS.out]; simp; omega, by simp; omega, Lib.hid (by rw [HY.out, HP.out]; rfl), Lib.hid (by simpa using HO7.out), Lib.hid (HB2.out.trans hb7)⟩
          case measure => simp [intOf]; omega
        | false =>
          rw [q2] at HP
          go_wp2
          go_roundw
          case rel => exact ⟨k + 1, ys, A6, c6, by omega, by go_num, by rw [HS.out]; rfl, rfl, by rw [HS.out]; simp; omega, by omega, Lib.hid (by rw [HY.out, HP.out]; simp), HO1, HB2⟩
          case measure => simp [intOf]; omega
    · have hkn : k = n := by omega
      subst hkn
      have HF : Hid (xs.take k = xs) := Lib.hid (List.take_of_length_le (by rw [HLN.out]; exact Nat.le_refl _))
      rw [HF.out] at HY
      have HWr : Hid (Below w.heap.size w wr) := Lib.hid (HBw.out.trans (HB.out.mono (by omega)))
      by_cases hall : 8 < saysAll (xs.take k)
      · generalize saysAll (xs.take k) = m at *
        go_wp2
        go_ret
        exact ⟨rfl, HWr.out⟩
      · have HPL : Hid (ofP proc (playC xs) = playC ys) := Lib.hid (by rw [HY.out]; exact other_play (by rw [HF.out] at hall; omega))
        generalize saysAll (xs.take k) = m at *
        have HRY : Hid (Rw fC 4 wr wr.heap.size A6 ys.length ys) := by
          obtain ⟨A', c', e, _, _, hr⟩ := HO.out.row fC_len
          injection e with e1 e2 e3
          subst e1
          exact Lib.hid hr
        go_wp2_with fail
        refine (play_any A k c xs _ _ (HZ.out.on HWr.out (Nat.le_refl _)) (Nat.le_refl _) (by omega)).mono ?_
        rintro e w2 ⟨v2, rfl, ho2, hb2⟩
        have hz2 := hb2.size
        have hp3 : w2.cell? ⟨w.heap.size, 0, none⟩ = some (.int .i64 proc) := (hb2.cell (p := ⟨w.heap.size, 0, none⟩) hs2).trans hp2
        have hP := other_pred proc w2 w.heap.size wr.heap.size hs2 hz2 hp3
        have h8 := playC_len xs
        have HO2 := Lib.hid ho2
        have HY2 := Lib.hid (HRY.out.on hb2 (Nat.le_refl _))
        have HWr2 : Hid (Below w.heap.size w w2) := Lib.hid (HWr.out.trans (hb2.mono (by omega)))
        clear ho2
        go_wp2_with fail
        refine (deleteFunc_C _ _ (enters_of Try.func15 (by kernel_rfl) rfl) (fun x => x.p != proc) v2 (playC xs) w2 wr.heap.size HO2.out hz2 (by omega) hP).mono ?_
        rintro e w3 ⟨v3, rfl, ho3, hb3⟩
        rw [ofP_not, HPL.out] at ho3
        obtain ⟨A3, c3, rfl, _, _, hr3⟩ := ho3.row fC_len
        have HR3 := Lib.hid hr3
        have hz3 := hb3.size
        have HY3 : Hid (Rw fC 4 w3 w3.heap.size A6 ys.length ys) := Lib.hid ((HRY.out.below (hb2.trans hb3)).any (by omega))
        have HWr3 : Hid (Below w.heap.size w w3) := Lib.hid (HWr2.out.trans (hb3.mono (by omega)))
        clear ho3 hr3 hP
        have h9 := playC_len ys
        go_wp2_with fail
        refine (play_any A6 ys.length c6 ys _ _ HY3.out (Nat.le_refl _) (by omega)).mono ?_
        rintro e w4 ⟨v4, rfl, ho4, hb4⟩
        obtain ⟨A4, c4, rfl, _, _, hr4⟩ := ho4.row fC_len
        have HR4 := Lib.hid hr4
        have HR5 := Lib.hid (HR3.out.on hb4 (Nat.le_refl _))
        have hz4 := hb4.size
        have heq := equal_C A3 A4 (playC ys).length c3 (playC ys).length c4 (playC ys) (playC ys) w4 w4.heap.size HR5.out HR4.out (Nat.le_refl _) (by omega) (by omega)
        rw [sameL_refl (eq := eqC) (fun a => eqC_iff.2 rfl)] at heq
        clear ho4 hr4
        go_wp2_with fail
        refine heq.mono ?_
        rintro e w5 ⟨rfl, hb5⟩
        clear heq
        go_wp2
        go_ret
        exact ⟨rfl, HWr3.out.trans ((hb4.trans (hb5.mono hz4)).mono (by have := HWr3.out.size; omega))⟩
end Go.Proofs.Ytfhcjainhpjdfaa
