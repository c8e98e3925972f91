/- slices at api.Block: Clone, IndexFunc, ContainsFunc, DeleteFunc, Equal. -/
import Derived.Shelf.Abstract
import Derived.Test.YtnbhchfpfbbngaaSud
import Derived.Test.YtnbhchfpfbbngaaBda
namespace Go.Proofs.Ytnbhchfpfbbngaa
open Go.ChangeShapes Go.WideShapes Go.ChangeAt Go.RowKit Go.Joins
set_option linter.unusedVariables false

theorem eq_nil_B (w : World) (a : Option Addr) (n c n' c' : Nat) : (binOp .eql 22 (.slice a n c) (.slice none n' c')).run Try.prog w = .ok (.bool a.isNone) w := Lib.run_eql_slice_nil w _ _ a n c n' c' Try.underlying22

set_option maxHeartbeats 2000000 in
theorem clone_B (A : Option Addr) (n c : Nat) (xs : List Blk) (w : World) (B : Nat) (hz : Rw fB 2 w B A n xs) (_ : B ≤ w.heap.size) (hbig : n ≤ 8796093022208) :
    Calls Try.prog 32 #[.slice A n c] w fun e w' => ∃ v, e = .returned v ∧ Os fB 2 30 w' w.heap.size v xs ∧ Below w.heap.size w w' := by
  have q := eq_nil_B
  have hln := hz.1
  subst hln
  cases A with
  | none =>
    have h0 : xs = [] := by
      rcases Nat.eq_zero_or_pos xs.length with h | h
      · exact List.eq_nil_of_length_eq_zero h
      · obtain ⟨_, _, e, _⟩ := hz.2.2 h; cases e
    subst h0
    clear hz
    go_enter Try.func32, Try.ntmps32
    go_wp2
    go_ret
    exact ⟨_, rfl, Os.nil, Below.refl _ _⟩
  | some x =>
    obtain ⟨i0, hi, hz0, hz1, hz2⟩ := info_parts info_B
    obtain ⟨hl, hcell⟩ := Rw.cells fB_len (by decide) hz
    have HC := Lib.hid hcell
    have HL := Lib.hid hl
    clear hcell hl hz
    go_enter Try.func32, Try.ntmps32
    go_wp2_with (at_builtin; refine wpList_append_own _ rfl _ _ 22 rfl w.heap.size 30 i0 (.agg #[.int .i64 0, .int .i64 0]) 2 16 Try.underlying22 hi hz0 hz1 hz2 rfl (by decide) _ _ _ rfl (World.ownsRow_made w #[] 0 (Nat.le_refl _) (Nat.zero_le _) rfl) x xs.length c (xs.flatMap fB) rfl ?qc1 ?qc2 ?qc3 ?qc4 ?qc5 ?qc6 ?_)
    case qc1 => exact HL.out
    case qc2 =>
      intro j u hj
      exact Lib.cell?_alloc_some _ (HC.out j u hj)
    case qc3 => exact fB_one xs
    case qc4 => unfold maxLen; omega
    case qc5 => omega
    case qc6 => simp
    intro v' w1 hown hgrow hnil
    go_wp2
    go_ret
    exact ⟨v', rfl, by simpa [Os] using hown, ((Below.refl _ w).alloc (Nat.le_refl _) _).grown hgrow (by simp) (by intro k hk; simp [Value.ownBlock] at hk; omega)⟩

def idxOf {α : Type} (p : α → Bool) (xs : List α) : Int := if xs.findIdx p < xs.length then (xs.findIdx p : Int) else -1
set_option maxHeartbeats 2000000 in
theorem index_B (y : Blk) (A : Option Addr) (n c : Nat) (xs : List Blk) (w : World) (B : Nat) (hz : Rw fB 2 w B A n xs) (hB : B ≤ w.heap.size) (hbig : n ≤ 140737488355328) :
    Calls Try.prog 37 #[.slice A n c, .agg #[.int .i64 y.a, .int .i64 y.o]] w fun e w' => e = .returned (.int .i64 (idxOf (fun x => eqB y x) xs)) ∧ Below w.heap.size w w' := by
  have hln := hz.1
  have H1 := Lib.hid (fun (i : Nat) (x : Blk) (h : xs[i]? = some x) (hi : i < xs.findIdx (fun x => eqB y x)) => (by
    have hl := (List.getElem?_eq_some_iff.1 h).1
    have := List.not_of_lt_findIdx hi
    rw [(List.getElem?_eq_some_iff.1 h).2] at this
    simpa using this : eqB y x = false))
  have H2 := Lib.hid (fun (x : Blk) (h : xs[xs.findIdx (fun x => eqB y x)]? = some x) => (by
    have hl := (List.getElem?_eq_some_iff.1 h).1
    have := List.findIdx_getElem (w := hl)
    rw [(List.getElem?_eq_some_iff.1 h).2] at this
    exact this : eqB y x = true))
  have hfl : xs.findIdx (fun x => eqB y x) ≤ n := by rw [← hln]; exact List.findIdx_le_length
  have HI : Hid (idxOf (fun x => eqB y x) xs = if xs.findIdx (fun x => eqB y x) < n then (xs.findIdx (fun x => eqB y x) : Int) else -1) := Lib.hid (by unfold idxOf; rw [hln])
  have HX := Lib.hid (fun (i : Nat) (hi : i < n) => (⟨xs[i]'(by omega), List.getElem?_eq_getElem _⟩ : ∃ x, xs[i]? = some x))
  generalize xs.findIdx (fun x => eqB y x) = m at *
  generalize idxOf (fun x => eqB y x) xs = res at *
  have HZ := Lib.hid hz
  have HA : Hid (0 < n → ∃ b off, A = some ⟨b, off, none⟩ ∧ b < B) := Lib.hid (fun h => HZ.out.open h)
  clear hz hln
  go_enter Try.func37, Try.ntmps37
  go_wp2
  go_loopw [5, 8] (fun _ i wr => ∃ j : Nat, j ≤ m ∧ i = .int .i64 j ∧ Hid (Below (w.alloc (.cells #[.int .i64 y.a, .int .i64 y.o] 30)).heap.size (w.alloc (.cells #[.int .i64 y.a, .int .i64 y.o] 30)) wr)) (fun _ i _ => n - (intOf i).toNat)
  case atStart => exact ⟨0, by omega, rfl, Lib.hid (Below.refl _ _)⟩
  case round =>
    obtain ⟨j, hj, rfl, HB⟩ := hrel
    have hsz := HB.out.size
    simp at hsz
    have HBW := Lib.hid ((((Below.refl w.heap.size w).alloc (Nat.le_refl _) (.cells #[.int .i64 y.a, .int .i64 y.o] 30))).trans (HB.out.mono (by simp)))
    obtain ⟨hbc, _⟩ := bcell HB.out
    have e0 : wr.cell? ⟨w.heap.size, 0, none⟩ = some (.int .i64 y.a) := by rw [hbc _ _ (by simp)]; simp [go_sem]
    have e1 : wr.cell? ⟨w.heap.size, 1, none⟩ = some (.int .i64 y.o) := by rw [hbc _ _ (by simp)]; simp [go_sem]
    clear hbc
    by_cases hlt : j < n
    · obtain ⟨x, hx⟩ := HX.out j hlt
      obtain ⟨b, off, hAe, hb⟩ := HA.out (by omega)
      subst hAe
      have hc := (HZ.out.below (HBW.out.mono hB)).at_ fB_len hx
      have c0 : wr.cell? ⟨b, off + j * 2, none⟩ = some (.int .i64 x.a) := hc 0 _ rfl
      have c1 : wr.cell? ⟨b, off + j * 2 + 1, none⟩ = some (.int .i64 x.o) := hc 1 _ rfl
      have heq : ∀ w, (Op.equalIn 10000 30 (.agg #[.int .i64 y.a, .int .i64 y.o]) (.agg #[.int .i64 x.a, .int .i64 x.o])).run Try.prog w = .ok (eqB y x) w := run_eqBd 9998 y x
      by_cases hm : j < m
      · rw [H1.out j x hx hm] at heq
        clear hx hc
        go_wp2
        go_quiet (fail)
        go_wp2
        go_roundw
        case rel => exact ⟨j + 1, by omega, by go_num, Lib.hid (HB.out.trans (below_drewN _ _ _))⟩
        case measure => simp [intOf]; omega
      · have hkm : j = m := by omega
        subst hkm
        rw [H2.out x hx] at heq
        clear hx hc
        go_wp2
        go_quiet (fail)
        go_wp2
        go_ret
        exact ⟨ret_i (by rw [HI.out, if_pos hlt]), HBW.out.trans (below_drewN _ _ _)⟩
    · have hkm : j = m := by omega
      subst hkm
      go_wp2
      go_ret
      exact ⟨ret_i (by rw [HI.out, if_neg hlt]), HBW.out⟩


set_option maxHeartbeats 4000000 in
set_option maxRecDepth 100000 in
/-- slices.Delete of one element, from a slice of the call's own. -/
theorem delete_B (v : Value) (xs : List Blk) (i : Nat) (hi : i < xs.length) (w : World) (base : Nat) (ho : Os fB 2 30 w base v xs) (hbase : base ≤ w.heap.size) (hbig : xs.length ≤ 1000000) :
    Calls Try.prog 31 #[v, .int .i64 i, .int .i64 (i + 1)] w (Gives fB 2 30 base w (xs.eraseIdx i)) := by
  rcases ho with ⟨h1, ⟨rfl, h0⟩ | ⟨gb, cap, cur, rfl, hg, hh, hn, hm, hz, hx⟩⟩
  · omega
  have ho : Os fB 2 30 w base (.slice (some ⟨gb, 0, none⟩) xs.length cap) xs := ⟨h1, .inr ⟨gb, cap, cur, rfl, hg, hh, hn, hm, hz, hx⟩⟩
  have hgl := blk_lt hh
  obtain ⟨i0, hinf, hz0, hz1, hz2⟩ := info_parts info_B
  have hne : ((i : Int) == (i : Int) + 1) = false := by rw [beq_eq_false_iff_ne]; omega
  obtain ⟨w1, hr, ho1, hb1, hs1⟩ := (ho.below (below_drew w.heap.size w) (Nat.le_refl _)).delete_run (P := Try.prog) (t := 22) (ty := 22) fB_len (by decide) (fun x => fB_one1 x) Try.underlying22 hinf hz1 hi (cap - (i + 1))
  obtain ⟨w2, hcl, hsz2, hb2, ho2⟩ := ho1.clear_behind (n := xs.length) fB_len (by decide) Try.underlying22 Try.zeroValue30 (by decide) (by decide) (by omega) (by omega) (cap - (xs.length - 1))
  have HO := Lib.hid ho2
  have HB := Lib.hid (hb2 base w hg (hb1 base w hg (below_drew base w)))
  clear hh hz hx ho h1 ho1 hb1 hb2 ho2 hsz2 hs1
  have hl1 : (1 : Nat) ≤ xs.length := by omega
  have a1 : i ≤ cap := by omega
  have a2 : ((i : Int) + 1).toNat = i + 1 := by omega
  have a3 : ¬ ((i : Int) + 1 < 0) := by omega
  have a4 : i + 1 ≤ xs.length := by omega
  have a5 : (i : Int) + 1 ≤ (xs.length : Int) := by omega
  have a6 : (0 : Int) ≤ (i : Int) + 1 := by omega
  by_cases hcap : cap = i + 1
  · subst hcap
    have h0 : xs.length - (i + 1) = 0 := by omega
    rw [if_pos rfl, Nat.sub_self, h0] at hr
    have a7 : (i : Int) ≤ (i : Int) + 1 := by omega
    go_enter Try.func31, Try.ntmps31
    go_wp2
    go_region_law (refine step_append_eq rfl (.tmp 22) (.tmp 25) 22 rfl (.slice (some ⟨gb, 0, none⟩) i (i + 1)) (.slice (some ⟨gb, 0, none⟩) 0 0) (.slice (some ⟨gb, 0, none⟩) (xs.length - 1) (i + 1)) (by simp [Act.eval, Act.put]) (by simp [Act.eval, Act.put]) hr ?_)
    go_wp2
    go_ret
    exact ⟨_, rfl, HO.out, HB.out⟩
  · rw [if_neg hcap] at hr
    go_enter Try.func31, Try.ntmps31
    go_wp2
    go_region_law (refine step_append_eq rfl (.tmp 22) (.tmp 25) 22 rfl (.slice (some ⟨gb, 0, none⟩) i cap) (.slice (some ⟨gb, (i + 1) * 2, none⟩) (xs.length - (i + 1)) (cap - (i + 1))) (.slice (some ⟨gb, 0, none⟩) (xs.length - 1) cap) (by simp [Act.eval, Act.put]) (by simp [Act.eval, Act.put]) hr ?_)
    go_wp2
    go_ret
    exact ⟨_, rfl, HO.out, HB.out⟩


set_option maxHeartbeats 2000000 in
set_option maxRecDepth 100000 in
theorem equal_B (A1 A2 : Option Addr) (n1 c1 n2 c2 : Nat) (xs ys : List Blk) (w : World) (B : Nat) (h1 : Rw fB 2 w B A1 n1 xs) (h2 : Rw fB 2 w B A2 n2 ys) (hB : B ≤ w.heap.size) (m1 : n1 ≤ 140737488355328) (m2 : n2 ≤ 140737488355328) :
    Calls Try.prog 13 #[.slice A1 n1 c1, .slice A2 n2 c2] w fun e w' => e = .returned (.bool (sameL eqB xs ys)) ∧ Below w.heap.size w w' := by
  have l1 := h1.1
  have l2 := h2.1
  by_cases hn : n1 = n2
  · subst hn
    have HA := Lib.hid (sameL_all eqB xs ys (by omega))
    have HN := Lib.hid (sameL_ne eqB xs ys)
    have HX := Lib.hid (fun (i : Nat) (hi : i < n1) => (⟨xs[i]'(by omega), List.getElem?_eq_getElem _⟩ : ∃ x, xs[i]? = some x))
    have HY := Lib.hid (fun (i : Nat) (hi : i < n1) => (⟨ys[i]'(by omega), List.getElem?_eq_getElem _⟩ : ∃ y, ys[i]? = some y))
    have HL := Lib.hid l1
    clear l1 l2
    generalize sameL eqB xs ys = r at *
    have H1 := Lib.hid h1
    have H2 := Lib.hid h2
    clear h1 h2
    rcases Nat.eq_zero_or_pos n1 with h0 | h0
    · subst h0
      have hx : ((0 : Int) != 0) = false := rfl
      go_enter Try.func13, Try.ntmps13
      go_wp2
      go_loop [13] (fun i => i = .int .i64 0) (fun i => 1 - (intOf i).toNat)
      case atStart => exact rfl
      case round =>
        subst hrel
        go_wp2
        go_ret
        exact ⟨ret_b (HA.out fun k x y hk _ _ => by have := HL.out; omega).symm, Below.refl _ _⟩
    · obtain ⟨b1, o1, rfl, _⟩ := H1.out.open h0
      obtain ⟨b2, o2, rfl, _⟩ := H2.out.open h0
      go_enter Try.func13, Try.ntmps13
      go_wp2
      go_loopw [13] (fun i wr => ∃ k : Nat, k ≤ n1 ∧ i = .int .i64 k ∧ Hid (Below w.heap.size w wr) ∧ Hid (∀ j x y, j < k → xs[j]? = some x → ys[j]? = some y → eqB x y = true)) (fun i _ => n1 - (intOf i).toNat)
      case atStart => exact ⟨0, by omega, rfl, Lib.hid (Below.refl _ _), Lib.hid (fun j x y hj => absurd hj (Nat.not_lt_zero _))⟩
      case round =>
        obtain ⟨k, hk, rfl, HB, HS⟩ := hrel
        by_cases hlt : k < n1
        · obtain ⟨x, hx⟩ := HX.out k hlt
          obtain ⟨y, hy⟩ := HY.out k hlt
          have hcx := (H1.out.below (HB.out.mono hB)).at_ fB_len hx
          have hcy := (H2.out.below (HB.out.mono hB)).at_ fB_len hy
          have x0 : wr.cell? ⟨b1, o1 + k * 2, none⟩ = some (.int .i64 x.a) := hcx 0 _ rfl
          have x1 : wr.cell? ⟨b1, o1 + k * 2 + 1, none⟩ = some (.int .i64 x.o) := hcx 1 _ rfl
          have y0 : wr.cell? ⟨b2, o2 + k * 2, none⟩ = some (.int .i64 y.a) := hcy 0 _ rfl
          have y1 : wr.cell? ⟨b2, o2 + k * 2 + 1, none⟩ = some (.int .i64 y.o) := hcy 1 _ rfl
          have hk0 : (0 : Int) ≤ (k : Int) := by omega
          have hkn : (k : Int) < (n1 : Int) := by omega
          have HXX := Lib.hid hx
          have HYY := Lib.hid hy
          clear hx hy hcx hcy
          have heq : ∀ w, (Op.equalIn 10000 30 (.agg #[.int .i64 x.a, .int .i64 x.o]) (.agg #[.int .i64 y.a, .int .i64 y.o])).run Try.prog w = .ok (eqB x y) w := run_eqBd 9998 x y
          cases hq : eqB x y with
          | true =>
            rw [hq] at heq
            have HQ := Lib.hid hq
            clear hq
            go_wp2
            go_quiet (fail)
            go_wp2
            go_roundw
            case rel =>
              refine ⟨k + 1, by omega, by go_num, Lib.hid (HB.out.trans (below_drewN _ _ _)), Lib.hid (fun j x' y' hj h1 h2 => ?_)⟩
              by_cases e : j = k
              · subst e
                rw [HXX.out] at h1
                rw [HYY.out] at h2
                cases h1; cases h2; exact HQ.out
              · exact HS.out j x' y' (by omega) h1 h2
            case measure => simp [intOf]; omega
          | false =>
            rw [hq] at heq
            have HQ := Lib.hid hq
            clear hq
            go_wp2
            go_quiet (fail)
            go_wp2
            go_ret
            exact ⟨ret_b (HN.out k x y HXX.out HYY.out HQ.out).symm, HB.out.trans (below_drewN _ _ _)⟩
        · have hkm : k = n1 := by omega
          subst hkm
          go_wp2
          go_ret
          exact ⟨ret_b (HA.out fun j x y hj h1 h2 => HS.out j x y (by have := HL.out; omega) h1 h2).symm, HB.out⟩
  · have HR := Lib.hid (sameL_len eqB xs ys (by omega))
    have hne : ((n1 : Int) != n2) = true := by rw [bne_iff_ne]; omega
    clear h1 h2 l1 l2
    generalize sameL eqB xs ys = r at *
    go_enter Try.func13, Try.ntmps13
    go_wp2
    go_ret
    exact ⟨ret_b HR.out.symm, Below.refl _ _⟩

end Go.Proofs.Ytnbhchfpfbbngaa
