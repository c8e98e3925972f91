/- region.Find, Count, Add, Cut. -/

import Derived.Test.YtnpmbjplmollkaaRgq
namespace Go.Proofs.Ytnpmbjplmollkaa
open Go.ChangeShapes Go.WideShapes Go.ChangeAt Go.RowKit Go.Joins
set_option linter.unusedVariables false
theorem find_skip {l : List Rgn} {p : Int} {m : Nat} (h : ∀ (j : Nat) (x : Rgn), j < m → l[j]? = some x → ¬ (x.f ≤ p ∧ p < x.t)) : ∀ x, l[m]? = some x → x.f ≤ p → p < x.t → at? l p = some x.a := by
  intro x hx h1 h2
  unfold at?
  have e : l = l.take m ++ x :: l.drop (m + 1) := by
    have hl := (List.getElem?_eq_some_iff.1 hx).1
    rw [← (List.getElem?_eq_some_iff.1 hx).2, ← List.drop_eq_getElem_cons hl, List.take_append_drop]
  rw [e, List.find?_append, List.find?_eq_none.2 (fun y hy => ?_)]
  · simp [h1, h2]
  · obtain ⟨j, hj⟩ := List.mem_iff_getElem?.1 hy
    have hj2 := (List.getElem?_eq_some_iff.1 hj).1
    rw [List.length_take] at hj2
    rw [List.getElem?_take_of_lt (by omega)] at hj
    have := h j y (by omega) hj
    simp; omega
theorem find_none {l : List Rgn} {p : Int} (h : ∀ (j : Nat) (x : Rgn), l[j]? = some x → ¬ (x.f ≤ p ∧ p < x.t)) : at? l p = none := by
  unfold at?
  rw [List.find?_eq_none.2 (fun y hy => ?_)]; · rfl
  obtain ⟨j, hj⟩ := List.mem_iff_getElem?.1 hy
  have := h j y hj
  simp; omega
def zA : Att := ⟨0, 0, false, false⟩
def FindP (o : Option Att) (w : World) (e : Ending) (w' : World) : Prop := e = .returned (.tuple #[.agg #[.int .i64 (o.getD zA).r, .int .i64 (o.getD zA).k, .bool (o.getD zA).g, .bool (o.getD zA).s], .bool o.isSome]) ∧ Below w.heap.size w w'
set_option maxHeartbeats 4000000 in
set_option maxRecDepth 100000 in
theorem find_any (A : Option Addr) (n c : Nat) (xs : List Rgn) (p : Int) (w : World) (B : Nat) (hz : Rw fR 6 w B A n xs) (hB : B ≤ w.heap.size) (hbig : n ≤ 140737488355328) :
    Calls Try.prog 28 #[.slice A n c, .int .i64 p] w (FindP (at? xs p) w) := by
  have hln := hz.1
  have HX := Lib.hid (fun (i : Nat) (hi : i < n) => (⟨xs[i]'(by omega), List.getElem?_eq_getElem _⟩ : ∃ x, xs[i]? = some x))
  have HLN := Lib.hid hln
  have HZ := Lib.hid hz
  have HA : Hid (0 < n → ∃ b off, A = some ⟨b, off, none⟩ ∧ b < B) := Lib.hid (fun h => HZ.out.open h)
  have HY := Lib.hid (fun m (h : ∀ (j : Nat) (x : Rgn), j < m → xs[j]? = some x → ¬ (x.f ≤ p ∧ p < x.t)) => find_skip h)
  have HN := Lib.hid (fun (h : ∀ (j : Nat) (x : Rgn), xs[j]? = some x → ¬ (x.f ≤ p ∧ p < x.t)) => find_none h)
  generalize at? xs p = res at *
  clear hz hln
  go_enter Try.func28, Try.ntmps28
  go_wp2
  go_loopw [10] (fun i wr => ∃ k : Nat, k ≤ n ∧ i = .int .i64 k ∧ Hid (Below (w.heap.size + 1) (w.alloc (.cells #[.int .i64 0, .int .i64 0, .bool false, .bool false] 24)) wr) ∧ Hid (∀ j x, j < k → xs[j]? = some x → ¬ (x.f ≤ p ∧ p < x.t))) (fun i _ => n - (intOf i).toNat)
  case atStart => exact ⟨0, by omega, rfl, Lib.hid (Below.refl _ _), Lib.hid (fun j x hj => absurd hj (Nat.not_lt_zero _))⟩
  case round =>
    obtain ⟨k, hk, rfl, HB, HG⟩ := hrel
    have hb0 : Below w.heap.size w wr := ((Below.refl w.heap.size w).alloc (Nat.le_refl _) _).trans (HB.out.mono (by omega))
    have HB0 := Lib.hid hb0
    have hsz0 := HB.out.size
    rw [World.size_alloc] at hsz0
    have rc0 : wr.cell? ⟨w.heap.size, 0, none⟩ = some (.int .i64 0) := (HB.out.cell (p := ⟨w.heap.size, 0, none⟩) (Nat.lt_succ_self _)).trans (by simp [go_sem])
    have rc1 : wr.cell? ⟨w.heap.size, 1, none⟩ = some (.int .i64 0) := (HB.out.cell (p := ⟨w.heap.size, 1, none⟩) (Nat.lt_succ_self _)).trans (by simp [go_sem])
    have rc2 : wr.cell? ⟨w.heap.size, 2, none⟩ = some (.bool false) := (HB.out.cell (p := ⟨w.heap.size, 2, none⟩) (Nat.lt_succ_self _)).trans (by simp [go_sem])
    have rc3 : wr.cell? ⟨w.heap.size, 3, none⟩ = some (.bool false) := (HB.out.cell (p := ⟨w.heap.size, 3, none⟩) (Nat.lt_succ_self _)).trans (by simp [go_sem])
    have rz0 : wr.frozen? ⟨w.heap.size, 0, none⟩ = false := (HB.out.frozen (p := ⟨w.heap.size, 0, none⟩) (Nat.lt_succ_self _)).trans (by simp [go_sem])
    have rz1 : wr.frozen? ⟨w.heap.size, 1, none⟩ = false := (HB.out.frozen (p := ⟨w.heap.size, 1, none⟩) (Nat.lt_succ_self _)).trans (by simp [go_sem])
    have rz2 : wr.frozen? ⟨w.heap.size, 2, none⟩ = false := (HB.out.frozen (p := ⟨w.heap.size, 2, none⟩) (Nat.lt_succ_self _)).trans (by simp [go_sem])
    have rz3 : wr.frozen? ⟨w.heap.size, 3, none⟩ = false := (HB.out.frozen (p := ⟨w.heap.size, 3, none⟩) (Nat.lt_succ_self _)).trans (by simp [go_sem])
    clear hb0
    have hwl : w.heap.size < wr.heap.size := by omega
    by_cases hlt : k < n
    · obtain ⟨x, hx⟩ := HX.out k hlt
      obtain ⟨b, off, hAe, hb⟩ := HA.out (by omega)
      subst hAe
      have hcs := (HZ.out.below (HB0.out.mono hB)).at_ fR_len hx
      have xc0 : wr.cell? ⟨b, off + k * 6, none⟩ = some (.int .i64 x.f) := hcs 0 _ rfl
      have xc1 : wr.cell? ⟨b, off + k * 6 + 1, none⟩ = some (.int .i64 x.t) := hcs 1 _ rfl
      have xc2 : wr.cell? ⟨b, off + k * 6 + 2, none⟩ = some (.int .i64 x.a.r) := hcs 2 _ rfl
      have xc3 : wr.cell? ⟨b, off + k * 6 + 3, none⟩ = some (.int .i64 x.a.k) := hcs 3 _ rfl
      have xc4 : wr.cell? ⟨b, off + k * 6 + 4, none⟩ = some (.bool x.a.g) := hcs 4 _ rfl
      have xc5 : wr.cell? ⟨b, off + k * 6 + 5, none⟩ = some (.bool x.a.s) := hcs 5 _ rfl
      have HX0 := Lib.hid hx
      clear hcs hx
      have HS1 := Lib.hid (fun (h : ¬ (x.f ≤ p ∧ p < x.t)) => (show ∀ j y, j < k + 1 → xs[j]? = some y → ¬ (y.f ≤ p ∧ p < y.t) from fun j y hj hy => by
        by_cases e : j = k
        · subst e; rw [HX0.out] at hy; cases hy; exact h
        · exact HG.out j y (by omega) hy))
      by_cases h1 : x.f ≤ p
      · by_cases h2 : p < x.t
        · have HR := Lib.hid (HY.out k HG.out x HX0.out h1 h2)
          go_wp2
          try simp only [Exit.inBlock, Exit.then]
          refine bodyPost_ret (v := .tuple #[.agg #[.int .i64 x.a.r, .int .i64 x.a.k, .bool x.a.g, .bool x.a.s], .bool true]) (by simp [results, Try.results28, go_sem, rc0, rc1, rc2, rc3, hwl]) rfl ⟨?_, ?_⟩
          · rw [HR.out]; rfl
          · exact (((((HB0.out.setCell (p := ⟨w.heap.size, 0, none⟩) (Nat.le_refl _) _).setCell (p := ⟨w.heap.size, 1, none⟩) (Nat.le_refl _) _).setCell (p := ⟨w.heap.size, 2, none⟩) (Nat.le_refl _) _).setCell (p := ⟨w.heap.size, 3, none⟩) (Nat.le_refl _) _).alloc (by simp; omega) _)
        · have h2' : x.t ≤ p := by omega
          have HS2 := Lib.hid (HS1.out (by omega))
          go_wp2
          go_roundw
          case rel => exact ⟨k + 1, by omega, by go_num, Lib.hid (HB.out.alloc (by omega) _), HS2⟩
          case measure => simp [intOf]; omega
      · have h1' : p < x.f := by omega
        have HS2 := Lib.hid (HS1.out (by omega))
        go_wp2
        go_roundw
        case rel => exact ⟨k + 1, by omega, by go_num, Lib.hid (HB.out.alloc (by omega) _), HS2⟩
        case measure => simp [intOf]; omega
    · have hkn : n = k := by omega
      subst hkn
      have HR := Lib.hid (HN.out fun j x hx => HG.out j x (by have := (List.getElem?_eq_some_iff.1 hx).1; rw [HLN.out] at this; exact this) hx)
      go_wp2
      try simp only [Exit.inBlock, Exit.then]
      refine bodyPost_ret (v := .tuple #[.agg #[.int .i64 0, .int .i64 0, .bool false, .bool false], .bool false]) (by simp [results, Try.results28, go_sem, rc0, rc1, rc2, rc3]) rfl ⟨?_, ?_⟩
      · rw [HR.out]; rfl
      · exact ((((HB0.out.setCell (p := ⟨w.heap.size, 0, none⟩) (Nat.le_refl _) _).setCell (p := ⟨w.heap.size, 1, none⟩) (Nat.le_refl _) _).setCell (p := ⟨w.heap.size, 2, none⟩) (Nat.le_refl _) _).setCell (p := ⟨w.heap.size, 3, none⟩) (Nat.le_refl _) _)
theorem tot_snoc (l : List Rgn) (x : Rgn) : tot (l ++ [x]) = tot l + (x.t - x.f) := by rw [tot_append]; simp [tot]
theorem tot_le : ∀ l : List Rgn, (∀ x ∈ l, 0 ≤ x.f ∧ x.f < x.t ∧ x.t ≤ 64) → 0 ≤ tot l ∧ tot l ≤ 64 * l.length
  | [], _ => by simp [tot]
  | x :: l, h => by
    have h1 := h x List.mem_cons_self
    have h2 := tot_le l fun y hy => h y (List.mem_cons_of_mem _ hy)
    simp only [tot, List.length_cons]; omega
set_option maxHeartbeats 2000000 in
theorem count_any (A : Option Addr) (n c : Nat) (xs : List Rgn) (w : World) (B : Nat) (hz : Rw fR 6 w B A n xs) (hB : B ≤ w.heap.size) (hbig : n ≤ 1000) (hok : ∀ x ∈ xs, 0 ≤ x.f ∧ x.f < x.t ∧ x.t ≤ 64) :
    Calls Try.prog 27 #[.slice A n c] w fun e w' => e = .returned (.int .i64 (tot xs)) ∧ Below w.heap.size w w' := by
  have hln := hz.1
  have HX := Lib.hid (fun (i : Nat) (hi : i < n) => (⟨xs[i]'(by omega), List.getElem?_eq_getElem _⟩ : ∃ x, xs[i]? = some x))
  have HZ := Lib.hid hz
  have HA : Hid (0 < n → ∃ b off, A = some ⟨b, off, none⟩ ∧ b < B) := Lib.hid (fun h => HZ.out.open h)
  have HOK := Lib.hid (fun k x (h : xs[k]? = some x) => hok x (List.mem_of_getElem? h))
  obtain ⟨tk, htk⟩ : ∃ f : Nat → Int, f = fun k => tot (xs.take k) := ⟨_, rfl⟩
  have T0 : Hid (tk 0 = 0) := Lib.hid (by rw [htk]; rfl)
  have TS : Hid (∀ k x, xs[k]? = some x → tk (k + 1) = tk k + (x.t - x.f)) := Lib.hid (by rw [htk]; exact fun k x h => (congrArg tot (take_snocR h)).trans (tot_snoc _ x))
  have TL : Hid (∀ k, k ≤ n → 0 ≤ tk k ∧ tk k ≤ 64 * n) := Lib.hid (by
    rw [htk]; intro k hk
    have := tot_le (xs.take k) fun x hx => hok x (List.mem_of_mem_take hx)
    rw [List.length_take] at this; simp only; omega)
  have TN : Hid (tk n = tot xs) := Lib.hid (by rw [htk]; simp only; rw [List.take_of_length_le (by omega)])
  generalize tot xs = res at *
  clear htk hz hok hln
  go_enter Try.func27, Try.ntmps27
  go_wp2
  go_loopw [3, 8] (fun v i wr => ∃ k : Nat, k ≤ n ∧ i = .int .i64 k ∧ v = .int .i64 (tk k) ∧ Hid (Below w.heap.size w wr)) (fun _ i _ => n - (intOf i).toNat)
  case atStart => exact ⟨0, by omega, rfl, by rw [T0.out], Lib.hid (Below.refl _ _)⟩
  case round =>
    obtain ⟨k, hk, rfl, rfl, HB⟩ := hrel
    have hsz := HB.out.size
    by_cases hlt : k < n
    · obtain ⟨x, hx⟩ := HX.out k hlt
      obtain ⟨b, off, hAe, hb⟩ := HA.out (by omega)
      subst hAe
      have hcs := (HZ.out.below (HB.out.mono hB)).at_ fR_len hx
      have xc0 : wr.cell? ⟨b, off + k * 6, none⟩ = some (.int .i64 x.f) := hcs 0 _ rfl
      have xc1 : wr.cell? ⟨b, off + k * 6 + 1, none⟩ = some (.int .i64 x.t) := hcs 1 _ rfl
      have xc2 : wr.cell? ⟨b, off + k * 6 + 2, none⟩ = some (.int .i64 x.a.r) := hcs 2 _ rfl
      have xc3 : wr.cell? ⟨b, off + k * 6 + 3, none⟩ = some (.int .i64 x.a.k) := hcs 3 _ rfl
      have xc4 : wr.cell? ⟨b, off + k * 6 + 4, none⟩ = some (.bool x.a.g) := hcs 4 _ rfl
      have xc5 : wr.cell? ⟨b, off + k * 6 + 5, none⟩ = some (.bool x.a.s) := hcs 5 _ rfl
      have HT := Lib.hid (TS.out k x hx)
      obtain ⟨q1, q2, q3⟩ := HOK.out k x hx
      obtain ⟨t1, t2⟩ := TL.out k hk
      have m1 : min x.t 64 = x.t := by omega
      have m2 : max x.f 0 = x.f := by omega
      have m3 : max 0 (x.t - x.f) = x.t - x.f := by omega
      have m4 : wrap64 (x.t - x.f) = x.t - x.f := by unfold wrap64; omega
      have m5 : wrap64 (tk k + (x.t - x.f)) = tk k + (x.t - x.f) := by unfold wrap64; omega
      clear hcs hx
      go_wp2
      go_roundw
      case rel => exact ⟨k + 1, by omega, by go_num, by rw [HT.out], Lib.hid (HB.out.alloc hsz _)⟩
      case measure => simp [intOf]; omega
    · have hkn : n = k := by omega
      subst hkn
      go_wp2
      go_ret
      exact ⟨ret_i (by rw [TN.out]), HB.out⟩
end Go.Proofs.Ytnpmbjplmollkaa
