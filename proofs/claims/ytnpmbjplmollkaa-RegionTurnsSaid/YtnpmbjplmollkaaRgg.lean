/- region.Add, Cut. -/
import Derived.Test.YtnpmbjplmollkaaRge
import Derived.Test.YtnpmbjplmollkaaSry
namespace Go.Proofs.Ytnpmbjplmollkaa
open Go.ChangeShapes Go.WideShapes Go.ChangeAt Go.RowKit Go.Joins
set_option linter.unusedVariables false
theorem span_any (a b : Int) (w : World) : Calls Try.prog 36 #[.int .i64 a, .int .i64 b] w fun e w' => e = .returned (.bool (spanB a b)) ∧ w' = w := by
  by_cases h1 : 0 ≤ a
  · by_cases h2 : a < b
    · by_cases h3 : b ≤ 64
      · have HS : Hid (spanB a b = true) := Lib.hid (span_iff.2 ⟨h1, h2, h3⟩)
        go_enter Try.func36, Try.ntmps36
        go_wp2
        go_ret
        exact ⟨ret_b (by rw [HS.out]), rfl⟩
      · have HS : Hid (spanB a b = false) := Lib.hid (by unfold spanB; simp; omega)
        have h3' : 64 < b := by omega
        go_enter Try.func36, Try.ntmps36
        go_wp2
        go_ret
        exact ⟨ret_b (by rw [HS.out]), rfl⟩
    · have HS : Hid (spanB a b = false) := Lib.hid (by unfold spanB; simp; omega)
      have h2' : b ≤ a := by omega
      go_enter Try.func36, Try.ntmps36
      go_wp2
      go_ret
      exact ⟨ret_b (by rw [HS.out]), rfl⟩
  · have HS : Hid (spanB a b = false) := Lib.hid (by unfold spanB; simp; omega)
    have h1' : a < 0 := by omega
    go_enter Try.func36, Try.ntmps36
    go_wp2
    go_ret
    exact ⟨ret_b (by rw [HS.out]), rfl⟩
theorem joined_norm (v : Value) (xs : List Rgn) (w : World) (base : Nat) (h : Os fR 6 26 w base v xs) (hg : Good xs) (hn : xs.length ≤ 1000) (hb : base ≤ w.heap.size) :
    Calls Try.prog 38 #[v] w fun e w' => ∃ v', e = .returned v' ∧ Os fR 6 26 w' w.heap.size v' (norm xs) ∧ Below base w w' :=
  (joined_any v xs w base h (fun x hx => by have := hg.ok x hx; omega) hn hb).mono fun e w' ⟨ys, v', he, hp, hs, ho, hb'⟩ => ⟨v', he, by rw [← norm_of hg hp hs]; exact ho, hb'⟩
def TR (l : List Rgn) (E : Int) (w : World) (e : Ending) (w' : World) : Prop := ∃ v, e = .returned (.tuple #[v, .int .i64 E]) ∧ Os fR 6 26 w' w.heap.size v l ∧ Below w.heap.size w w'
theorem TR.nil {E : Int} {w w' : World} (h : Below w.heap.size w w') : TR [] E w (.returned (.tuple #[.slice none 0 0, .int .i64 E])) w' := ⟨_, rfl, Os.nil, h⟩

set_option maxHeartbeats 2000000 in
theorem rcut_any (A : Option Addr) (n c : Nat) (xs : List Rgn) (a b : Int) (w : World) (B : Nat) (hz : Rw fR 6 w B A n xs) (hB : B ≤ w.heap.size) (hbig : n ≤ 140737488355328) :
    Calls Try.prog 14 #[.slice A n c, .int .i64 a, .int .i64 b] w (TR (cutL xs a b) (cutE xs a b) w) := by
  have hright := right_any A n c xs w B hz hB hbig
  have NO : Hid (∀ E : Int, cutE xs a b = E → E ≠ 0 → ∀ w', Below w.heap.size w w' → TR (cutL xs a b) (cutE xs a b) w (.returned (.tuple #[.slice none 0 0, .int .i64 E])) w') := Lib.hid (fun E h h0 w' hb => by
    unfold cutL; rw [h, if_neg h0]; exact TR.nil hb)
  cases hr : rightL xs with
  | false =>
    rw [hr] at hright
    have NO2 := Lib.hid (NO.out 1 (by unfold cutE; rw [if_pos hr]) (by decide))
    clear hz NO hr
    go_enter Try.func14, Try.ntmps14
    go_wp2_with (go_at_call 26; refine hright.mono ?_; rintro e w1 ⟨rfl, hb1⟩)
    go_ret2
    exact NO2.out _ hb1
  | true =>
    rw [hr] at hright
    have hspan := span_any a b
    cases hs : spanB a b with
    | false =>
      rw [hs] at hspan
      have NO2 := Lib.hid (NO.out 2 (by unfold cutE; rw [if_neg (by rw [hr]; simp), if_pos hs]) (by decide))
      clear hz NO hr hs
      go_enter Try.func14, Try.ntmps14
      go_wp2_with (first
        | (go_at_call 26; refine hright.mono ?_; rintro e w1 ⟨rfl, hb1⟩)
        | (go_at_call 36; refine (hspan w1).mono ?_; rintro e w2 ⟨rfl, hw2⟩; rw [hw2]; clear hw2))
      go_ret2
      exact NO2.out _ hb1
    | true =>
      rw [hs] at hspan
      have hE : cutE xs a b = 0 := by unfold cutE; rw [if_neg (by rw [hr]; simp), if_neg (by rw [hs]; simp)]
      have hL : cutL xs a b = norm (outL a b xs) := by unfold cutL; rw [if_pos hE]
      rw [hE, hL]
      obtain ⟨s1, s2, s3⟩ := span_iff.1 hs
      have hg := good_out (right_good hr) (a := a) (b := b) (by omega)
      have hol := outL_len a b xs
      have hxl := rightL_len hr
      have hn64 : n ≤ 64 := by rw [← hz.1]; exact hxl
      have HC := Lib.hid (fun w1 (h1 : Below w.heap.size w w1) => cut_any A n c xs a b w1 B (hz.below (h1.mono hB)) (Nat.le_trans hB h1.size) (by omega))
      have HJ := Lib.hid (fun v w2 base (h : Os fR 6 26 w2 base v (outL a b xs)) (hb : base ≤ w2.heap.size) => joined_norm v (outL a b xs) w2 base h hg (by omega) hb)
      clear hz NO hE hL hr hg hs hol hxl s1 s2 s3
      generalize norm (outL a b xs) = nl at *
      generalize outL a b xs = ol at *
      generalize inL a b xs = il at *
      go_enter Try.func14, Try.ntmps14
      go_wp2_with (first
        | (go_at_call 26; refine hright.mono ?_; rintro e w1 ⟨rfl, hb1⟩)
        | (go_at_call 36; refine (hspan w1).mono ?_; rintro e w2 ⟨rfl, hw2⟩; rw [hw2]; clear hw2)
        | (go_at_call 37; refine (HC.out w1 hb1).mono ?_; rintro e w2 ⟨vo, vi, rfl, ho, hi, hap, hb2⟩)
        | (go_at_call 38; refine (HJ.out vo w2 _ ho hb2.size).mono ?_; rintro e w3 ⟨v3, rfl, ho3, hb3⟩))
      go_ret2
      exact ⟨_, rfl, ho3.rebase (Nat.le_trans hb1.size hb2.size), (hb1.trans (hb2.mono hb1.size)).trans (hb3.mono hb1.size)⟩

set_option maxHeartbeats 4000000 in
set_option maxRecDepth 100000 in
theorem add_any (A : Option Addr) (n c : Nat) (xs : List Rgn) (x : Rgn) (w : World) (B : Nat) (hz : Rw fR 6 w B A n xs) (hB : B ≤ w.heap.size) (hbig : n ≤ 140737488355328) :
    Calls Try.prog 11 #[.slice A n c, .agg #[.int .i64 x.f, .int .i64 x.t, .int .i64 x.a.r, .int .i64 x.a.k, .bool x.a.g, .bool x.a.s]] w (TR (addL xs x) (addE xs x) w) := by
  have HW0 := Lib.hid ((Below.refl w.heap.size w).alloc (Nat.le_refl _) (.cells #[.int .i64 x.f, .int .i64 x.t, .int .i64 x.a.r, .int .i64 x.a.k, .bool x.a.g, .bool x.a.s] 26))
  have hright := right_any A n c xs (w.alloc (.cells #[.int .i64 x.f, .int .i64 x.t, .int .i64 x.a.r, .int .i64 x.a.k, .bool x.a.g, .bool x.a.s] 26)) B (hz.below (HW0.out.mono hB)) (by simp; omega) hbig
  have NO : Hid (∀ E : Int, addE xs x = E → E ≠ 0 → ∀ w', Below w.heap.size w w' → TR (addL xs x) (addE xs x) w (.returned (.tuple #[.slice none 0 0, .int .i64 E])) w') := Lib.hid (fun E h h0 w' hb => by
    unfold addL; rw [h, if_neg h0]; exact TR.nil hb)
  cases hr : rightL xs with
  | false =>
    rw [hr] at hright
    have NO2 := Lib.hid (NO.out 1 (by unfold addE; rw [if_pos hr]) (by decide))
    clear hz NO hr
    go_enter Try.func11, Try.ntmps11
    go_wp2_with (go_at_call 26; refine hright.mono ?_; rintro e w1 ⟨rfl, hb1⟩)
    go_ret2
    exact NO2.out _ (HW0.out.trans (hb1.mono (by simp)))
  | true =>
    rw [hr] at hright
    have hspan := span_any x.f x.t
    have hbox : ∀ w1, Below (w.alloc (.cells #[.int .i64 x.f, .int .i64 x.t, .int .i64 x.a.r, .int .i64 x.a.k, .bool x.a.g, .bool x.a.s] 26)).heap.size (w.alloc (.cells #[.int .i64 x.f, .int .i64 x.t, .int .i64 x.a.r, .int .i64 x.a.k, .bool x.a.g, .bool x.a.s] 26)) w1 → ∀ j u, (fR x)[j]? = some u → w1.cell? ⟨w.heap.size, j, none⟩ = some u := fun w1 hb1 j u hj => by
      have := alloc_cells (W := w) (T := 26) j u hj
      rw [addr_add, Nat.zero_add] at this
      exact (hb1.cell (p := ⟨w.heap.size, j, none⟩) (by simp)).trans this
    have HBOX := Lib.hid hbox
    have hw1s : ∀ w1, Below (w.alloc (.cells #[.int .i64 x.f, .int .i64 x.t, .int .i64 x.a.r, .int .i64 x.a.k, .bool x.a.g, .bool x.a.s] 26)).heap.size (w.alloc (.cells #[.int .i64 x.f, .int .i64 x.t, .int .i64 x.a.r, .int .i64 x.a.k, .bool x.a.g, .bool x.a.s] 26)) w1 → w.heap.size < w1.heap.size := fun w1 hb1 => by have := hb1.size; simp at this; omega
    have HSZ := Lib.hid hw1s
    have HBW := Lib.hid (fun w1 (hb1 : Below (w.alloc (.cells #[.int .i64 x.f, .int .i64 x.t, .int .i64 x.a.r, .int .i64 x.a.k, .bool x.a.g, .bool x.a.s] 26)).heap.size (w.alloc (.cells #[.int .i64 x.f, .int .i64 x.t, .int .i64 x.a.r, .int .i64 x.a.k, .bool x.a.g, .bool x.a.s] 26)) w1) => HW0.out.trans (hb1.mono (by simp)))
    clear hbox hw1s
    cases hs : spanB x.f x.t with
    | false =>
      rw [hs] at hspan
      have NO2 := Lib.hid (NO.out 2 (by unfold addE; rw [if_neg (by rw [hr]; simp), if_pos hs]) (by decide))
      clear hz NO hr hs
      go_enter Try.func11, Try.ntmps11
      go_wp2_with (first
        | (go_at_call 26; refine hright.mono ?_; rintro e w1 ⟨rfl, hb1⟩; have bc0 := HBOX.out w1 hb1 0 _ rfl; have bc1 := HBOX.out w1 hb1 1 _ rfl; have hsz := HSZ.out w1 hb1; have HB := Lib.hid (HBW.out w1 hb1); have HB1 := Lib.hid hb1; clear hb1)
        | (go_at_call 36; refine (hspan w1).mono ?_; rintro e w2 ⟨rfl, hw2⟩; rw [hw2]; clear hw2))
      go_ret2
      exact NO2.out _ HB.out
    | true =>
      rw [hs] at hspan
      obtain ⟨s1, s2, s3⟩ := span_iff.1 hs
      have hol := outL_len x.f x.t xs
      have hxl := rightL_len hr
      have hn64 : n ≤ 64 := by rw [← hz.1]; exact hxl
      have HC := Lib.hid (fun w1 (h1 : Below w.heap.size w w1) => cut_any A n c xs x.f x.t w1 B (hz.below (h1.mono hB)) (Nat.le_trans hB h1.size) (by omega))
      by_cases hi0 : inL x.f x.t xs = []
      · have hE : addE xs x = 0 := by unfold addE; rw [if_neg (by rw [hr]; simp), if_neg (by rw [hs]; simp), if_pos hi0]
        have hL : addL xs x = norm (outL x.f x.t xs ++ [x]) := by unfold addL; rw [if_pos hE]
        rw [hE, hL]
        have hg := good_add (right_good hr) s1 s2 s3
        have HJ := Lib.hid (fun v w2 base (h : Os fR 6 26 w2 base v (outL x.f x.t xs ++ [x])) (hb : base ≤ w2.heap.size) => joined_norm v (outL x.f x.t xs ++ [x]) w2 base h hg (by simp; omega) hb)
        rw [hi0] at HC
        have hol2 : (outL x.f x.t xs).length ≤ 128 := by omega
        clear hz NO hE hL hr hg hs hxl hi0 s1 s2 s3 hol
        generalize norm (outL x.f x.t xs ++ [x]) = nl at *
        generalize outL x.f x.t xs = ol at *
        go_enter Try.func11, Try.ntmps11
        go_wp2_with (first
          | (go_at_call 26; refine hright.mono ?_; rintro e w1 ⟨rfl, hb1⟩; have bc0 := HBOX.out w1 hb1 0 _ rfl; have bc1 := HBOX.out w1 hb1 1 _ rfl; have hsz := HSZ.out w1 hb1; have HB := Lib.hid (HBW.out w1 hb1); have HB1 := Lib.hid hb1; clear hb1)
          | (go_at_call 36; refine (hspan w1).mono ?_; rintro e w2 ⟨rfl, hw2⟩; rw [hw2]; clear hw2)
          | (go_at_call 37; refine (HC.out w1 HB.out).mono ?_; rintro e w2 ⟨vo, vi, rfl, ho, hi, hap, hb2⟩; obtain ⟨A2, c2, rfl, hz1, hz2⟩ := hi.form; clear hz1 hz2; obtain ⟨A3, c3, rfl, hz1, hz2⟩ := ho.form; clear hz1 hz2; have HW2 := Lib.hid (HB1.out.trans (hb2.mono HB1.out.size)); have dc0 := HBOX.out w2 HW2.out 0 _ rfl; have dc1 := HBOX.out w2 HW2.out 1 _ rfl; have dc2 := HBOX.out w2 HW2.out 2 _ rfl; have dc3 := HBOX.out w2 HW2.out 3 _ rfl; have dc4 := HBOX.out w2 HW2.out 4 _ rfl; have dc5 := HBOX.out w2 HW2.out 5 _ rfl; have hsz2 := HSZ.out w2 HW2.out; have hs12 := hb2.size; have HO := Lib.hid ho; have HB2 := Lib.hid hb2; clear ho hi hap hb2 bc0 bc1)
          | (at_builtin; refine append_B rfl _ _ rfl w1.heap.size (.slice A3 ol.length c3) ol w2 x w2.heap.size rfl rfl rfl HO.out hs12 (by omega) ?_; intro g' c' w3 ho3 hb3 hbg hcc hmx))
        have hj := HJ.out _ w3 w1.heap.size ho3 (Nat.le_trans hs12 hb3.size)
        have HB3 := Lib.hid hb3
        have hs13 := hb3.size
        clear ho3 hb3 hmx hcc
        go_wp2_with (go_at_call 38; refine hj.mono ?_; rintro e w4 ⟨v4, rfl, ho4, hb4⟩)
        go_ret2
        exact ⟨_, rfl, ho4.rebase (by omega), ((HB.out.trans (HB2.out.mono (by omega))).trans (HB3.out.mono (by omega))).trans (hb4.mono (by omega))⟩
      · have NO2 := Lib.hid (NO.out 7 (by unfold addE; rw [if_neg (by rw [hr]; simp), if_neg (by rw [hs]; simp), if_neg hi0]) (by decide))
        have hil : 0 < (inL x.f x.t xs).length := List.length_pos_iff.2 hi0
        clear hz NO hr hs hxl hi0 s1 s2 s3 hol
        generalize inL x.f x.t xs = il at *
        go_enter Try.func11, Try.ntmps11
        go_wp2_with (first
          | (go_at_call 26; refine hright.mono ?_; rintro e w1 ⟨rfl, hb1⟩; have bc0 := HBOX.out w1 hb1 0 _ rfl; have bc1 := HBOX.out w1 hb1 1 _ rfl; have hsz := HSZ.out w1 hb1; have HB := Lib.hid (HBW.out w1 hb1); have HB1 := Lib.hid hb1; clear hb1)
          | (go_at_call 36; refine (hspan w1).mono ?_; rintro e w2 ⟨rfl, hw2⟩; rw [hw2]; clear hw2)
          | (go_at_call 37; refine (HC.out w1 HB.out).mono ?_; rintro e w2 ⟨vo, vi, rfl, ho, hi, hap, hb2⟩; obtain ⟨A2, c2, rfl, hz1, hz2⟩ := hi.form; clear hz1 hz2))
        go_ret2
        exact NO2.out _ (HB.out.trans (hb2.mono (by omega)))
end Go.Proofs.Ytnpmbjplmollkaa
