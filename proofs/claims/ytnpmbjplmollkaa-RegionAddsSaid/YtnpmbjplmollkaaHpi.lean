/- RegionAdds, walked. -/
import Derived.Test.YtnpmbjplmollkaaHph
namespace Go.Proofs.Ytnpmbjplmollkaa
open Go.ChangeShapes Go.WideShapes Go.ChangeAt Go.RowKit Go.Joins
set_option linter.unusedVariables false
theorem adds1_fun (bx : Nat) (x : Rgn) (must : Int) (w : World) (base : Nat) (hb : bx < base) (hbs : base ≤ w.heap.size) (hc : ∀ (j : Nat) (u : Value), (fR x)[j]? = some u → w.cell? ⟨bx, j, none⟩ = some u) : FunP 13 #[.pointer (some ⟨bx, 0, none⟩)] (fun _ => some x.a) must base w := by
  intro W v o hW hp hbad
  have hbl : bx < W.heap.size := Nat.lt_of_lt_of_le hb (Nat.le_trans hbs hW.size)
  have HC : Hid (∀ (j : Nat) (u : Value), (fA x.a)[j]? = some u → W.cell? ⟨bx, 2 + j, none⟩ = some u) := Lib.hid (fun j u hj => (hW.cell (p := ⟨bx, 2 + j, none⟩) hb).trans (hc (2 + j) u (by
    match j, hj with
    | 0, hj => exact hj
    | 1, hj => exact hj
    | 2, hj => exact hj
    | 3, hj => exact hj)))
  clear hc hp hbad
  go_enter Try.func13, Try.ntmps13
  go_wp2
  go_ret
  exact ⟨_, rfl, ⟨bx, 2, rfl, hbl, .inl hb, HC.out⟩, Below.refl _ _⟩
theorem adds2_fun (must : Int) (w : World) (base : Nat) : FunP 15 #[] (fun _ => none) must base w := by
  intro W v o hW hp hbad
  clear hp hbad
  go_enter Try.func15, Try.ntmps15
  go_wp2
  go_ret
  exact ⟨_, rfl, rfl, Below.refl _ _⟩
set_option maxHeartbeats 8000000 in
set_option maxRecDepth 100000 in
theorem regionAdds_walk {w : World} (A : Option Addr) (n c : Nat) (xs : List Rgn) (hz : Rw fR 6 w w.heap.size A n xs) (hwf : ∀ x ∈ xs, x.fits) (hcap : n ≤ c) (hmax : c ≤ maxLen) (big : c ≤ 3518437208780) (x : Rgn) (hx : x.fits) :
    Calls Try.prog 3 #[.slice A n c, .agg #[.int .i64 x.f, .int .i64 x.t, .int .i64 x.a.r, .int .i64 x.a.k, .bool x.a.g, .bool x.a.s]] w fun e w' => e = .returned (.bool true) ∧ Below w.heap.size w w' := by
  have hbig : n ≤ 140737488355328 := by omega
  clear hcap hmax big hwf hx
  have HB0 := Lib.hid ((Below.refl w.heap.size w).alloc (Nat.le_refl _) (.cells #[.int .i64 x.f, .int .i64 x.t, .int .i64 x.a.r, .int .i64 x.a.k, .bool x.a.g, .bool x.a.s] 26))
  have hcx : ∀ (j : Nat) (u : Value), (fR x)[j]? = some u → (w.alloc (.cells #[.int .i64 x.f, .int .i64 x.t, .int .i64 x.a.r, .int .i64 x.a.k, .bool x.a.g, .bool x.a.s] 26)).cell? ⟨w.heap.size, j, none⟩ = some u := fun j u hj => by
    have := alloc_cells (W := w) (T := 26) j u hj
    rw [addr_add, Nat.zero_add] at this; exact this
  have HBX := Lib.hid (fun w1 (h1 : Below (w.alloc (.cells #[.int .i64 x.f, .int .i64 x.t, .int .i64 x.a.r, .int .i64 x.a.k, .bool x.a.g, .bool x.a.s] 26)).heap.size (w.alloc (.cells #[.int .i64 x.f, .int .i64 x.t, .int .i64 x.a.r, .int .i64 x.a.k, .bool x.a.g, .bool x.a.s] 26)) w1) j u (hj : (fR x)[j]? = some u) => (show w1.cell? ⟨w.heap.size, j, none⟩ = some u from (h1.cell (p := ⟨w.heap.size, j, none⟩) (by simp)).trans (hcx j u hj)))
  have H1 := Lib.hid (add_any A n c xs x (w.alloc (.cells #[.int .i64 x.f, .int .i64 x.t, .int .i64 x.a.r, .int .i64 x.a.k, .bool x.a.g, .bool x.a.s] 26)) w.heap.size (hz.below HB0.out) HB0.out.size hbig)
  have H2 := Lib.hid (fun w1 (h1 : Below (w.alloc (.cells #[.int .i64 x.f, .int .i64 x.t, .int .i64 x.a.r, .int .i64 x.a.k, .bool x.a.g, .bool x.a.s] 26)).heap.size (w.alloc (.cells #[.int .i64 x.f, .int .i64 x.t, .int .i64 x.a.r, .int .i64 x.a.k, .bool x.a.g, .bool x.a.s] 26)) w1) => heach_any _ #[.pointer (some ⟨w.heap.size, 0, none⟩)] (enters_of Try.func13 (by kernel_rfl) rfl) (fun _ => some x.a) (-1) A n c xs x.f x.t w1 w.heap.size (w.heap.size + 1) (hz.below (HB0.out.trans (h1.mono HB0.out.size))) (Nat.le_trans HB0.out.size h1.size) (by have := h1.size; rwa [World.size_alloc] at this) hbig (adds1_fun w.heap.size x (-1) w1 (w.heap.size + 1) (Nat.lt_succ_self _) (by have := h1.size; rwa [World.size_alloc] at this) (HBX.out w1 h1)))
  rw [(each_add xs x).1, (each_add xs x).2] at H2
  have H3 := Lib.hid (fun w1 (h1 : Below w.heap.size w w1) => rcut_any A n c xs x.f x.t w1 w.heap.size (hz.below h1) h1.size hbig)
  have H4 := Lib.hid (fun w1 (h1 : Below w.heap.size w w1) => heach_any _ #[] (enters_of Try.func15 (by kernel_rfl) rfl) (fun _ => none) 0 A n c xs x.f x.t w1 w.heap.size 0 (hz.below h1) h1.size (Nat.zero_le _) hbig (adds2_fun 0 w1 0))
  rw [(each_cut xs x.f x.t).1, (each_cut xs x.f x.t).2] at H4
  have HLa2 : Hid ((addL xs x).length ≤ 1000) := Lib.hid addL_len
  have HLc2 : Hid ((cutL xs x.f x.t).length ≤ 1000) := Lib.hid (cutL_len _ _ _)
  clear hz hbig hcx
  generalize addL xs x = al at *
  generalize addE xs x = ae at *
  generalize cutL xs x.f x.t = cl at *
  generalize cutE xs x.f x.t = ce at *
  obtain ⟨n_a, hna⟩ : ∃ m, al.length = m := ⟨_, rfl⟩
  have HLa := Lib.hid hna
  obtain ⟨n_c, hnc⟩ : ∃ m, cl.length = m := ⟨_, rfl⟩
  have HLc := Lib.hid hnc
  clear hna hnc
  have hbc : True := trivial

  go_enter Try.func3, Try.ntmps3
  go_wp2_with (first
    | (go_at_call 16; refine (eq_yes A3 A4 n_c c3 c4 cl w5 R5_3.out R5_4.out HLc2.out).mono ?_; rintro e w6 ⟨rfl, hb6⟩)
    | (go_at_call 16; refine (eq_yes A1 A2 n_a c1 c2 al w4 R4_1.out R4_2.out HLa2.out).mono ?_; rintro e w5 ⟨rfl, hb5⟩; have HB5 := Lib.hid (HB4.out.trans (hb5.mono HB4.out.size)); have R5_3 := Lib.hid (R4_3.out.on hb5 (Nat.le_refl _)); have R5_4 := Lib.hid (R4_4.out.on hb5 (Nat.le_refl _)); clear hb5)
    | (go_at_call 12; refine (H4.out w3 HB3.out).mono ?_; rintro e w4 ⟨v4, rfl, ho4, hb4⟩; obtain ⟨A4, c4, rfl, hr4⟩ := os_n ho4 n_c HLc.out; clear ho4; have HB4 := Lib.hid (HB3.out.trans (hb4.mono HB3.out.size)); have KB4 := Lib.hid (KB3.out.trans (hb4.mono KB3.out.size)); have R4_1 := Lib.hid (R3_1.out.on hb4 (Nat.le_refl _)); have R4_2 := Lib.hid (R3_2.out.on hb4 (Nat.le_refl _)); have R4_3 := Lib.hid (R3_3.out.on hb4 (Nat.le_refl _)); have R4_4 := Lib.hid hr4; clear hr4 hb4)
    | (go_at_call 14; refine (H3.out w2 HB2.out).mono ?_; rintro e w3 ⟨v3, rfl, ho3, hb3⟩; obtain ⟨A3, c3, rfl, hr3⟩ := os_n ho3 n_c HLc.out; clear ho3; have HB3 := Lib.hid (HB2.out.trans (hb3.mono HB2.out.size)); have KB3 := Lib.hid (KB2.out.trans (hb3.mono KB2.out.size)); have R3_1 := Lib.hid (R2_1.out.on hb3 (Nat.le_refl _)); have R3_2 := Lib.hid (R2_2.out.on hb3 (Nat.le_refl _)); have R3_3 := Lib.hid hr3; clear hr3 hb3; have bc3_0 : w3.cell? ⟨w.heap.size, 0, none⟩ = some (.int .i64 x.f) := HBX.out w3 KB3.out 0 _ rfl; have bc3_1 : w3.cell? ⟨w.heap.size, 1, none⟩ = some (.int .i64 x.t) := HBX.out w3 KB3.out 1 _ rfl)
    | (go_at_call 12; refine (H2.out w1 KB1.out).mono ?_; rintro e w2 ⟨v2, rfl, ho2, hb2⟩; obtain ⟨A2, c2, rfl, hr2⟩ := os_n ho2 n_a HLa.out; clear ho2; have HB2 := Lib.hid (HB1.out.trans (hb2.mono HB1.out.size)); have KB2 := Lib.hid (KB1.out.trans (hb2.mono KB1.out.size)); have R2_1 := Lib.hid (R1_1.out.on hb2 (Nat.le_refl _)); have R2_2 := Lib.hid hr2; clear hr2 hb2; have bc2_0 : w2.cell? ⟨w.heap.size, 0, none⟩ = some (.int .i64 x.f) := HBX.out w2 KB2.out 0 _ rfl; have bc2_1 : w2.cell? ⟨w.heap.size, 1, none⟩ = some (.int .i64 x.t) := HBX.out w2 KB2.out 1 _ rfl)
    | (go_at_call 11; refine (H1.out).mono ?_; rintro e w1 ⟨v1, rfl, ho1, hb1⟩; obtain ⟨A1, c1, rfl, hr1⟩ := os_n ho1 n_a HLa.out; clear ho1; have HB1 := Lib.hid (HB0.out.trans (hb1.mono HB0.out.size)); have KB1 := Lib.hid hb1; have R1_1 := Lib.hid hr1; clear hr1 hb1; have bc1_0 : w1.cell? ⟨w.heap.size, 0, none⟩ = some (.int .i64 x.f) := HBX.out w1 KB1.out 0 _ rfl; have bc1_1 : w1.cell? ⟨w.heap.size, 1, none⟩ = some (.int .i64 x.t) := HBX.out w1 KB1.out 1 _ rfl))
  go_ret
  exact ⟨rfl, HB5.out.trans (hb6.mono HB5.out.size)⟩
end Go.Proofs.Ytnpmbjplmollkaa
