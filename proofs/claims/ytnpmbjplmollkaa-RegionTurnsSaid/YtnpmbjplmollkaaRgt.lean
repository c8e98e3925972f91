/- RegionOnce, walked. -/
import Derived.Test.YtnpmbjplmollkaaRgo
namespace Go.Proofs.Ytnpmbjplmollkaa
open Go.ChangeShapes Go.WideShapes Go.ChangeAt Go.RowKit Go.Joins
set_option linter.unusedVariables false
theorem eq_yes (A1 A2 : Option Addr) (n c1 c2 : Nat) (xs : List Rgn) (w : World) (h1 : Rw fR 6 w w.heap.size A1 n xs) (h2 : Rw fR 6 w w.heap.size A2 n xs) (hl : xs.length ≤ 1000) : Calls Try.prog 16 #[.slice A1 n c1, .slice A2 n c2] w fun e w' => e = .returned (.bool true) ∧ Below w.heap.size w w' := by
  have h := equal_R A1 A2 n c1 n c2 xs xs w _ h1 h2 (Nat.le_refl _) (by have := h1.1; omega) (by have := h1.1; omega)
  rwa [sameL_refl (eq := eqR) (fun a => eqR_iff.2 rfl)] at h
set_option maxHeartbeats 8000000 in
set_option maxRecDepth 100000 in
theorem once_11 (A : Option Addr) (n c : Nat) (xs : List Rgn) (w : World) (hz : Rw fR 6 w w.heap.size A n xs) (hbig : n ≤ 140737488355328) (a b o e : Int) (at_ : Att) (hE : turnE xs a b = 0) (hG : cutE xs a b = 0) :
    Calls Try.prog 6 #[.slice A n c, .int .i64 a, .int .i64 b, .int .i64 o, .int .i64 e, .agg #[.int .i64 at_.r, .int .i64 at_.k, .bool at_.g, .bool at_.s]] w fun e w' => e = .returned (.bool true) ∧ Below w.heap.size w w' := by
  have HB0 := Lib.hid ((Below.refl w.heap.size w).alloc (Nat.le_refl _) (.cells #[.int .i64 at_.r, .int .i64 at_.k, .bool at_.g, .bool at_.s] 24))
  have HS1 := Lib.hid (fun w1 (h1 : Below w.heap.size w w1) => Seal_any A n c xs a b w1 w.heap.size (hz.below h1) h1.size hbig)
  have HS2 := Lib.hid (fun A2 c2 w2 (h : Rw fR 6 w2 w2.heap.size A2 (turnL xs a b (fun a : Att => (⟨a.r, a.k, a.g, true⟩ : Att))).length (turnL xs a b (fun a : Att => (⟨a.r, a.k, a.g, true⟩ : Att)))) => Seal_any A2 _ c2 _ a b w2 _ h (Nat.le_refl _) (Nat.le_trans turnL_len (by decide)))
  have HC1 := Lib.hid (fun w1 (h1 : Below w.heap.size w w1) => rcut_any A n c xs a b w1 w.heap.size (hz.below h1) h1.size hbig)
  have HC2 := Lib.hid (fun A2 c2 w2 (h : Rw fR 6 w2 w2.heap.size A2 (cutL xs a b).length (cutL xs a b)) => rcut_any A2 _ c2 _ a b w2 _ h (Nat.le_refl _) (Nat.le_trans (cutL_len _ _ _) (by decide)))
  have HT1 := Lib.hid (fun A2 c2 w2 (h : Rw fR 6 w2 w2.heap.size A2 (turnL xs a b (fun a : Att => (⟨a.r, a.k, a.g, true⟩ : Att))).length (turnL xs a b (fun a : Att => (⟨a.r, a.k, a.g, true⟩ : Att)))) => Turn_any A2 _ c2 _ o e at_ w2 _ h (Nat.le_refl _) (Nat.le_trans turnL_len (by decide)))
  have HT2 := Lib.hid (fun w1 (h1 : Below w.heap.size w w1) => Turn_any A n c xs o e at_ w1 w.heap.size (hz.below h1) h1.size hbig)
  have HS3 := Lib.hid (fun A2 c2 w2 (h : Rw fR 6 w2 w2.heap.size A2 (turnL xs o e fun _ => at_).length (turnL xs o e fun _ => at_)) => Seal_any A2 _ c2 _ a b w2 _ h (Nat.le_refl _) (Nat.le_trans turnL_len (by decide)))
  obtain ⟨f1, f2⟩ := once_turn (f := (fun a : Att => (⟨a.r, a.k, a.g, true⟩ : Att))) hE (fun _ => rfl)
  rw [f1, f2] at HS2
  have HEQ1 := Lib.hid (fun A1 c1 A2 c2 w1 (h1 : Rw fR 6 w1 w1.heap.size A1 (turnL xs a b (fun a : Att => (⟨a.r, a.k, a.g, true⟩ : Att))).length (turnL xs a b (fun a : Att => (⟨a.r, a.k, a.g, true⟩ : Att)))) (h2 : Rw fR 6 w1 w1.heap.size A2 (turnL xs a b (fun a : Att => (⟨a.r, a.k, a.g, true⟩ : Att))).length (turnL xs a b (fun a : Att => (⟨a.r, a.k, a.g, true⟩ : Att)))) => eq_yes A1 A2 _ c1 c2 (turnL xs a b (fun a : Att => (⟨a.r, a.k, a.g, true⟩ : Att))) w1 h1 h2 (turnL_len))
  rw [hE] at HS1
  obtain ⟨g1, g2⟩ := once_cut hG
  rw [g1, g2] at HC2
  have HEQ2 := Lib.hid (fun A1 c1 A2 c2 w1 (h1 : Rw fR 6 w1 w1.heap.size A1 (cutL xs a b).length (cutL xs a b)) (h2 : Rw fR 6 w1 w1.heap.size A2 (cutL xs a b).length (cutL xs a b)) => eq_yes A1 A2 _ c1 c2 (cutL xs a b) w1 h1 h2 (cutL_len _ _ _))
  rw [hG] at HC1
  by_cases h1 : o < b
  · by_cases h2 : a < e
    · clear f1 f2 hE
      clear g1 g2 hG
      clear hz
      generalize turnL (turnL xs a b (fun a : Att => (⟨a.r, a.k, a.g, true⟩ : Att))) o e (fun _ => at_) = u at *
      generalize turnE (turnL xs a b (fun a : Att => (⟨a.r, a.k, a.g, true⟩ : Att))) o e = I at *
      generalize hlu : u.length = n_u at *
      have HL_u := Lib.hid hlu
      clear hlu
      generalize turnL (turnL xs o e fun _ => at_) a b (fun a : Att => (⟨a.r, a.k, a.g, true⟩ : Att)) = w_ at *
      generalize hlw : w_.length = n_w at *
      have HL_w := Lib.hid hlw
      clear hlw
      generalize turnE (turnL xs o e fun _ => at_) a b = K at *
      generalize turnE xs o e = J at *
      generalize turnL xs o e (fun _ => at_) = v at *
      generalize hlv : v.length = n_v at *
      have HL_v := Lib.hid hlv
      clear hlv
      generalize (turnL xs a b (fun a : Att => (⟨a.r, a.k, a.g, true⟩ : Att))) = s at *
      generalize hls : s.length = n_s at *
      have HL_s := Lib.hid hls
      clear hls
      generalize cutL xs a b = cc at *
      generalize hlc : cc.length = n_c at *
      have HL_c := Lib.hid hlc
      clear hlc
      have hd1 : decide (o < b) = true := decide_eq_true h1
      have hd2 : decide (a < e) = true := decide_eq_true h2
      go_enter Try.func6, Try.ntmps6
      go_wp2_with (first
      | (go_at_call 16; refine (HEQ2.out A_c c_c A_d c_d w6 R6_c.out R6_d.out).mono ?_; rintro e w7 ⟨rfl, hb7⟩; have HB7 := Lib.hid (HB6.out.trans (hb7.mono HB6.out.size)); have KB7 := Lib.hid (KB6.out.trans (hb7.mono KB6.out.size)); have R7_s := Lib.hid (R6_s.out.on hb7 (Nat.le_refl _)); have R7_t := Lib.hid (R6_t.out.on hb7 (Nat.le_refl _)); have R7_c := Lib.hid (R6_c.out.on hb7 (Nat.le_refl _)); have R7_d := Lib.hid (R6_d.out.on hb7 (Nat.le_refl _)); clear hb7)
      | (go_at_call 16; refine (HEQ1.out A_s c_s A_t c_t w5 R5_s.out R5_t.out).mono ?_; rintro e w6 ⟨rfl, hb6⟩; have HB6 := Lib.hid (HB5.out.trans (hb6.mono HB5.out.size)); have KB6 := Lib.hid (KB5.out.trans (hb6.mono KB5.out.size)); have R6_s := Lib.hid (R5_s.out.on hb6 (Nat.le_refl _)); have R6_t := Lib.hid (R5_t.out.on hb6 (Nat.le_refl _)); have R6_c := Lib.hid (R5_c.out.on hb6 (Nat.le_refl _)); have R6_d := Lib.hid (R5_d.out.on hb6 (Nat.le_refl _)); clear hb6)
      | (go_at_call 14; refine (HC2.out A_c c_c w4 R4_c.out).mono ?_; rintro e w5 ⟨v5, rfl, ho5, hb5⟩; obtain ⟨A_d, c_d, rfl, hr5⟩ := os_n ho5 n_c HL_c.out; clear ho5; have HB5 := Lib.hid (HB4.out.trans (hb5.mono HB4.out.size)); have KB5 := Lib.hid (KB4.out.trans (hb5.mono KB4.out.size)); have R5_s := Lib.hid (R4_s.out.on hb5 (Nat.le_refl _)); have R5_t := Lib.hid (R4_t.out.on hb5 (Nat.le_refl _)); have R5_c := Lib.hid (R4_c.out.on hb5 (Nat.le_refl _)); have R5_d := Lib.hid hr5; clear hr5; clear hb5)
      | (go_at_call 14; refine (HC1.out w3 HB3.out).mono ?_; rintro e w4 ⟨v4, rfl, ho4, hb4⟩; obtain ⟨A_c, c_c, rfl, hr4⟩ := os_n ho4 n_c HL_c.out; clear ho4; have HB4 := Lib.hid (HB3.out.trans (hb4.mono HB3.out.size)); have KB4 := Lib.hid (KB3.out.trans (hb4.mono KB3.out.size)); have R4_s := Lib.hid (R3_s.out.on hb4 (Nat.le_refl _)); have R4_t := Lib.hid (R3_t.out.on hb4 (Nat.le_refl _)); have R4_c := Lib.hid hr4; clear hr4; clear hb4)
      | (go_at_call 21; refine (HS2.out A_s c_s w2 R2_s.out).mono ?_; rintro e w3 ⟨v3, rfl, ho3, hb3⟩; obtain ⟨A_t, c_t, rfl, hr3⟩ := os_n ho3 n_s HL_s.out; clear ho3; have HB3 := Lib.hid (HB2.out.trans (hb3.mono HB2.out.size)); have KB3 := Lib.hid (KB2.out.trans (hb3.mono KB2.out.size)); have R3_s := Lib.hid (R2_s.out.on hb3 (Nat.le_refl _)); have R3_t := Lib.hid hr3; clear hr3; clear hb3)
      | (go_at_call 21; refine (HS1.out w1 HB1.out).mono ?_; rintro e w2 ⟨v2, rfl, ho2, hb2⟩; obtain ⟨A_s, c_s, rfl, hr2⟩ := os_n ho2 n_s HL_s.out; clear ho2; have HB2 := Lib.hid (HB1.out.trans (hb2.mono HB1.out.size)); have KB2 := Lib.hid (KB1.out.trans (hb2.mono KB1.out.size)); have R2_s := Lib.hid hr2; clear hr2; clear hb2)
      | (go_at_call 25; refine (alive8_any _).mono ?_; rintro e w1 ⟨rfl, hb1⟩; have HB1 := Lib.hid (HB0.out.trans (hb1.mono (by simp))); have KB1 := Lib.hid hb1; clear hb1))
      go_ret
      exact ⟨rfl, HB7.out⟩
    · by_cases hI : turnE (turnL xs a b (fun a : Att => (⟨a.r, a.k, a.g, true⟩ : Att))) o e = 0
      · have hap : b ≤ o ∨ e ≤ a := .inr (by omega)
        obtain ⟨k1, k2, k3⟩ := once_apart (f := (fun a : Att => (⟨a.r, a.k, a.g, true⟩ : Att))) (g := fun _ => at_) hE hI hap
        have HEQ3 := Lib.hid (fun A1 c1 A2 c2 w1 (h1 : Rw fR 6 w1 w1.heap.size A1 (turnL (turnL xs o e fun _ => at_) a b (fun a : Att => (⟨a.r, a.k, a.g, true⟩ : Att))).length (turnL (turnL xs o e fun _ => at_) a b (fun a : Att => (⟨a.r, a.k, a.g, true⟩ : Att)))) (h2 : Rw fR 6 w1 w1.heap.size A2 (turnL (turnL xs o e fun _ => at_) a b (fun a : Att => (⟨a.r, a.k, a.g, true⟩ : Att))).length (turnL (turnL xs o e fun _ => at_) a b (fun a : Att => (⟨a.r, a.k, a.g, true⟩ : Att)))) => eq_yes A1 A2 _ c1 c2 (turnL (turnL xs o e fun _ => at_) a b (fun a : Att => (⟨a.r, a.k, a.g, true⟩ : Att))) w1 h1 h2 (turnL_len))
        rw [k3, hI] at HT1
        rw [k1] at HT2
        rw [k2] at HS3
        clear k1 k2 k3 hI
        clear f1 f2 hE
        clear g1 g2 hG
        clear hz
        generalize turnL (turnL xs o e fun _ => at_) a b (fun a : Att => (⟨a.r, a.k, a.g, true⟩ : Att)) = w_ at *
        generalize hlw : w_.length = n_w at *
        have HL_w := Lib.hid hlw
        clear hlw
        generalize turnL xs o e (fun _ => at_) = v at *
        generalize hlv : v.length = n_v at *
        have HL_v := Lib.hid hlv
        clear hlv
        generalize (turnL xs a b (fun a : Att => (⟨a.r, a.k, a.g, true⟩ : Att))) = s at *
        generalize hls : s.length = n_s at *
        have HL_s := Lib.hid hls
        clear hls
        generalize cutL xs a b = cc at *
        generalize hlc : cc.length = n_c at *
        have HL_c := Lib.hid hlc
        clear hlc
        have hd1 : decide (o < b) = true := decide_eq_true h1
        have hd2 : decide (a < e) = false := decide_eq_false h2
        go_enter Try.func6, Try.ntmps6
        go_wp2_with (first
        | (go_at_call 16; refine (HEQ3.out A_u c_u A_w c_w w10 R10_u.out R10_w.out).mono ?_; rintro e w11 ⟨rfl, hb11⟩; have HB11 := Lib.hid (HB10.out.trans (hb11.mono HB10.out.size)); have KB11 := Lib.hid (KB10.out.trans (hb11.mono KB10.out.size)); have R11_s := Lib.hid (R10_s.out.on hb11 (Nat.le_refl _)); have R11_t := Lib.hid (R10_t.out.on hb11 (Nat.le_refl _)); have R11_c := Lib.hid (R10_c.out.on hb11 (Nat.le_refl _)); have R11_d := Lib.hid (R10_d.out.on hb11 (Nat.le_refl _)); have R11_u := Lib.hid (R10_u.out.on hb11 (Nat.le_refl _)); have R11_v := Lib.hid (R10_v.out.on hb11 (Nat.le_refl _)); have R11_w := Lib.hid (R10_w.out.on hb11 (Nat.le_refl _)); clear hb11)
        | (go_at_call 21; refine (HS3.out A_v c_v w9 R9_v.out).mono ?_; rintro e w10 ⟨v10, rfl, ho10, hb10⟩; obtain ⟨A_w, c_w, rfl, hr10⟩ := os_n ho10 n_w HL_w.out; clear ho10; have HB10 := Lib.hid (HB9.out.trans (hb10.mono HB9.out.size)); have KB10 := Lib.hid (KB9.out.trans (hb10.mono KB9.out.size)); have R10_s := Lib.hid (R9_s.out.on hb10 (Nat.le_refl _)); have R10_t := Lib.hid (R9_t.out.on hb10 (Nat.le_refl _)); have R10_c := Lib.hid (R9_c.out.on hb10 (Nat.le_refl _)); have R10_d := Lib.hid (R9_d.out.on hb10 (Nat.le_refl _)); have R10_u := Lib.hid (R9_u.out.on hb10 (Nat.le_refl _)); have R10_v := Lib.hid (R9_v.out.on hb10 (Nat.le_refl _)); have R10_w := Lib.hid hr10; clear hr10; clear hb10)
        | (go_at_call 19; refine (HT2.out w8 HB8.out).mono ?_; rintro e w9 ⟨v9, rfl, ho9, hb9⟩; obtain ⟨A_v, c_v, rfl, hr9⟩ := os_n ho9 n_v HL_v.out; clear ho9; have HB9 := Lib.hid (HB8.out.trans (hb9.mono HB8.out.size)); have KB9 := Lib.hid (KB8.out.trans (hb9.mono KB8.out.size)); have R9_s := Lib.hid (R8_s.out.on hb9 (Nat.le_refl _)); have R9_t := Lib.hid (R8_t.out.on hb9 (Nat.le_refl _)); have R9_c := Lib.hid (R8_c.out.on hb9 (Nat.le_refl _)); have R9_d := Lib.hid (R8_d.out.on hb9 (Nat.le_refl _)); have R9_u := Lib.hid (R8_u.out.on hb9 (Nat.le_refl _)); have R9_v := Lib.hid hr9; clear hr9; clear hb9)
        | (go_at_call 19; refine (HT1.out A_s c_s w7 R7_s.out).mono ?_; rintro e w8 ⟨v8, rfl, ho8, hb8⟩; obtain ⟨A_u, c_u, rfl, hr8⟩ := os_n ho8 n_w HL_w.out; clear ho8; have HB8 := Lib.hid (HB7.out.trans (hb8.mono HB7.out.size)); have KB8 := Lib.hid (KB7.out.trans (hb8.mono KB7.out.size)); have R8_s := Lib.hid (R7_s.out.on hb8 (Nat.le_refl _)); have R8_t := Lib.hid (R7_t.out.on hb8 (Nat.le_refl _)); have R8_c := Lib.hid (R7_c.out.on hb8 (Nat.le_refl _)); have R8_d := Lib.hid (R7_d.out.on hb8 (Nat.le_refl _)); have R8_u := Lib.hid hr8; clear hr8; clear hb8; have bc8_0 : w8.cell? ⟨w.heap.size, 0, none⟩ = some (.int .i64 at_.r) := (KB8.out.cell (p := ⟨w.heap.size, 0, none⟩) (by simp)).trans (by simp [go_sem]); have bc8_1 : w8.cell? ⟨w.heap.size, 1, none⟩ = some (.int .i64 at_.k) := (KB8.out.cell (p := ⟨w.heap.size, 1, none⟩) (by simp)).trans (by simp [go_sem]); have bc8_2 : w8.cell? ⟨w.heap.size, 2, none⟩ = some (.bool at_.g) := (KB8.out.cell (p := ⟨w.heap.size, 2, none⟩) (by simp)).trans (by simp [go_sem]); have bc8_3 : w8.cell? ⟨w.heap.size, 3, none⟩ = some (.bool at_.s) := (KB8.out.cell (p := ⟨w.heap.size, 3, none⟩) (by simp)).trans (by simp [go_sem]))
        | (go_at_call 16; refine (HEQ2.out A_c c_c A_d c_d w6 R6_c.out R6_d.out).mono ?_; rintro e w7 ⟨rfl, hb7⟩; have HB7 := Lib.hid (HB6.out.trans (hb7.mono HB6.out.size)); have KB7 := Lib.hid (KB6.out.trans (hb7.mono KB6.out.size)); have R7_s := Lib.hid (R6_s.out.on hb7 (Nat.le_refl _)); have R7_t := Lib.hid (R6_t.out.on hb7 (Nat.le_refl _)); have R7_c := Lib.hid (R6_c.out.on hb7 (Nat.le_refl _)); have R7_d := Lib.hid (R6_d.out.on hb7 (Nat.le_refl _)); clear hb7; have bc7_0 : w7.cell? ⟨w.heap.size, 0, none⟩ = some (.int .i64 at_.r) := (KB7.out.cell (p := ⟨w.heap.size, 0, none⟩) (by simp)).trans (by simp [go_sem]); have bc7_1 : w7.cell? ⟨w.heap.size, 1, none⟩ = some (.int .i64 at_.k) := (KB7.out.cell (p := ⟨w.heap.size, 1, none⟩) (by simp)).trans (by simp [go_sem]); have bc7_2 : w7.cell? ⟨w.heap.size, 2, none⟩ = some (.bool at_.g) := (KB7.out.cell (p := ⟨w.heap.size, 2, none⟩) (by simp)).trans (by simp [go_sem]); have bc7_3 : w7.cell? ⟨w.heap.size, 3, none⟩ = some (.bool at_.s) := (KB7.out.cell (p := ⟨w.heap.size, 3, none⟩) (by simp)).trans (by simp [go_sem]))
        | (go_at_call 16; refine (HEQ1.out A_s c_s A_t c_t w5 R5_s.out R5_t.out).mono ?_; rintro e w6 ⟨rfl, hb6⟩; have HB6 := Lib.hid (HB5.out.trans (hb6.mono HB5.out.size)); have KB6 := Lib.hid (KB5.out.trans (hb6.mono KB5.out.size)); have R6_s := Lib.hid (R5_s.out.on hb6 (Nat.le_refl _)); have R6_t := Lib.hid (R5_t.out.on hb6 (Nat.le_refl _)); have R6_c := Lib.hid (R5_c.out.on hb6 (Nat.le_refl _)); have R6_d := Lib.hid (R5_d.out.on hb6 (Nat.le_refl _)); clear hb6)
        | (go_at_call 14; refine (HC2.out A_c c_c w4 R4_c.out).mono ?_; rintro e w5 ⟨v5, rfl, ho5, hb5⟩; obtain ⟨A_d, c_d, rfl, hr5⟩ := os_n ho5 n_c HL_c.out; clear ho5; have HB5 := Lib.hid (HB4.out.trans (hb5.mono HB4.out.size)); have KB5 := Lib.hid (KB4.out.trans (hb5.mono KB4.out.size)); have R5_s := Lib.hid (R4_s.out.on hb5 (Nat.le_refl _)); have R5_t := Lib.hid (R4_t.out.on hb5 (Nat.le_refl _)); have R5_c := Lib.hid (R4_c.out.on hb5 (Nat.le_refl _)); have R5_d := Lib.hid hr5; clear hr5; clear hb5)
        | (go_at_call 14; refine (HC1.out w3 HB3.out).mono ?_; rintro e w4 ⟨v4, rfl, ho4, hb4⟩; obtain ⟨A_c, c_c, rfl, hr4⟩ := os_n ho4 n_c HL_c.out; clear ho4; have HB4 := Lib.hid (HB3.out.trans (hb4.mono HB3.out.size)); have KB4 := Lib.hid (KB3.out.trans (hb4.mono KB3.out.size)); have R4_s := Lib.hid (R3_s.out.on hb4 (Nat.le_refl _)); have R4_t := Lib.hid (R3_t.out.on hb4 (Nat.le_refl _)); have R4_c := Lib.hid hr4; clear hr4; clear hb4)
        | (go_at_call 21; refine (HS2.out A_s c_s w2 R2_s.out).mono ?_; rintro e w3 ⟨v3, rfl, ho3, hb3⟩; obtain ⟨A_t, c_t, rfl, hr3⟩ := os_n ho3 n_s HL_s.out; clear ho3; have HB3 := Lib.hid (HB2.out.trans (hb3.mono HB2.out.size)); have KB3 := Lib.hid (KB2.out.trans (hb3.mono KB2.out.size)); have R3_s := Lib.hid (R2_s.out.on hb3 (Nat.le_refl _)); have R3_t := Lib.hid hr3; clear hr3; clear hb3)
        | (go_at_call 21; refine (HS1.out w1 HB1.out).mono ?_; rintro e w2 ⟨v2, rfl, ho2, hb2⟩; obtain ⟨A_s, c_s, rfl, hr2⟩ := os_n ho2 n_s HL_s.out; clear ho2; have HB2 := Lib.hid (HB1.out.trans (hb2.mono HB1.out.size)); have KB2 := Lib.hid (KB1.out.trans (hb2.mono KB1.out.size)); have R2_s := Lib.hid hr2; clear hr2; clear hb2)
        | (go_at_call 25; refine (alive8_any _).mono ?_; rintro e w1 ⟨rfl, hb1⟩; have HB1 := Lib.hid (HB0.out.trans (hb1.mono (by simp))); have KB1 := Lib.hid hb1; clear hb1))
        go_ret
        exact ⟨rfl, HB11.out⟩
      · clear f1 f2 hE
        clear g1 g2 hG
        clear hz
        generalize turnL (turnL xs a b (fun a : Att => (⟨a.r, a.k, a.g, true⟩ : Att))) o e (fun _ => at_) = u at *
        generalize turnE (turnL xs a b (fun a : Att => (⟨a.r, a.k, a.g, true⟩ : Att))) o e = I at *
        generalize hlu : u.length = n_u at *
        have HL_u := Lib.hid hlu
        clear hlu
        generalize turnL (turnL xs o e fun _ => at_) a b (fun a : Att => (⟨a.r, a.k, a.g, true⟩ : Att)) = w_ at *
        generalize hlw : w_.length = n_w at *
        have HL_w := Lib.hid hlw
        clear hlw
        generalize turnE (turnL xs o e fun _ => at_) a b = K at *
        generalize turnE xs o e = J at *
        generalize turnL xs o e (fun _ => at_) = v at *
        generalize hlv : v.length = n_v at *
        have HL_v := Lib.hid hlv
        clear hlv
        generalize (turnL xs a b (fun a : Att => (⟨a.r, a.k, a.g, true⟩ : Att))) = s at *
        generalize hls : s.length = n_s at *
        have HL_s := Lib.hid hls
        clear hls
        generalize cutL xs a b = cc at *
        generalize hlc : cc.length = n_c at *
        have HL_c := Lib.hid hlc
        clear hlc
        have hI2 : (I != 0) = true := by rw [bne_iff_ne]; exact hI
        have hd1 : decide (o < b) = true := decide_eq_true h1
        have hd2 : decide (a < e) = false := decide_eq_false h2
        go_enter Try.func6, Try.ntmps6
        go_wp2_with (first
        | (go_at_call 21; refine (HS3.out A_v c_v w9 R9_v.out).mono ?_; rintro e w10 ⟨v10, rfl, ho10, hb10⟩; obtain ⟨A_w, c_w, rfl, hr10⟩ := os_n ho10 n_w HL_w.out; clear ho10; have HB10 := Lib.hid (HB9.out.trans (hb10.mono HB9.out.size)); have KB10 := Lib.hid (KB9.out.trans (hb10.mono KB9.out.size)); have R10_s := Lib.hid (R9_s.out.on hb10 (Nat.le_refl _)); have R10_t := Lib.hid (R9_t.out.on hb10 (Nat.le_refl _)); have R10_c := Lib.hid (R9_c.out.on hb10 (Nat.le_refl _)); have R10_d := Lib.hid (R9_d.out.on hb10 (Nat.le_refl _)); have R10_u := Lib.hid (R9_u.out.on hb10 (Nat.le_refl _)); have R10_v := Lib.hid (R9_v.out.on hb10 (Nat.le_refl _)); have R10_w := Lib.hid hr10; clear hr10; clear hb10)
        | (go_at_call 19; refine (HT2.out w8 HB8.out).mono ?_; rintro e w9 ⟨v9, rfl, ho9, hb9⟩; obtain ⟨A_v, c_v, rfl, hr9⟩ := os_n ho9 n_v HL_v.out; clear ho9; have HB9 := Lib.hid (HB8.out.trans (hb9.mono HB8.out.size)); have KB9 := Lib.hid (KB8.out.trans (hb9.mono KB8.out.size)); have R9_s := Lib.hid (R8_s.out.on hb9 (Nat.le_refl _)); have R9_t := Lib.hid (R8_t.out.on hb9 (Nat.le_refl _)); have R9_c := Lib.hid (R8_c.out.on hb9 (Nat.le_refl _)); have R9_d := Lib.hid (R8_d.out.on hb9 (Nat.le_refl _)); have R9_u := Lib.hid (R8_u.out.on hb9 (Nat.le_refl _)); have R9_v := Lib.hid hr9; clear hr9; clear hb9)
        | (go_at_call 19; refine (HT1.out A_s c_s w7 R7_s.out).mono ?_; rintro e w8 ⟨v8, rfl, ho8, hb8⟩; obtain ⟨A_u, c_u, rfl, hr8⟩ := os_n ho8 n_u HL_u.out; clear ho8; have HB8 := Lib.hid (HB7.out.trans (hb8.mono HB7.out.size)); have KB8 := Lib.hid (KB7.out.trans (hb8.mono KB7.out.size)); have R8_s := Lib.hid (R7_s.out.on hb8 (Nat.le_refl _)); have R8_t := Lib.hid (R7_t.out.on hb8 (Nat.le_refl _)); have R8_c := Lib.hid (R7_c.out.on hb8 (Nat.le_refl _)); have R8_d := Lib.hid (R7_d.out.on hb8 (Nat.le_refl _)); have R8_u := Lib.hid hr8; clear hr8; clear hb8; have bc8_0 : w8.cell? ⟨w.heap.size, 0, none⟩ = some (.int .i64 at_.r) := (KB8.out.cell (p := ⟨w.heap.size, 0, none⟩) (by simp)).trans (by simp [go_sem]); have bc8_1 : w8.cell? ⟨w.heap.size, 1, none⟩ = some (.int .i64 at_.k) := (KB8.out.cell (p := ⟨w.heap.size, 1, none⟩) (by simp)).trans (by simp [go_sem]); have bc8_2 : w8.cell? ⟨w.heap.size, 2, none⟩ = some (.bool at_.g) := (KB8.out.cell (p := ⟨w.heap.size, 2, none⟩) (by simp)).trans (by simp [go_sem]); have bc8_3 : w8.cell? ⟨w.heap.size, 3, none⟩ = some (.bool at_.s) := (KB8.out.cell (p := ⟨w.heap.size, 3, none⟩) (by simp)).trans (by simp [go_sem]))
        | (go_at_call 16; refine (HEQ2.out A_c c_c A_d c_d w6 R6_c.out R6_d.out).mono ?_; rintro e w7 ⟨rfl, hb7⟩; have HB7 := Lib.hid (HB6.out.trans (hb7.mono HB6.out.size)); have KB7 := Lib.hid (KB6.out.trans (hb7.mono KB6.out.size)); have R7_s := Lib.hid (R6_s.out.on hb7 (Nat.le_refl _)); have R7_t := Lib.hid (R6_t.out.on hb7 (Nat.le_refl _)); have R7_c := Lib.hid (R6_c.out.on hb7 (Nat.le_refl _)); have R7_d := Lib.hid (R6_d.out.on hb7 (Nat.le_refl _)); clear hb7; have bc7_0 : w7.cell? ⟨w.heap.size, 0, none⟩ = some (.int .i64 at_.r) := (KB7.out.cell (p := ⟨w.heap.size, 0, none⟩) (by simp)).trans (by simp [go_sem]); have bc7_1 : w7.cell? ⟨w.heap.size, 1, none⟩ = some (.int .i64 at_.k) := (KB7.out.cell (p := ⟨w.heap.size, 1, none⟩) (by simp)).trans (by simp [go_sem]); have bc7_2 : w7.cell? ⟨w.heap.size, 2, none⟩ = some (.bool at_.g) := (KB7.out.cell (p := ⟨w.heap.size, 2, none⟩) (by simp)).trans (by simp [go_sem]); have bc7_3 : w7.cell? ⟨w.heap.size, 3, none⟩ = some (.bool at_.s) := (KB7.out.cell (p := ⟨w.heap.size, 3, none⟩) (by simp)).trans (by simp [go_sem]))
        | (go_at_call 16; refine (HEQ1.out A_s c_s A_t c_t w5 R5_s.out R5_t.out).mono ?_; rintro e w6 ⟨rfl, hb6⟩; have HB6 := Lib.hid (HB5.out.trans (hb6.mono HB5.out.size)); have KB6 := Lib.hid (KB5.out.trans (hb6.mono KB5.out.size)); have R6_s := Lib.hid (R5_s.out.on hb6 (Nat.le_refl _)); have R6_t := Lib.hid (R5_t.out.on hb6 (Nat.le_refl _)); have R6_c := Lib.hid (R5_c.out.on hb6 (Nat.le_refl _)); have R6_d := Lib.hid (R5_d.out.on hb6 (Nat.le_refl _)); clear hb6)
        | (go_at_call 14; refine (HC2.out A_c c_c w4 R4_c.out).mono ?_; rintro e w5 ⟨v5, rfl, ho5, hb5⟩; obtain ⟨A_d, c_d, rfl, hr5⟩ := os_n ho5 n_c HL_c.out; clear ho5; have HB5 := Lib.hid (HB4.out.trans (hb5.mono HB4.out.size)); have KB5 := Lib.hid (KB4.out.trans (hb5.mono KB4.out.size)); have R5_s := Lib.hid (R4_s.out.on hb5 (Nat.le_refl _)); have R5_t := Lib.hid (R4_t.out.on hb5 (Nat.le_refl _)); have R5_c := Lib.hid (R4_c.out.on hb5 (Nat.le_refl _)); have R5_d := Lib.hid hr5; clear hr5; clear hb5)
        | (go_at_call 14; refine (HC1.out w3 HB3.out).mono ?_; rintro e w4 ⟨v4, rfl, ho4, hb4⟩; obtain ⟨A_c, c_c, rfl, hr4⟩ := os_n ho4 n_c HL_c.out; clear ho4; have HB4 := Lib.hid (HB3.out.trans (hb4.mono HB3.out.size)); have KB4 := Lib.hid (KB3.out.trans (hb4.mono KB3.out.size)); have R4_s := Lib.hid (R3_s.out.on hb4 (Nat.le_refl _)); have R4_t := Lib.hid (R3_t.out.on hb4 (Nat.le_refl _)); have R4_c := Lib.hid hr4; clear hr4; clear hb4)
        | (go_at_call 21; refine (HS2.out A_s c_s w2 R2_s.out).mono ?_; rintro e w3 ⟨v3, rfl, ho3, hb3⟩; obtain ⟨A_t, c_t, rfl, hr3⟩ := os_n ho3 n_s HL_s.out; clear ho3; have HB3 := Lib.hid (HB2.out.trans (hb3.mono HB2.out.size)); have KB3 := Lib.hid (KB2.out.trans (hb3.mono KB2.out.size)); have R3_s := Lib.hid (R2_s.out.on hb3 (Nat.le_refl _)); have R3_t := Lib.hid hr3; clear hr3; clear hb3)
        | (go_at_call 21; refine (HS1.out w1 HB1.out).mono ?_; rintro e w2 ⟨v2, rfl, ho2, hb2⟩; obtain ⟨A_s, c_s, rfl, hr2⟩ := os_n ho2 n_s HL_s.out; clear ho2; have HB2 := Lib.hid (HB1.out.trans (hb2.mono HB1.out.size)); have KB2 := Lib.hid (KB1.out.trans (hb2.mono KB1.out.size)); have R2_s := Lib.hid hr2; clear hr2; clear hb2)
        | (go_at_call 25; refine (alive8_any _).mono ?_; rintro e w1 ⟨rfl, hb1⟩; have HB1 := Lib.hid (HB0.out.trans (hb1.mono (by simp))); have KB1 := Lib.hid hb1; clear hb1))
        go_ret
        exact ⟨rfl, HB10.out⟩
  · by_cases hI : turnE (turnL xs a b (fun a : Att => (⟨a.r, a.k, a.g, true⟩ : Att))) o e = 0
    · have hap : b ≤ o ∨ e ≤ a := .inl (by omega)
      obtain ⟨k1, k2, k3⟩ := once_apart (f := (fun a : Att => (⟨a.r, a.k, a.g, true⟩ : Att))) (g := fun _ => at_) hE hI hap
      have HEQ3 := Lib.hid (fun A1 c1 A2 c2 w1 (h1 : Rw fR 6 w1 w1.heap.size A1 (turnL (turnL xs o e fun _ => at_) a b (fun a : Att => (⟨a.r, a.k, a.g, true⟩ : Att))).length (turnL (turnL xs o e fun _ => at_) a b (fun a : Att => (⟨a.r, a.k, a.g, true⟩ : Att)))) (h2 : Rw fR 6 w1 w1.heap.size A2 (turnL (turnL xs o e fun _ => at_) a b (fun a : Att => (⟨a.r, a.k, a.g, true⟩ : Att))).length (turnL (turnL xs o e fun _ => at_) a b (fun a : Att => (⟨a.r, a.k, a.g, true⟩ : Att)))) => eq_yes A1 A2 _ c1 c2 (turnL (turnL xs o e fun _ => at_) a b (fun a : Att => (⟨a.r, a.k, a.g, true⟩ : Att))) w1 h1 h2 (turnL_len))
      rw [k3, hI] at HT1
      rw [k1] at HT2
      rw [k2] at HS3
      clear k1 k2 k3 hI
      clear f1 f2 hE
      clear g1 g2 hG
      clear hz
      generalize turnL (turnL xs o e fun _ => at_) a b (fun a : Att => (⟨a.r, a.k, a.g, true⟩ : Att)) = w_ at *
      generalize hlw : w_.length = n_w at *
      have HL_w := Lib.hid hlw
      clear hlw
      generalize turnL xs o e (fun _ => at_) = v at *
      generalize hlv : v.length = n_v at *
      have HL_v := Lib.hid hlv
      clear hlv
      generalize (turnL xs a b (fun a : Att => (⟨a.r, a.k, a.g, true⟩ : Att))) = s at *
      generalize hls : s.length = n_s at *
      have HL_s := Lib.hid hls
      clear hls
      generalize cutL xs a b = cc at *
      generalize hlc : cc.length = n_c at *
      have HL_c := Lib.hid hlc
      clear hlc
      have hd1 : decide (o < b) = false := decide_eq_false h1
      go_enter Try.func6, Try.ntmps6
      go_wp2_with (first
      | (go_at_call 16; refine (HEQ3.out A_u c_u A_w c_w w10 R10_u.out R10_w.out).mono ?_; rintro e w11 ⟨rfl, hb11⟩; have HB11 := Lib.hid (HB10.out.trans (hb11.mono HB10.out.size)); have KB11 := Lib.hid (KB10.out.trans (hb11.mono KB10.out.size)); have R11_s := Lib.hid (R10_s.out.on hb11 (Nat.le_refl _)); have R11_t := Lib.hid (R10_t.out.on hb11 (Nat.le_refl _)); have R11_c := Lib.hid (R10_c.out.on hb11 (Nat.le_refl _)); have R11_d := Lib.hid (R10_d.out.on hb11 (Nat.le_refl _)); have R11_u := Lib.hid (R10_u.out.on hb11 (Nat.le_refl _)); have R11_v := Lib.hid (R10_v.out.on hb11 (Nat.le_refl _)); have R11_w := Lib.hid (R10_w.out.on hb11 (Nat.le_refl _)); clear hb11)
      | (go_at_call 21; refine (HS3.out A_v c_v w9 R9_v.out).mono ?_; rintro e w10 ⟨v10, rfl, ho10, hb10⟩; obtain ⟨A_w, c_w, rfl, hr10⟩ := os_n ho10 n_w HL_w.out; clear ho10; have HB10 := Lib.hid (HB9.out.trans (hb10.mono HB9.out.size)); have KB10 := Lib.hid (KB9.out.trans (hb10.mono KB9.out.size)); have R10_s := Lib.hid (R9_s.out.on hb10 (Nat.le_refl _)); have R10_t := Lib.hid (R9_t.out.on hb10 (Nat.le_refl _)); have R10_c := Lib.hid (R9_c.out.on hb10 (Nat.le_refl _)); have R10_d := Lib.hid (R9_d.out.on hb10 (Nat.le_refl _)); have R10_u := Lib.hid (R9_u.out.on hb10 (Nat.le_refl _)); have R10_v := Lib.hid (R9_v.out.on hb10 (Nat.le_refl _)); have R10_w := Lib.hid hr10; clear hr10; clear hb10)
      | (go_at_call 19; refine (HT2.out w8 HB8.out).mono ?_; rintro e w9 ⟨v9, rfl, ho9, hb9⟩; obtain ⟨A_v, c_v, rfl, hr9⟩ := os_n ho9 n_v HL_v.out; clear ho9; have HB9 := Lib.hid (HB8.out.trans (hb9.mono HB8.out.size)); have KB9 := Lib.hid (KB8.out.trans (hb9.mono KB8.out.size)); have R9_s := Lib.hid (R8_s.out.on hb9 (Nat.le_refl _)); have R9_t := Lib.hid (R8_t.out.on hb9 (Nat.le_refl _)); have R9_c := Lib.hid (R8_c.out.on hb9 (Nat.le_refl _)); have R9_d := Lib.hid (R8_d.out.on hb9 (Nat.le_refl _)); have R9_u := Lib.hid (R8_u.out.on hb9 (Nat.le_refl _)); have R9_v := Lib.hid hr9; clear hr9; clear hb9)
      | (go_at_call 19; refine (HT1.out A_s c_s w7 R7_s.out).mono ?_; rintro e w8 ⟨v8, rfl, ho8, hb8⟩; obtain ⟨A_u, c_u, rfl, hr8⟩ := os_n ho8 n_w HL_w.out; clear ho8; have HB8 := Lib.hid (HB7.out.trans (hb8.mono HB7.out.size)); have KB8 := Lib.hid (KB7.out.trans (hb8.mono KB7.out.size)); have R8_s := Lib.hid (R7_s.out.on hb8 (Nat.le_refl _)); have R8_t := Lib.hid (R7_t.out.on hb8 (Nat.le_refl _)); have R8_c := Lib.hid (R7_c.out.on hb8 (Nat.le_refl _)); have R8_d := Lib.hid (R7_d.out.on hb8 (Nat.le_refl _)); have R8_u := Lib.hid hr8; clear hr8; clear hb8; have bc8_0 : w8.cell? ⟨w.heap.size, 0, none⟩ = some (.int .i64 at_.r) := (KB8.out.cell (p := ⟨w.heap.size, 0, none⟩) (by simp)).trans (by simp [go_sem]); have bc8_1 : w8.cell? ⟨w.heap.size, 1, none⟩ = some (.int .i64 at_.k) := (KB8.out.cell (p := ⟨w.heap.size, 1, none⟩) (by simp)).trans (by simp [go_sem]); have bc8_2 : w8.cell? ⟨w.heap.size, 2, none⟩ = some (.bool at_.g) := (KB8.out.cell (p := ⟨w.heap.size, 2, none⟩) (by simp)).trans (by simp [go_sem]); have bc8_3 : w8.cell? ⟨w.heap.size, 3, none⟩ = some (.bool at_.s) := (KB8.out.cell (p := ⟨w.heap.size, 3, none⟩) (by simp)).trans (by simp [go_sem]))
      | (go_at_call 16; refine (HEQ2.out A_c c_c A_d c_d w6 R6_c.out R6_d.out).mono ?_; rintro e w7 ⟨rfl, hb7⟩; have HB7 := Lib.hid (HB6.out.trans (hb7.mono HB6.out.size)); have KB7 := Lib.hid (KB6.out.trans (hb7.mono KB6.out.size)); have R7_s := Lib.hid (R6_s.out.on hb7 (Nat.le_refl _)); have R7_t := Lib.hid (R6_t.out.on hb7 (Nat.le_refl _)); have R7_c := Lib.hid (R6_c.out.on hb7 (Nat.le_refl _)); have R7_d := Lib.hid (R6_d.out.on hb7 (Nat.le_refl _)); clear hb7; have bc7_0 : w7.cell? ⟨w.heap.size, 0, none⟩ = some (.int .i64 at_.r) := (KB7.out.cell (p := ⟨w.heap.size, 0, none⟩) (by simp)).trans (by simp [go_sem]); have bc7_1 : w7.cell? ⟨w.heap.size, 1, none⟩ = some (.int .i64 at_.k) := (KB7.out.cell (p := ⟨w.heap.size, 1, none⟩) (by simp)).trans (by simp [go_sem]); have bc7_2 : w7.cell? ⟨w.heap.size, 2, none⟩ = some (.bool at_.g) := (KB7.out.cell (p := ⟨w.heap.size, 2, none⟩) (by simp)).trans (by simp [go_sem]); have bc7_3 : w7.cell? ⟨w.heap.size, 3, none⟩ = some (.bool at_.s) := (KB7.out.cell (p := ⟨w.heap.size, 3, none⟩) (by simp)).trans (by simp [go_sem]))
      | (go_at_call 16; refine (HEQ1.out A_s c_s A_t c_t w5 R5_s.out R5_t.out).mono ?_; rintro e w6 ⟨rfl, hb6⟩; have HB6 := Lib.hid (HB5.out.trans (hb6.mono HB5.out.size)); have KB6 := Lib.hid (KB5.out.trans (hb6.mono KB5.out.size)); have R6_s := Lib.hid (R5_s.out.on hb6 (Nat.le_refl _)); have R6_t := Lib.hid (R5_t.out.on hb6 (Nat.le_refl _)); have R6_c := Lib.hid (R5_c.out.on hb6 (Nat.le_refl _)); have R6_d := Lib.hid (R5_d.out.on hb6 (Nat.le_refl _)); clear hb6)
      | (go_at_call 14; refine (HC2.out A_c c_c w4 R4_c.out).mono ?_; rintro e w5 ⟨v5, rfl, ho5, hb5⟩; obtain ⟨A_d, c_d, rfl, hr5⟩ := os_n ho5 n_c HL_c.out; clear ho5; have HB5 := Lib.hid (HB4.out.trans (hb5.mono HB4.out.size)); have KB5 := Lib.hid (KB4.out.trans (hb5.mono KB4.out.size)); have R5_s := Lib.hid (R4_s.out.on hb5 (Nat.le_refl _)); have R5_t := Lib.hid (R4_t.out.on hb5 (Nat.le_refl _)); have R5_c := Lib.hid (R4_c.out.on hb5 (Nat.le_refl _)); have R5_d := Lib.hid hr5; clear hr5; clear hb5)
      | (go_at_call 14; refine (HC1.out w3 HB3.out).mono ?_; rintro e w4 ⟨v4, rfl, ho4, hb4⟩; obtain ⟨A_c, c_c, rfl, hr4⟩ := os_n ho4 n_c HL_c.out; clear ho4; have HB4 := Lib.hid (HB3.out.trans (hb4.mono HB3.out.size)); have KB4 := Lib.hid (KB3.out.trans (hb4.mono KB3.out.size)); have R4_s := Lib.hid (R3_s.out.on hb4 (Nat.le_refl _)); have R4_t := Lib.hid (R3_t.out.on hb4 (Nat.le_refl _)); have R4_c := Lib.hid hr4; clear hr4; clear hb4)
      | (go_at_call 21; refine (HS2.out A_s c_s w2 R2_s.out).mono ?_; rintro e w3 ⟨v3, rfl, ho3, hb3⟩; obtain ⟨A_t, c_t, rfl, hr3⟩ := os_n ho3 n_s HL_s.out; clear ho3; have HB3 := Lib.hid (HB2.out.trans (hb3.mono HB2.out.size)); have KB3 := Lib.hid (KB2.out.trans (hb3.mono KB2.out.size)); have R3_s := Lib.hid (R2_s.out.on hb3 (Nat.le_refl _)); have R3_t := Lib.hid hr3; clear hr3; clear hb3)
      | (go_at_call 21; refine (HS1.out w1 HB1.out).mono ?_; rintro e w2 ⟨v2, rfl, ho2, hb2⟩; obtain ⟨A_s, c_s, rfl, hr2⟩ := os_n ho2 n_s HL_s.out; clear ho2; have HB2 := Lib.hid (HB1.out.trans (hb2.mono HB1.out.size)); have KB2 := Lib.hid (KB1.out.trans (hb2.mono KB1.out.size)); have R2_s := Lib.hid hr2; clear hr2; clear hb2)
      | (go_at_call 25; refine (alive8_any _).mono ?_; rintro e w1 ⟨rfl, hb1⟩; have HB1 := Lib.hid (HB0.out.trans (hb1.mono (by simp))); have KB1 := Lib.hid hb1; clear hb1))
      go_ret
      exact ⟨rfl, HB11.out⟩
    · clear f1 f2 hE
      clear g1 g2 hG
      clear hz
      generalize turnL (turnL xs a b (fun a : Att => (⟨a.r, a.k, a.g, true⟩ : Att))) o e (fun _ => at_) = u at *
      generalize turnE (turnL xs a b (fun a : Att => (⟨a.r, a.k, a.g, true⟩ : Att))) o e = I at *
      generalize hlu : u.length = n_u at *
      have HL_u := Lib.hid hlu
      clear hlu
      generalize turnL (turnL xs o e fun _ => at_) a b (fun a : Att => (⟨a.r, a.k, a.g, true⟩ : Att)) = w_ at *
      generalize hlw : w_.length = n_w at *
      have HL_w := Lib.hid hlw
      clear hlw
      generalize turnE (turnL xs o e fun _ => at_) a b = K at *
      generalize turnE xs o e = J at *
      generalize turnL xs o e (fun _ => at_) = v at *
      generalize hlv : v.length = n_v at *
      have HL_v := Lib.hid hlv
      clear hlv
      generalize (turnL xs a b (fun a : Att => (⟨a.r, a.k, a.g, true⟩ : Att))) = s at *
      generalize hls : s.length = n_s at *
      have HL_s := Lib.hid hls
      clear hls
      generalize cutL xs a b = cc at *
      generalize hlc : cc.length = n_c at *
      have HL_c := Lib.hid hlc
      clear hlc
      have hI2 : (I != 0) = true := by rw [bne_iff_ne]; exact hI
      have hd1 : decide (o < b) = false := decide_eq_false h1
      go_enter Try.func6, Try.ntmps6
      go_wp2_with (first
      | (go_at_call 21; refine (HS3.out A_v c_v w9 R9_v.out).mono ?_; rintro e w10 ⟨v10, rfl, ho10, hb10⟩; obtain ⟨A_w, c_w, rfl, hr10⟩ := os_n ho10 n_w HL_w.out; clear ho10; have HB10 := Lib.hid (HB9.out.trans (hb10.mono HB9.out.size)); have KB10 := Lib.hid (KB9.out.trans (hb10.mono KB9.out.size)); have R10_s := Lib.hid (R9_s.out.on hb10 (Nat.le_refl _)); have R10_t := Lib.hid (R9_t.out.on hb10 (Nat.le_refl _)); have R10_c := Lib.hid (R9_c.out.on hb10 (Nat.le_refl _)); have R10_d := Lib.hid (R9_d.out.on hb10 (Nat.le_refl _)); have R10_u := Lib.hid (R9_u.out.on hb10 (Nat.le_refl _)); have R10_v := Lib.hid (R9_v.out.on hb10 (Nat.le_refl _)); have R10_w := Lib.hid hr10; clear hr10; clear hb10)
      | (go_at_call 19; refine (HT2.out w8 HB8.out).mono ?_; rintro e w9 ⟨v9, rfl, ho9, hb9⟩; obtain ⟨A_v, c_v, rfl, hr9⟩ := os_n ho9 n_v HL_v.out; clear ho9; have HB9 := Lib.hid (HB8.out.trans (hb9.mono HB8.out.size)); have KB9 := Lib.hid (KB8.out.trans (hb9.mono KB8.out.size)); have R9_s := Lib.hid (R8_s.out.on hb9 (Nat.le_refl _)); have R9_t := Lib.hid (R8_t.out.on hb9 (Nat.le_refl _)); have R9_c := Lib.hid (R8_c.out.on hb9 (Nat.le_refl _)); have R9_d := Lib.hid (R8_d.out.on hb9 (Nat.le_refl _)); have R9_u := Lib.hid (R8_u.out.on hb9 (Nat.le_refl _)); have R9_v := Lib.hid hr9; clear hr9; clear hb9)
      | (go_at_call 19; refine (HT1.out A_s c_s w7 R7_s.out).mono ?_; rintro e w8 ⟨v8, rfl, ho8, hb8⟩; obtain ⟨A_u, c_u, rfl, hr8⟩ := os_n ho8 n_u HL_u.out; clear ho8; have HB8 := Lib.hid (HB7.out.trans (hb8.mono HB7.out.size)); have KB8 := Lib.hid (KB7.out.trans (hb8.mono KB7.out.size)); have R8_s := Lib.hid (R7_s.out.on hb8 (Nat.le_refl _)); have R8_t := Lib.hid (R7_t.out.on hb8 (Nat.le_refl _)); have R8_c := Lib.hid (R7_c.out.on hb8 (Nat.le_refl _)); have R8_d := Lib.hid (R7_d.out.on hb8 (Nat.le_refl _)); have R8_u := Lib.hid hr8; clear hr8; clear hb8; have bc8_0 : w8.cell? ⟨w.heap.size, 0, none⟩ = some (.int .i64 at_.r) := (KB8.out.cell (p := ⟨w.heap.size, 0, none⟩) (by simp)).trans (by simp [go_sem]); have bc8_1 : w8.cell? ⟨w.heap.size, 1, none⟩ = some (.int .i64 at_.k) := (KB8.out.cell (p := ⟨w.heap.size, 1, none⟩) (by simp)).trans (by simp [go_sem]); have bc8_2 : w8.cell? ⟨w.heap.size, 2, none⟩ = some (.bool at_.g) := (KB8.out.cell (p := ⟨w.heap.size, 2, none⟩) (by simp)).trans (by simp [go_sem]); have bc8_3 : w8.cell? ⟨w.heap.size, 3, none⟩ = some (.bool at_.s) := (KB8.out.cell (p := ⟨w.heap.size, 3, none⟩) (by simp)).trans (by simp [go_sem]))
      | (go_at_call 16; refine (HEQ2.out A_c c_c A_d c_d w6 R6_c.out R6_d.out).mono ?_; rintro e w7 ⟨rfl, hb7⟩; have HB7 := Lib.hid (HB6.out.trans (hb7.mono HB6.out.size)); have KB7 := Lib.hid (KB6.out.trans (hb7.mono KB6.out.size)); have R7_s := Lib.hid (R6_s.out.on hb7 (Nat.le_refl _)); have R7_t := Lib.hid (R6_t.out.on hb7 (Nat.le_refl _)); have R7_c := Lib.hid (R6_c.out.on hb7 (Nat.le_refl _)); have R7_d := Lib.hid (R6_d.out.on hb7 (Nat.le_refl _)); clear hb7; have bc7_0 : w7.cell? ⟨w.heap.size, 0, none⟩ = some (.int .i64 at_.r) := (KB7.out.cell (p := ⟨w.heap.size, 0, none⟩) (by simp)).trans (by simp [go_sem]); have bc7_1 : w7.cell? ⟨w.heap.size, 1, none⟩ = some (.int .i64 at_.k) := (KB7.out.cell (p := ⟨w.heap.size, 1, none⟩) (by simp)).trans (by simp [go_sem]); have bc7_2 : w7.cell? ⟨w.heap.size, 2, none⟩ = some (.bool at_.g) := (KB7.out.cell (p := ⟨w.heap.size, 2, none⟩) (by simp)).trans (by simp [go_sem]); have bc7_3 : w7.cell? ⟨w.heap.size, 3, none⟩ = some (.bool at_.s) := (KB7.out.cell (p := ⟨w.heap.size, 3, none⟩) (by simp)).trans (by simp [go_sem]))
      | (go_at_call 16; refine (HEQ1.out A_s c_s A_t c_t w5 R5_s.out R5_t.out).mono ?_; rintro e w6 ⟨rfl, hb6⟩; have HB6 := Lib.hid (HB5.out.trans (hb6.mono HB5.out.size)); have KB6 := Lib.hid (KB5.out.trans (hb6.mono KB5.out.size)); have R6_s := Lib.hid (R5_s.out.on hb6 (Nat.le_refl _)); have R6_t := Lib.hid (R5_t.out.on hb6 (Nat.le_refl _)); have R6_c := Lib.hid (R5_c.out.on hb6 (Nat.le_refl _)); have R6_d := Lib.hid (R5_d.out.on hb6 (Nat.le_refl _)); clear hb6)
      | (go_at_call 14; refine (HC2.out A_c c_c w4 R4_c.out).mono ?_; rintro e w5 ⟨v5, rfl, ho5, hb5⟩; obtain ⟨A_d, c_d, rfl, hr5⟩ := os_n ho5 n_c HL_c.out; clear ho5; have HB5 := Lib.hid (HB4.out.trans (hb5.mono HB4.out.size)); have KB5 := Lib.hid (KB4.out.trans (hb5.mono KB4.out.size)); have R5_s := Lib.hid (R4_s.out.on hb5 (Nat.le_refl _)); have R5_t := Lib.hid (R4_t.out.on hb5 (Nat.le_refl _)); have R5_c := Lib.hid (R4_c.out.on hb5 (Nat.le_refl _)); have R5_d := Lib.hid hr5; clear hr5; clear hb5)
      | (go_at_call 14; refine (HC1.out w3 HB3.out).mono ?_; rintro e w4 ⟨v4, rfl, ho4, hb4⟩; obtain ⟨A_c, c_c, rfl, hr4⟩ := os_n ho4 n_c HL_c.out; clear ho4; have HB4 := Lib.hid (HB3.out.trans (hb4.mono HB3.out.size)); have KB4 := Lib.hid (KB3.out.trans (hb4.mono KB3.out.size)); have R4_s := Lib.hid (R3_s.out.on hb4 (Nat.le_refl _)); have R4_t := Lib.hid (R3_t.out.on hb4 (Nat.le_refl _)); have R4_c := Lib.hid hr4; clear hr4; clear hb4)
      | (go_at_call 21; refine (HS2.out A_s c_s w2 R2_s.out).mono ?_; rintro e w3 ⟨v3, rfl, ho3, hb3⟩; obtain ⟨A_t, c_t, rfl, hr3⟩ := os_n ho3 n_s HL_s.out; clear ho3; have HB3 := Lib.hid (HB2.out.trans (hb3.mono HB2.out.size)); have KB3 := Lib.hid (KB2.out.trans (hb3.mono KB2.out.size)); have R3_s := Lib.hid (R2_s.out.on hb3 (Nat.le_refl _)); have R3_t := Lib.hid hr3; clear hr3; clear hb3)
      | (go_at_call 21; refine (HS1.out w1 HB1.out).mono ?_; rintro e w2 ⟨v2, rfl, ho2, hb2⟩; obtain ⟨A_s, c_s, rfl, hr2⟩ := os_n ho2 n_s HL_s.out; clear ho2; have HB2 := Lib.hid (HB1.out.trans (hb2.mono HB1.out.size)); have KB2 := Lib.hid (KB1.out.trans (hb2.mono KB1.out.size)); have R2_s := Lib.hid hr2; clear hr2; clear hb2)
      | (go_at_call 25; refine (alive8_any _).mono ?_; rintro e w1 ⟨rfl, hb1⟩; have HB1 := Lib.hid (HB0.out.trans (hb1.mono (by simp))); have KB1 := Lib.hid hb1; clear hb1))
      go_ret
      exact ⟨rfl, HB10.out⟩
set_option maxHeartbeats 8000000 in
set_option maxRecDepth 100000 in
theorem once_10 (A : Option Addr) (n c : Nat) (xs : List Rgn) (w : World) (hz : Rw fR 6 w w.heap.size A n xs) (hbig : n ≤ 140737488355328) (a b o e : Int) (at_ : Att) (hE : turnE xs a b = 0) (hG : cutE xs a b ≠ 0) :
    Calls Try.prog 6 #[.slice A n c, .int .i64 a, .int .i64 b, .int .i64 o, .int .i64 e, .agg #[.int .i64 at_.r, .int .i64 at_.k, .bool at_.g, .bool at_.s]] w fun e w' => e = .returned (.bool true) ∧ Below w.heap.size w w' := by
  have HB0 := Lib.hid ((Below.refl w.heap.size w).alloc (Nat.le_refl _) (.cells #[.int .i64 at_.r, .int .i64 at_.k, .bool at_.g, .bool at_.s] 24))
  have HS1 := Lib.hid (fun w1 (h1 : Below w.heap.size w w1) => Seal_any A n c xs a b w1 w.heap.size (hz.below h1) h1.size hbig)
  have HS2 := Lib.hid (fun A2 c2 w2 (h : Rw fR 6 w2 w2.heap.size A2 (turnL xs a b (fun a : Att => (⟨a.r, a.k, a.g, true⟩ : Att))).length (turnL xs a b (fun a : Att => (⟨a.r, a.k, a.g, true⟩ : Att)))) => Seal_any A2 _ c2 _ a b w2 _ h (Nat.le_refl _) (Nat.le_trans turnL_len (by decide)))
  have HC1 := Lib.hid (fun w1 (h1 : Below w.heap.size w w1) => rcut_any A n c xs a b w1 w.heap.size (hz.below h1) h1.size hbig)
  have HC2 := Lib.hid (fun A2 c2 w2 (h : Rw fR 6 w2 w2.heap.size A2 (cutL xs a b).length (cutL xs a b)) => rcut_any A2 _ c2 _ a b w2 _ h (Nat.le_refl _) (Nat.le_trans (cutL_len _ _ _) (by decide)))
  have HT1 := Lib.hid (fun A2 c2 w2 (h : Rw fR 6 w2 w2.heap.size A2 (turnL xs a b (fun a : Att => (⟨a.r, a.k, a.g, true⟩ : Att))).length (turnL xs a b (fun a : Att => (⟨a.r, a.k, a.g, true⟩ : Att)))) => Turn_any A2 _ c2 _ o e at_ w2 _ h (Nat.le_refl _) (Nat.le_trans turnL_len (by decide)))
  have HT2 := Lib.hid (fun w1 (h1 : Below w.heap.size w w1) => Turn_any A n c xs o e at_ w1 w.heap.size (hz.below h1) h1.size hbig)
  have HS3 := Lib.hid (fun A2 c2 w2 (h : Rw fR 6 w2 w2.heap.size A2 (turnL xs o e fun _ => at_).length (turnL xs o e fun _ => at_)) => Seal_any A2 _ c2 _ a b w2 _ h (Nat.le_refl _) (Nat.le_trans turnL_len (by decide)))
  obtain ⟨f1, f2⟩ := once_turn (f := (fun a : Att => (⟨a.r, a.k, a.g, true⟩ : Att))) hE (fun _ => rfl)
  rw [f1, f2] at HS2
  have HEQ1 := Lib.hid (fun A1 c1 A2 c2 w1 (h1 : Rw fR 6 w1 w1.heap.size A1 (turnL xs a b (fun a : Att => (⟨a.r, a.k, a.g, true⟩ : Att))).length (turnL xs a b (fun a : Att => (⟨a.r, a.k, a.g, true⟩ : Att)))) (h2 : Rw fR 6 w1 w1.heap.size A2 (turnL xs a b (fun a : Att => (⟨a.r, a.k, a.g, true⟩ : Att))).length (turnL xs a b (fun a : Att => (⟨a.r, a.k, a.g, true⟩ : Att)))) => eq_yes A1 A2 _ c1 c2 (turnL xs a b (fun a : Att => (⟨a.r, a.k, a.g, true⟩ : Att))) w1 h1 h2 (turnL_len))
  rw [hE] at HS1
  by_cases h1 : o < b
  · by_cases h2 : a < e
    · clear f1 f2 hE
      clear hz
      generalize turnL (turnL xs a b (fun a : Att => (⟨a.r, a.k, a.g, true⟩ : Att))) o e (fun _ => at_) = u at *
      generalize turnE (turnL xs a b (fun a : Att => (⟨a.r, a.k, a.g, true⟩ : Att))) o e = I at *
      generalize hlu : u.length = n_u at *
      have HL_u := Lib.hid hlu
      clear hlu
      generalize turnL (turnL xs o e fun _ => at_) a b (fun a : Att => (⟨a.r, a.k, a.g, true⟩ : Att)) = w_ at *
      generalize hlw : w_.length = n_w at *
      have HL_w := Lib.hid hlw
      clear hlw
      generalize turnE (turnL xs o e fun _ => at_) a b = K at *
      generalize turnE xs o e = J at *
      generalize turnL xs o e (fun _ => at_) = v at *
      generalize hlv : v.length = n_v at *
      have HL_v := Lib.hid hlv
      clear hlv
      generalize (turnL xs a b (fun a : Att => (⟨a.r, a.k, a.g, true⟩ : Att))) = s at *
      generalize hls : s.length = n_s at *
      have HL_s := Lib.hid hls
      clear hls
      generalize cutL (cutL xs a b) a b = d at *
      generalize cutE (cutL xs a b) a b = H at *
      generalize hld : d.length = n_d at *
      have HL_d := Lib.hid hld
      clear hld
      generalize cutE xs a b = G at *
      generalize cutL xs a b = cc at *
      generalize hlc : cc.length = n_c at *
      have HL_c := Lib.hid hlc
      clear hlc
      have hG1 : (G == 0) = false := by rw [beq_eq_false_iff_ne]; exact hG
      have hd1 : decide (o < b) = true := decide_eq_true h1
      have hd2 : decide (a < e) = true := decide_eq_true h2
      go_enter Try.func6, Try.ntmps6
      go_wp2_with (first
      | (go_at_call 16; refine (HEQ1.out A_s c_s A_t c_t w5 R5_s.out R5_t.out).mono ?_; rintro e w6 ⟨rfl, hb6⟩; have HB6 := Lib.hid (HB5.out.trans (hb6.mono HB5.out.size)); have KB6 := Lib.hid (KB5.out.trans (hb6.mono KB5.out.size)); have R6_s := Lib.hid (R5_s.out.on hb6 (Nat.le_refl _)); have R6_t := Lib.hid (R5_t.out.on hb6 (Nat.le_refl _)); have R6_c := Lib.hid (R5_c.out.on hb6 (Nat.le_refl _)); have R6_d := Lib.hid (R5_d.out.on hb6 (Nat.le_refl _)); clear hb6)
      | (go_at_call 14; refine (HC2.out A_c c_c w4 R4_c.out).mono ?_; rintro e w5 ⟨v5, rfl, ho5, hb5⟩; obtain ⟨A_d, c_d, rfl, hr5⟩ := os_n ho5 n_d HL_d.out; clear ho5; have HB5 := Lib.hid (HB4.out.trans (hb5.mono HB4.out.size)); have KB5 := Lib.hid (KB4.out.trans (hb5.mono KB4.out.size)); have R5_s := Lib.hid (R4_s.out.on hb5 (Nat.le_refl _)); have R5_t := Lib.hid (R4_t.out.on hb5 (Nat.le_refl _)); have R5_c := Lib.hid (R4_c.out.on hb5 (Nat.le_refl _)); have R5_d := Lib.hid hr5; clear hr5; clear hb5)
      | (go_at_call 14; refine (HC1.out w3 HB3.out).mono ?_; rintro e w4 ⟨v4, rfl, ho4, hb4⟩; obtain ⟨A_c, c_c, rfl, hr4⟩ := os_n ho4 n_c HL_c.out; clear ho4; have HB4 := Lib.hid (HB3.out.trans (hb4.mono HB3.out.size)); have KB4 := Lib.hid (KB3.out.trans (hb4.mono KB3.out.size)); have R4_s := Lib.hid (R3_s.out.on hb4 (Nat.le_refl _)); have R4_t := Lib.hid (R3_t.out.on hb4 (Nat.le_refl _)); have R4_c := Lib.hid hr4; clear hr4; clear hb4)
      | (go_at_call 21; refine (HS2.out A_s c_s w2 R2_s.out).mono ?_; rintro e w3 ⟨v3, rfl, ho3, hb3⟩; obtain ⟨A_t, c_t, rfl, hr3⟩ := os_n ho3 n_s HL_s.out; clear ho3; have HB3 := Lib.hid (HB2.out.trans (hb3.mono HB2.out.size)); have KB3 := Lib.hid (KB2.out.trans (hb3.mono KB2.out.size)); have R3_s := Lib.hid (R2_s.out.on hb3 (Nat.le_refl _)); have R3_t := Lib.hid hr3; clear hr3; clear hb3)
      | (go_at_call 21; refine (HS1.out w1 HB1.out).mono ?_; rintro e w2 ⟨v2, rfl, ho2, hb2⟩; obtain ⟨A_s, c_s, rfl, hr2⟩ := os_n ho2 n_s HL_s.out; clear ho2; have HB2 := Lib.hid (HB1.out.trans (hb2.mono HB1.out.size)); have KB2 := Lib.hid (KB1.out.trans (hb2.mono KB1.out.size)); have R2_s := Lib.hid hr2; clear hr2; clear hb2)
      | (go_at_call 25; refine (alive8_any _).mono ?_; rintro e w1 ⟨rfl, hb1⟩; have HB1 := Lib.hid (HB0.out.trans (hb1.mono (by simp))); have KB1 := Lib.hid hb1; clear hb1))
      go_ret
      exact ⟨rfl, HB6.out⟩
    · by_cases hI : turnE (turnL xs a b (fun a : Att => (⟨a.r, a.k, a.g, true⟩ : Att))) o e = 0
      · have hap : b ≤ o ∨ e ≤ a := .inr (by omega)
        obtain ⟨k1, k2, k3⟩ := once_apart (f := (fun a : Att => (⟨a.r, a.k, a.g, true⟩ : Att))) (g := fun _ => at_) hE hI hap
        have HEQ3 := Lib.hid (fun A1 c1 A2 c2 w1 (h1 : Rw fR 6 w1 w1.heap.size A1 (turnL (turnL xs o e fun _ => at_) a b (fun a : Att => (⟨a.r, a.k, a.g, true⟩ : Att))).length (turnL (turnL xs o e fun _ => at_) a b (fun a : Att => (⟨a.r, a.k, a.g, true⟩ : Att)))) (h2 : Rw fR 6 w1 w1.heap.size A2 (turnL (turnL xs o e fun _ => at_) a b (fun a : Att => (⟨a.r, a.k, a.g, true⟩ : Att))).length (turnL (turnL xs o e fun _ => at_) a b (fun a : Att => (⟨a.r, a.k, a.g, true⟩ : Att)))) => eq_yes A1 A2 _ c1 c2 (turnL (turnL xs o e fun _ => at_) a b (fun a : Att => (⟨a.r, a.k, a.g, true⟩ : Att))) w1 h1 h2 (turnL_len))
        rw [k3, hI] at HT1
        rw [k1] at HT2
        rw [k2] at HS3
        clear k1 k2 k3 hI
        clear f1 f2 hE
        clear hz
        generalize turnL (turnL xs o e fun _ => at_) a b (fun a : Att => (⟨a.r, a.k, a.g, true⟩ : Att)) = w_ at *
        generalize hlw : w_.length = n_w at *
        have HL_w := Lib.hid hlw
        clear hlw
        generalize turnL xs o e (fun _ => at_) = v at *
        generalize hlv : v.length = n_v at *
        have HL_v := Lib.hid hlv
        clear hlv
        generalize (turnL xs a b (fun a : Att => (⟨a.r, a.k, a.g, true⟩ : Att))) = s at *
        generalize hls : s.length = n_s at *
        have HL_s := Lib.hid hls
        clear hls
        generalize cutL (cutL xs a b) a b = d at *
        generalize cutE (cutL xs a b) a b = H at *
        generalize hld : d.length = n_d at *
        have HL_d := Lib.hid hld
        clear hld
        generalize cutE xs a b = G at *
        generalize cutL xs a b = cc at *
        generalize hlc : cc.length = n_c at *
        have HL_c := Lib.hid hlc
        clear hlc
        have hG1 : (G == 0) = false := by rw [beq_eq_false_iff_ne]; exact hG
        have hd1 : decide (o < b) = true := decide_eq_true h1
        have hd2 : decide (a < e) = false := decide_eq_false h2
        go_enter Try.func6, Try.ntmps6
        go_wp2_with (first
        | (go_at_call 16; refine (HEQ3.out A_u c_u A_w c_w w9 R9_u.out R9_w.out).mono ?_; rintro e w10 ⟨rfl, hb10⟩; have HB10 := Lib.hid (HB9.out.trans (hb10.mono HB9.out.size)); have KB10 := Lib.hid (KB9.out.trans (hb10.mono KB9.out.size)); have R10_s := Lib.hid (R9_s.out.on hb10 (Nat.le_refl _)); have R10_t := Lib.hid (R9_t.out.on hb10 (Nat.le_refl _)); have R10_c := Lib.hid (R9_c.out.on hb10 (Nat.le_refl _)); have R10_d := Lib.hid (R9_d.out.on hb10 (Nat.le_refl _)); have R10_u := Lib.hid (R9_u.out.on hb10 (Nat.le_refl _)); have R10_v := Lib.hid (R9_v.out.on hb10 (Nat.le_refl _)); have R10_w := Lib.hid (R9_w.out.on hb10 (Nat.le_refl _)); clear hb10)
        | (go_at_call 21; refine (HS3.out A_v c_v w8 R8_v.out).mono ?_; rintro e w9 ⟨v9, rfl, ho9, hb9⟩; obtain ⟨A_w, c_w, rfl, hr9⟩ := os_n ho9 n_w HL_w.out; clear ho9; have HB9 := Lib.hid (HB8.out.trans (hb9.mono HB8.out.size)); have KB9 := Lib.hid (KB8.out.trans (hb9.mono KB8.out.size)); have R9_s := Lib.hid (R8_s.out.on hb9 (Nat.le_refl _)); have R9_t := Lib.hid (R8_t.out.on hb9 (Nat.le_refl _)); have R9_c := Lib.hid (R8_c.out.on hb9 (Nat.le_refl _)); have R9_d := Lib.hid (R8_d.out.on hb9 (Nat.le_refl _)); have R9_u := Lib.hid (R8_u.out.on hb9 (Nat.le_refl _)); have R9_v := Lib.hid (R8_v.out.on hb9 (Nat.le_refl _)); have R9_w := Lib.hid hr9; clear hr9; clear hb9)
        | (go_at_call 19; refine (HT2.out w7 HB7.out).mono ?_; rintro e w8 ⟨v8, rfl, ho8, hb8⟩; obtain ⟨A_v, c_v, rfl, hr8⟩ := os_n ho8 n_v HL_v.out; clear ho8; have HB8 := Lib.hid (HB7.out.trans (hb8.mono HB7.out.size)); have KB8 := Lib.hid (KB7.out.trans (hb8.mono KB7.out.size)); have R8_s := Lib.hid (R7_s.out.on hb8 (Nat.le_refl _)); have R8_t := Lib.hid (R7_t.out.on hb8 (Nat.le_refl _)); have R8_c := Lib.hid (R7_c.out.on hb8 (Nat.le_refl _)); have R8_d := Lib.hid (R7_d.out.on hb8 (Nat.le_refl _)); have R8_u := Lib.hid (R7_u.out.on hb8 (Nat.le_refl _)); have R8_v := Lib.hid hr8; clear hr8; clear hb8)
        | (go_at_call 19; refine (HT1.out A_s c_s w6 R6_s.out).mono ?_; rintro e w7 ⟨v7, rfl, ho7, hb7⟩; obtain ⟨A_u, c_u, rfl, hr7⟩ := os_n ho7 n_w HL_w.out; clear ho7; have HB7 := Lib.hid (HB6.out.trans (hb7.mono HB6.out.size)); have KB7 := Lib.hid (KB6.out.trans (hb7.mono KB6.out.size)); have R7_s := Lib.hid (R6_s.out.on hb7 (Nat.le_refl _)); have R7_t := Lib.hid (R6_t.out.on hb7 (Nat.le_refl _)); have R7_c := Lib.hid (R6_c.out.on hb7 (Nat.le_refl _)); have R7_d := Lib.hid (R6_d.out.on hb7 (Nat.le_refl _)); have R7_u := Lib.hid hr7; clear hr7; clear hb7; have bc7_0 : w7.cell? ⟨w.heap.size, 0, none⟩ = some (.int .i64 at_.r) := (KB7.out.cell (p := ⟨w.heap.size, 0, none⟩) (by simp)).trans (by simp [go_sem]); have bc7_1 : w7.cell? ⟨w.heap.size, 1, none⟩ = some (.int .i64 at_.k) := (KB7.out.cell (p := ⟨w.heap.size, 1, none⟩) (by simp)).trans (by simp [go_sem]); have bc7_2 : w7.cell? ⟨w.heap.size, 2, none⟩ = some (.bool at_.g) := (KB7.out.cell (p := ⟨w.heap.size, 2, none⟩) (by simp)).trans (by simp [go_sem]); have bc7_3 : w7.cell? ⟨w.heap.size, 3, none⟩ = some (.bool at_.s) := (KB7.out.cell (p := ⟨w.heap.size, 3, none⟩) (by simp)).trans (by simp [go_sem]))
        | (go_at_call 16; refine (HEQ1.out A_s c_s A_t c_t w5 R5_s.out R5_t.out).mono ?_; rintro e w6 ⟨rfl, hb6⟩; have HB6 := Lib.hid (HB5.out.trans (hb6.mono HB5.out.size)); have KB6 := Lib.hid (KB5.out.trans (hb6.mono KB5.out.size)); have R6_s := Lib.hid (R5_s.out.on hb6 (Nat.le_refl _)); have R6_t := Lib.hid (R5_t.out.on hb6 (Nat.le_refl _)); have R6_c := Lib.hid (R5_c.out.on hb6 (Nat.le_refl _)); have R6_d := Lib.hid (R5_d.out.on hb6 (Nat.le_refl _)); clear hb6; have bc6_0 : w6.cell? ⟨w.heap.size, 0, none⟩ = some (.int .i64 at_.r) := (KB6.out.cell (p := ⟨w.heap.size, 0, none⟩) (by simp)).trans (by simp [go_sem]); have bc6_1 : w6.cell? ⟨w.heap.size, 1, none⟩ = some (.int .i64 at_.k) := (KB6.out.cell (p := ⟨w.heap.size, 1, none⟩) (by simp)).trans (by simp [go_sem]); have bc6_2 : w6.cell? ⟨w.heap.size, 2, none⟩ = some (.bool at_.g) := (KB6.out.cell (p := ⟨w.heap.size, 2, none⟩) (by simp)).trans (by simp [go_sem]); have bc6_3 : w6.cell? ⟨w.heap.size, 3, none⟩ = some (.bool at_.s) := (KB6.out.cell (p := ⟨w.heap.size, 3, none⟩) (by simp)).trans (by simp [go_sem]))
        | (go_at_call 14; refine (HC2.out A_c c_c w4 R4_c.out).mono ?_; rintro e w5 ⟨v5, rfl, ho5, hb5⟩; obtain ⟨A_d, c_d, rfl, hr5⟩ := os_n ho5 n_d HL_d.out; clear ho5; have HB5 := Lib.hid (HB4.out.trans (hb5.mono HB4.out.size)); have KB5 := Lib.hid (KB4.out.trans (hb5.mono KB4.out.size)); have R5_s := Lib.hid (R4_s.out.on hb5 (Nat.le_refl _)); have R5_t := Lib.hid (R4_t.out.on hb5 (Nat.le_refl _)); have R5_c := Lib.hid (R4_c.out.on hb5 (Nat.le_refl _)); have R5_d := Lib.hid hr5; clear hr5; clear hb5)
        | (go_at_call 14; refine (HC1.out w3 HB3.out).mono ?_; rintro e w4 ⟨v4, rfl, ho4, hb4⟩; obtain ⟨A_c, c_c, rfl, hr4⟩ := os_n ho4 n_c HL_c.out; clear ho4; have HB4 := Lib.hid (HB3.out.trans (hb4.mono HB3.out.size)); have KB4 := Lib.hid (KB3.out.trans (hb4.mono KB3.out.size)); have R4_s := Lib.hid (R3_s.out.on hb4 (Nat.le_refl _)); have R4_t := Lib.hid (R3_t.out.on hb4 (Nat.le_refl _)); have R4_c := Lib.hid hr4; clear hr4; clear hb4)
        | (go_at_call 21; refine (HS2.out A_s c_s w2 R2_s.out).mono ?_; rintro e w3 ⟨v3, rfl, ho3, hb3⟩; obtain ⟨A_t, c_t, rfl, hr3⟩ := os_n ho3 n_s HL_s.out; clear ho3; have HB3 := Lib.hid (HB2.out.trans (hb3.mono HB2.out.size)); have KB3 := Lib.hid (KB2.out.trans (hb3.mono KB2.out.size)); have R3_s := Lib.hid (R2_s.out.on hb3 (Nat.le_refl _)); have R3_t := Lib.hid hr3; clear hr3; clear hb3)
        | (go_at_call 21; refine (HS1.out w1 HB1.out).mono ?_; rintro e w2 ⟨v2, rfl, ho2, hb2⟩; obtain ⟨A_s, c_s, rfl, hr2⟩ := os_n ho2 n_s HL_s.out; clear ho2; have HB2 := Lib.hid (HB1.out.trans (hb2.mono HB1.out.size)); have KB2 := Lib.hid (KB1.out.trans (hb2.mono KB1.out.size)); have R2_s := Lib.hid hr2; clear hr2; clear hb2)
        | (go_at_call 25; refine (alive8_any _).mono ?_; rintro e w1 ⟨rfl, hb1⟩; have HB1 := Lib.hid (HB0.out.trans (hb1.mono (by simp))); have KB1 := Lib.hid hb1; clear hb1))
        go_ret
        exact ⟨rfl, HB10.out⟩
      · clear f1 f2 hE
        clear hz
        generalize turnL (turnL xs a b (fun a : Att => (⟨a.r, a.k, a.g, true⟩ : Att))) o e (fun _ => at_) = u at *
        generalize turnE (turnL xs a b (fun a : Att => (⟨a.r, a.k, a.g, true⟩ : Att))) o e = I at *
        generalize hlu : u.length = n_u at *
        have HL_u := Lib.hid hlu
        clear hlu
        generalize turnL (turnL xs o e fun _ => at_) a b (fun a : Att => (⟨a.r, a.k, a.g, true⟩ : Att)) = w_ at *
        generalize hlw : w_.length = n_w at *
        have HL_w := Lib.hid hlw
        clear hlw
        generalize turnE (turnL xs o e fun _ => at_) a b = K at *
        generalize turnE xs o e = J at *
        generalize turnL xs o e (fun _ => at_) = v at *
        generalize hlv : v.length = n_v at *
        have HL_v := Lib.hid hlv
        clear hlv
        generalize (turnL xs a b (fun a : Att => (⟨a.r, a.k, a.g, true⟩ : Att))) = s at *
        generalize hls : s.length = n_s at *
        have HL_s := Lib.hid hls
        clear hls
        generalize cutL (cutL xs a b) a b = d at *
        generalize cutE (cutL xs a b) a b = H at *
        generalize hld : d.length = n_d at *
        have HL_d := Lib.hid hld
        clear hld
        generalize cutE xs a b = G at *
        generalize cutL xs a b = cc at *
        generalize hlc : cc.length = n_c at *
        have HL_c := Lib.hid hlc
        clear hlc
        have hG1 : (G == 0) = false := by rw [beq_eq_false_iff_ne]; exact hG
        have hI2 : (I != 0) = true := by rw [bne_iff_ne]; exact hI
        have hd1 : decide (o < b) = true := decide_eq_true h1
        have hd2 : decide (a < e) = false := decide_eq_false h2
        go_enter Try.func6, Try.ntmps6
        go_wp2_with (first
        | (go_at_call 21; refine (HS3.out A_v c_v w8 R8_v.out).mono ?_; rintro e w9 ⟨v9, rfl, ho9, hb9⟩; obtain ⟨A_w, c_w, rfl, hr9⟩ := os_n ho9 n_w HL_w.out; clear ho9; have HB9 := Lib.hid (HB8.out.trans (hb9.mono HB8.out.size)); have KB9 := Lib.hid (KB8.out.trans (hb9.mono KB8.out.size)); have R9_s := Lib.hid (R8_s.out.on hb9 (Nat.le_refl _)); have R9_t := Lib.hid (R8_t.out.on hb9 (Nat.le_refl _)); have R9_c := Lib.hid (R8_c.out.on hb9 (Nat.le_refl _)); have R9_d := Lib.hid (R8_d.out.on hb9 (Nat.le_refl _)); have R9_u := Lib.hid (R8_u.out.on hb9 (Nat.le_refl _)); have R9_v := Lib.hid (R8_v.out.on hb9 (Nat.le_refl _)); have R9_w := Lib.hid hr9; clear hr9; clear hb9)
        | (go_at_call 19; refine (HT2.out w7 HB7.out).mono ?_; rintro e w8 ⟨v8, rfl, ho8, hb8⟩; obtain ⟨A_v, c_v, rfl, hr8⟩ := os_n ho8 n_v HL_v.out; clear ho8; have HB8 := Lib.hid (HB7.out.trans (hb8.mono HB7.out.size)); have KB8 := Lib.hid (KB7.out.trans (hb8.mono KB7.out.size)); have R8_s := Lib.hid (R7_s.out.on hb8 (Nat.le_refl _)); have R8_t := Lib.hid (R7_t.out.on hb8 (Nat.le_refl _)); have R8_c := Lib.hid (R7_c.out.on hb8 (Nat.le_refl _)); have R8_d := Lib.hid (R7_d.out.on hb8 (Nat.le_refl _)); have R8_u := Lib.hid (R7_u.out.on hb8 (Nat.le_refl _)); have R8_v := Lib.hid hr8; clear hr8; clear hb8)
        | (go_at_call 19; refine (HT1.out A_s c_s w6 R6_s.out).mono ?_; rintro e w7 ⟨v7, rfl, ho7, hb7⟩; obtain ⟨A_u, c_u, rfl, hr7⟩ := os_n ho7 n_u HL_u.out; clear ho7; have HB7 := Lib.hid (HB6.out.trans (hb7.mono HB6.out.size)); have KB7 := Lib.hid (KB6.out.trans (hb7.mono KB6.out.size)); have R7_s := Lib.hid (R6_s.out.on hb7 (Nat.le_refl _)); have R7_t := Lib.hid (R6_t.out.on hb7 (Nat.le_refl _)); have R7_c := Lib.hid (R6_c.out.on hb7 (Nat.le_refl _)); have R7_d := Lib.hid (R6_d.out.on hb7 (Nat.le_refl _)); have R7_u := Lib.hid hr7; clear hr7; clear hb7; have bc7_0 : w7.cell? ⟨w.heap.size, 0, none⟩ = some (.int .i64 at_.r) := (KB7.out.cell (p := ⟨w.heap.size, 0, none⟩) (by simp)).trans (by simp [go_sem]); have bc7_1 : w7.cell? ⟨w.heap.size, 1, none⟩ = some (.int .i64 at_.k) := (KB7.out.cell (p := ⟨w.heap.size, 1, none⟩) (by simp)).trans (by simp [go_sem]); have bc7_2 : w7.cell? ⟨w.heap.size, 2, none⟩ = some (.bool at_.g) := (KB7.out.cell (p := ⟨w.heap.size, 2, none⟩) (by simp)).trans (by simp [go_sem]); have bc7_3 : w7.cell? ⟨w.heap.size, 3, none⟩ = some (.bool at_.s) := (KB7.out.cell (p := ⟨w.heap.size, 3, none⟩) (by simp)).trans (by simp [go_sem]))
        | (go_at_call 16; refine (HEQ1.out A_s c_s A_t c_t w5 R5_s.out R5_t.out).mono ?_; rintro e w6 ⟨rfl, hb6⟩; have HB6 := Lib.hid (HB5.out.trans (hb6.mono HB5.out.size)); have KB6 := Lib.hid (KB5.out.trans (hb6.mono KB5.out.size)); have R6_s := Lib.hid (R5_s.out.on hb6 (Nat.le_refl _)); have R6_t := Lib.hid (R5_t.out.on hb6 (Nat.le_refl _)); have R6_c := Lib.hid (R5_c.out.on hb6 (Nat.le_refl _)); have R6_d := Lib.hid (R5_d.out.on hb6 (Nat.le_refl _)); clear hb6; have bc6_0 : w6.cell? ⟨w.heap.size, 0, none⟩ = some (.int .i64 at_.r) := (KB6.out.cell (p := ⟨w.heap.size, 0, none⟩) (by simp)).trans (by simp [go_sem]); have bc6_1 : w6.cell? ⟨w.heap.size, 1, none⟩ = some (.int .i64 at_.k) := (KB6.out.cell (p := ⟨w.heap.size, 1, none⟩) (by simp)).trans (by simp [go_sem]); have bc6_2 : w6.cell? ⟨w.heap.size, 2, none⟩ = some (.bool at_.g) := (KB6.out.cell (p := ⟨w.heap.size, 2, none⟩) (by simp)).trans (by simp [go_sem]); have bc6_3 : w6.cell? ⟨w.heap.size, 3, none⟩ = some (.bool at_.s) := (KB6.out.cell (p := ⟨w.heap.size, 3, none⟩) (by simp)).trans (by simp [go_sem]))
        | (go_at_call 14; refine (HC2.out A_c c_c w4 R4_c.out).mono ?_; rintro e w5 ⟨v5, rfl, ho5, hb5⟩; obtain ⟨A_d, c_d, rfl, hr5⟩ := os_n ho5 n_d HL_d.out; clear ho5; have HB5 := Lib.hid (HB4.out.trans (hb5.mono HB4.out.size)); have KB5 := Lib.hid (KB4.out.trans (hb5.mono KB4.out.size)); have R5_s := Lib.hid (R4_s.out.on hb5 (Nat.le_refl _)); have R5_t := Lib.hid (R4_t.out.on hb5 (Nat.le_refl _)); have R5_c := Lib.hid (R4_c.out.on hb5 (Nat.le_refl _)); have R5_d := Lib.hid hr5; clear hr5; clear hb5)
        | (go_at_call 14; refine (HC1.out w3 HB3.out).mono ?_; rintro e w4 ⟨v4, rfl, ho4, hb4⟩; obtain ⟨A_c, c_c, rfl, hr4⟩ := os_n ho4 n_c HL_c.out; clear ho4; have HB4 := Lib.hid (HB3.out.trans (hb4.mono HB3.out.size)); have KB4 := Lib.hid (KB3.out.trans (hb4.mono KB3.out.size)); have R4_s := Lib.hid (R3_s.out.on hb4 (Nat.le_refl _)); have R4_t := Lib.hid (R3_t.out.on hb4 (Nat.le_refl _)); have R4_c := Lib.hid hr4; clear hr4; clear hb4)
        | (go_at_call 21; refine (HS2.out A_s c_s w2 R2_s.out).mono ?_; rintro e w3 ⟨v3, rfl, ho3, hb3⟩; obtain ⟨A_t, c_t, rfl, hr3⟩ := os_n ho3 n_s HL_s.out; clear ho3; have HB3 := Lib.hid (HB2.out.trans (hb3.mono HB2.out.size)); have KB3 := Lib.hid (KB2.out.trans (hb3.mono KB2.out.size)); have R3_s := Lib.hid (R2_s.out.on hb3 (Nat.le_refl _)); have R3_t := Lib.hid hr3; clear hr3; clear hb3)
        | (go_at_call 21; refine (HS1.out w1 HB1.out).mono ?_; rintro e w2 ⟨v2, rfl, ho2, hb2⟩; obtain ⟨A_s, c_s, rfl, hr2⟩ := os_n ho2 n_s HL_s.out; clear ho2; have HB2 := Lib.hid (HB1.out.trans (hb2.mono HB1.out.size)); have KB2 := Lib.hid (KB1.out.trans (hb2.mono KB1.out.size)); have R2_s := Lib.hid hr2; clear hr2; clear hb2)
        | (go_at_call 25; refine (alive8_any _).mono ?_; rintro e w1 ⟨rfl, hb1⟩; have HB1 := Lib.hid (HB0.out.trans (hb1.mono (by simp))); have KB1 := Lib.hid hb1; clear hb1))
        go_ret
        exact ⟨rfl, HB9.out⟩
  · by_cases hI : turnE (turnL xs a b (fun a : Att => (⟨a.r, a.k, a.g, true⟩ : Att))) o e = 0
    · have hap : b ≤ o ∨ e ≤ a := .inl (by omega)
      obtain ⟨k1, k2, k3⟩ := once_apart (f := (fun a : Att => (⟨a.r, a.k, a.g, true⟩ : Att))) (g := fun _ => at_) hE hI hap
      have HEQ3 := Lib.hid (fun A1 c1 A2 c2 w1 (h1 : Rw fR 6 w1 w1.heap.size A1 (turnL (turnL xs o e fun _ => at_) a b (fun a : Att => (⟨a.r, a.k, a.g, true⟩ : Att))).length (turnL (turnL xs o e fun _ => at_) a b (fun a : Att => (⟨a.r, a.k, a.g, true⟩ : Att)))) (h2 : Rw fR 6 w1 w1.heap.size A2 (turnL (turnL xs o e fun _ => at_) a b (fun a : Att => (⟨a.r, a.k, a.g, true⟩ : Att))).length (turnL (turnL xs o e fun _ => at_) a b (fun a : Att => (⟨a.r, a.k, a.g, true⟩ : Att)))) => eq_yes A1 A2 _ c1 c2 (turnL (turnL xs o e fun _ => at_) a b (fun a : Att => (⟨a.r, a.k, a.g, true⟩ : Att))) w1 h1 h2 (turnL_len))
      rw [k3, hI] at HT1
      rw [k1] at HT2
      rw [k2] at HS3
      clear k1 k2 k3 hI
      clear f1 f2 hE
      clear hz
      generalize turnL (turnL xs o e fun _ => at_) a b (fun a : Att => (⟨a.r, a.k, a.g, true⟩ : Att)) = w_ at *
      generalize hlw : w_.length = n_w at *
      have HL_w := Lib.hid hlw
      clear hlw
      generalize turnL xs o e (fun _ => at_) = v at *
      generalize hlv : v.length = n_v at *
      have HL_v := Lib.hid hlv
      clear hlv
      generalize (turnL xs a b (fun a : Att => (⟨a.r, a.k, a.g, true⟩ : Att))) = s at *
      generalize hls : s.length = n_s at *
      have HL_s := Lib.hid hls
      clear hls
      generalize cutL (cutL xs a b) a b = d at *
      generalize cutE (cutL xs a b) a b = H at *
      generalize hld : d.length = n_d at *
      have HL_d := Lib.hid hld
      clear hld
      generalize cutE xs a b = G at *
      generalize cutL xs a b = cc at *
      generalize hlc : cc.length = n_c at *
      have HL_c := Lib.hid hlc
      clear hlc
      have hG1 : (G == 0) = false := by rw [beq_eq_false_iff_ne]; exact hG
      have hd1 : decide (o < b) = false := decide_eq_false h1
      go_enter Try.func6, Try.ntmps6
      go_wp2_with (first
      | (go_at_call 16; refine (HEQ3.out A_u c_u A_w c_w w9 R9_u.out R9_w.out).mono ?_; rintro e w10 ⟨rfl, hb10⟩; have HB10 := Lib.hid (HB9.out.trans (hb10.mono HB9.out.size)); have KB10 := Lib.hid (KB9.out.trans (hb10.mono KB9.out.size)); have R10_s := Lib.hid (R9_s.out.on hb10 (Nat.le_refl _)); have R10_t := Lib.hid (R9_t.out.on hb10 (Nat.le_refl _)); have R10_c := Lib.hid (R9_c.out.on hb10 (Nat.le_refl _)); have R10_d := Lib.hid (R9_d.out.on hb10 (Nat.le_refl _)); have R10_u := Lib.hid (R9_u.out.on hb10 (Nat.le_refl _)); have R10_v := Lib.hid (R9_v.out.on hb10 (Nat.le_refl _)); have R10_w := Lib.hid (R9_w.out.on hb10 (Nat.le_refl _)); clear hb10)
      | (go_at_call 21; refine (HS3.out A_v c_v w8 R8_v.out).mono ?_; rintro e w9 ⟨v9, rfl, ho9, hb9⟩; obtain ⟨A_w, c_w, rfl, hr9⟩ := os_n ho9 n_w HL_w.out; clear ho9; have HB9 := Lib.hid (HB8.out.trans (hb9.mono HB8.out.size)); have KB9 := Lib.hid (KB8.out.trans (hb9.mono KB8.out.size)); have R9_s := Lib.hid (R8_s.out.on hb9 (Nat.le_refl _)); have R9_t := Lib.hid (R8_t.out.on hb9 (Nat.le_refl _)); have R9_c := Lib.hid (R8_c.out.on hb9 (Nat.le_refl _)); have R9_d := Lib.hid (R8_d.out.on hb9 (Nat.le_refl _)); have R9_u := Lib.hid (R8_u.out.on hb9 (Nat.le_refl _)); have R9_v := Lib.hid (R8_v.out.on hb9 (Nat.le_refl _)); have R9_w := Lib.hid hr9; clear hr9; clear hb9)
      | (go_at_call 19; refine (HT2.out w7 HB7.out).mono ?_; rintro e w8 ⟨v8, rfl, ho8, hb8⟩; obtain ⟨A_v, c_v, rfl, hr8⟩ := os_n ho8 n_v HL_v.out; clear ho8; have HB8 := Lib.hid (HB7.out.trans (hb8.mono HB7.out.size)); have KB8 := Lib.hid (KB7.out.trans (hb8.mono KB7.out.size)); have R8_s := Lib.hid (R7_s.out.on hb8 (Nat.le_refl _)); have R8_t := Lib.hid (R7_t.out.on hb8 (Nat.le_refl _)); have R8_c := Lib.hid (R7_c.out.on hb8 (Nat.le_refl _)); have R8_d := Lib.hid (R7_d.out.on hb8 (Nat.le_refl _)); have R8_u := Lib.hid (R7_u.out.on hb8 (Nat.le_refl _)); have R8_v := Lib.hid hr8; clear hr8; clear hb8)
      | (go_at_call 19; refine (HT1.out A_s c_s w6 R6_s.out).mono ?_; rintro e w7 ⟨v7, rfl, ho7, hb7⟩; obtain ⟨A_u, c_u, rfl, hr7⟩ := os_n ho7 n_w HL_w.out; clear ho7; have HB7 := Lib.hid (HB6.out.trans (hb7.mono HB6.out.size)); have KB7 := Lib.hid (KB6.out.trans (hb7.mono KB6.out.size)); have R7_s := Lib.hid (R6_s.out.on hb7 (Nat.le_refl _)); have R7_t := Lib.hid (R6_t.out.on hb7 (Nat.le_refl _)); have R7_c := Lib.hid (R6_c.out.on hb7 (Nat.le_refl _)); have R7_d := Lib.hid (R6_d.out.on hb7 (Nat.le_refl _)); have R7_u := Lib.hid hr7; clear hr7; clear hb7; have bc7_0 : w7.cell? ⟨w.heap.size, 0, none⟩ = some (.int .i64 at_.r) := (KB7.out.cell (p := ⟨w.heap.size, 0, none⟩) (by simp)).trans (by simp [go_sem]); have bc7_1 : w7.cell? ⟨w.heap.size, 1, none⟩ = some (.int .i64 at_.k) := (KB7.out.cell (p := ⟨w.heap.size, 1, none⟩) (by simp)).trans (by simp [go_sem]); have bc7_2 : w7.cell? ⟨w.heap.size, 2, none⟩ = some (.bool at_.g) := (KB7.out.cell (p := ⟨w.heap.size, 2, none⟩) (by simp)).trans (by simp [go_sem]); have bc7_3 : w7.cell? ⟨w.heap.size, 3, none⟩ = some (.bool at_.s) := (KB7.out.cell (p := ⟨w.heap.size, 3, none⟩) (by simp)).trans (by simp [go_sem]))
      | (go_at_call 16; refine (HEQ1.out A_s c_s A_t c_t w5 R5_s.out R5_t.out).mono ?_; rintro e w6 ⟨rfl, hb6⟩; have HB6 := Lib.hid (HB5.out.trans (hb6.mono HB5.out.size)); have KB6 := Lib.hid (KB5.out.trans (hb6.mono KB5.out.size)); have R6_s := Lib.hid (R5_s.out.on hb6 (Nat.le_refl _)); have R6_t := Lib.hid (R5_t.out.on hb6 (Nat.le_refl _)); have R6_c := Lib.hid (R5_c.out.on hb6 (Nat.le_refl _)); have R6_d := Lib.hid (R5_d.out.on hb6 (Nat.le_refl _)); clear hb6; have bc6_0 : w6.cell? ⟨w.heap.size, 0, none⟩ = some (.int .i64 at_.r) := (KB6.out.cell (p := ⟨w.heap.size, 0, none⟩) (by simp)).trans (by simp [go_sem]); have bc6_1 : w6.cell? ⟨w.heap.size, 1, none⟩ = some (.int .i64 at_.k) := (KB6.out.cell (p := ⟨w.heap.size, 1, none⟩) (by simp)).trans (by simp [go_sem]); have bc6_2 : w6.cell? ⟨w.heap.size, 2, none⟩ = some (.bool at_.g) := (KB6.out.cell (p := ⟨w.heap.size, 2, none⟩) (by simp)).trans (by simp [go_sem]); have bc6_3 : w6.cell? ⟨w.heap.size, 3, none⟩ = some (.bool at_.s) := (KB6.out.cell (p := ⟨w.heap.size, 3, none⟩) (by simp)).trans (by simp [go_sem]))
      | (go_at_call 14; refine (HC2.out A_c c_c w4 R4_c.out).mono ?_; rintro e w5 ⟨v5, rfl, ho5, hb5⟩; obtain ⟨A_d, c_d, rfl, hr5⟩ := os_n ho5 n_d HL_d.out; clear ho5; have HB5 := Lib.hid (HB4.out.trans (hb5.mono HB4.out.size)); have KB5 := Lib.hid (KB4.out.trans (hb5.mono KB4.out.size)); have R5_s := Lib.hid (R4_s.out.on hb5 (Nat.le_refl _)); have R5_t := Lib.hid (R4_t.out.on hb5 (Nat.le_refl _)); have R5_c := Lib.hid (R4_c.out.on hb5 (Nat.le_refl _)); have R5_d := Lib.hid hr5; clear hr5; clear hb5)
      | (go_at_call 14; refine (HC1.out w3 HB3.out).mono ?_; rintro e w4 ⟨v4, rfl, ho4, hb4⟩; obtain ⟨A_c, c_c, rfl, hr4⟩ := os_n ho4 n_c HL_c.out; clear ho4; have HB4 := Lib.hid (HB3.out.trans (hb4.mono HB3.out.size)); have KB4 := Lib.hid (KB3.out.trans (hb4.mono KB3.out.size)); have R4_s := Lib.hid (R3_s.out.on hb4 (Nat.le_refl _)); have R4_t := Lib.hid (R3_t.out.on hb4 (Nat.le_refl _)); have R4_c := Lib.hid hr4; clear hr4; clear hb4)
      | (go_at_call 21; refine (HS2.out A_s c_s w2 R2_s.out).mono ?_; rintro e w3 ⟨v3, rfl, ho3, hb3⟩; obtain ⟨A_t, c_t, rfl, hr3⟩ := os_n ho3 n_s HL_s.out; clear ho3; have HB3 := Lib.hid (HB2.out.trans (hb3.mono HB2.out.size)); have KB3 := Lib.hid (KB2.out.trans (hb3.mono KB2.out.size)); have R3_s := Lib.hid (R2_s.out.on hb3 (Nat.le_refl _)); have R3_t := Lib.hid hr3; clear hr3; clear hb3)
      | (go_at_call 21; refine (HS1.out w1 HB1.out).mono ?_; rintro e w2 ⟨v2, rfl, ho2, hb2⟩; obtain ⟨A_s, c_s, rfl, hr2⟩ := os_n ho2 n_s HL_s.out; clear ho2; have HB2 := Lib.hid (HB1.out.trans (hb2.mono HB1.out.size)); have KB2 := Lib.hid (KB1.out.trans (hb2.mono KB1.out.size)); have R2_s := Lib.hid hr2; clear hr2; clear hb2)
      | (go_at_call 25; refine (alive8_any _).mono ?_; rintro e w1 ⟨rfl, hb1⟩; have HB1 := Lib.hid (HB0.out.trans (hb1.mono (by simp))); have KB1 := Lib.hid hb1; clear hb1))
      go_ret
      exact ⟨rfl, HB10.out⟩
    · clear f1 f2 hE
      clear hz
      generalize turnL (turnL xs a b (fun a : Att => (⟨a.r, a.k, a.g, true⟩ : Att))) o e (fun _ => at_) = u at *
      generalize turnE (turnL xs a b (fun a : Att => (⟨a.r, a.k, a.g, true⟩ : Att))) o e = I at *
      generalize hlu : u.length = n_u at *
      have HL_u := Lib.hid hlu
      clear hlu
      generalize turnL (turnL xs o e fun _ => at_) a b (fun a : Att => (⟨a.r, a.k, a.g, true⟩ : Att)) = w_ at *
      generalize hlw : w_.length = n_w at *
      have HL_w := Lib.hid hlw
      clear hlw
      generalize turnE (turnL xs o e fun _ => at_) a b = K at *
      generalize turnE xs o e = J at *
      generalize turnL xs o e (fun _ => at_) = v at *
      generalize hlv : v.length = n_v at *
      have HL_v := Lib.hid hlv
      clear hlv
      generalize (turnL xs a b (fun a : Att => (⟨a.r, a.k, a.g, true⟩ : Att))) = s at *
      generalize hls : s.length = n_s at *
      have HL_s := Lib.hid hls
      clear hls
      generalize cutL (cutL xs a b) a b = d at *
      generalize cutE (cutL xs a b) a b = H at *
      generalize hld : d.length = n_d at *
      have HL_d := Lib.hid hld
      clear hld
      generalize cutE xs a b = G at *
      generalize cutL xs a b = cc at *
      generalize hlc : cc.length = n_c at *
      have HL_c := Lib.hid hlc
      clear hlc
      have hG1 : (G == 0) = false := by rw [beq_eq_false_iff_ne]; exact hG
      have hI2 : (I != 0) = true := by rw [bne_iff_ne]; exact hI
      have hd1 : decide (o < b) = false := decide_eq_false h1
      go_enter Try.func6, Try.ntmps6
      go_wp2_with (first
      | (go_at_call 21; refine (HS3.out A_v c_v w8 R8_v.out).mono ?_; rintro e w9 ⟨v9, rfl, ho9, hb9⟩; obtain ⟨A_w, c_w, rfl, hr9⟩ := os_n ho9 n_w HL_w.out; clear ho9; have HB9 := Lib.hid (HB8.out.trans (hb9.mono HB8.out.size)); have KB9 := Lib.hid (KB8.out.trans (hb9.mono KB8.out.size)); have R9_s := Lib.hid (R8_s.out.on hb9 (Nat.le_refl _)); have R9_t := Lib.hid (R8_t.out.on hb9 (Nat.le_refl _)); have R9_c := Lib.hid (R8_c.out.on hb9 (Nat.le_refl _)); have R9_d := Lib.hid (R8_d.out.on hb9 (Nat.le_refl _)); have R9_u := Lib.hid (R8_u.out.on hb9 (Nat.le_refl _)); have R9_v := Lib.hid (R8_v.out.on hb9 (Nat.le_refl _)); have R9_w := Lib.hid hr9; clear hr9; clear hb9)
      | (go_at_call 19; refine (HT2.out w7 HB7.out).mono ?_; rintro e w8 ⟨v8, rfl, ho8, hb8⟩; obtain ⟨A_v, c_v, rfl, hr8⟩ := os_n ho8 n_v HL_v.out; clear ho8; have HB8 := Lib.hid (HB7.out.trans (hb8.mono HB7.out.size)); have KB8 := Lib.hid (KB7.out.trans (hb8.mono KB7.out.size)); have R8_s := Lib.hid (R7_s.out.on hb8 (Nat.le_refl _)); have R8_t := Lib.hid (R7_t.out.on hb8 (Nat.le_refl _)); have R8_c := Lib.hid (R7_c.out.on hb8 (Nat.le_refl _)); have R8_d := Lib.hid (R7_d.out.on hb8 (Nat.le_refl _)); have R8_u := Lib.hid (R7_u.out.on hb8 (Nat.le_refl _)); have R8_v := Lib.hid hr8; clear hr8; clear hb8)
      | (go_at_call 19; refine (HT1.out A_s c_s w6 R6_s.out).mono ?_; rintro e w7 ⟨v7, rfl, ho7, hb7⟩; obtain ⟨A_u, c_u, rfl, hr7⟩ := os_n ho7 n_u HL_u.out; clear ho7; have HB7 := Lib.hid (HB6.out.trans (hb7.mono HB6.out.size)); have KB7 := Lib.hid (KB6.out.trans (hb7.mono KB6.out.size)); have R7_s := Lib.hid (R6_s.out.on hb7 (Nat.le_refl _)); have R7_t := Lib.hid (R6_t.out.on hb7 (Nat.le_refl _)); have R7_c := Lib.hid (R6_c.out.on hb7 (Nat.le_refl _)); have R7_d := Lib.hid (R6_d.out.on hb7 (Nat.le_refl _)); have R7_u := Lib.hid hr7; clear hr7; clear hb7; have bc7_0 : w7.cell? ⟨w.heap.size, 0, none⟩ = some (.int .i64 at_.r) := (KB7.out.cell (p := ⟨w.heap.size, 0, none⟩) (by simp)).trans (by simp [go_sem]); have bc7_1 : w7.cell? ⟨w.heap.size, 1, none⟩ = some (.int .i64 at_.k) := (KB7.out.cell (p := ⟨w.heap.size, 1, none⟩) (by simp)).trans (by simp [go_sem]); have bc7_2 : w7.cell? ⟨w.heap.size, 2, none⟩ = some (.bool at_.g) := (KB7.out.cell (p := ⟨w.heap.size, 2, none⟩) (by simp)).trans (by simp [go_sem]); have bc7_3 : w7.cell? ⟨w.heap.size, 3, none⟩ = some (.bool at_.s) := (KB7.out.cell (p := ⟨w.heap.size, 3, none⟩) (by simp)).trans (by simp [go_sem]))
      | (go_at_call 16; refine (HEQ1.out A_s c_s A_t c_t w5 R5_s.out R5_t.out).mono ?_; rintro e w6 ⟨rfl, hb6⟩; have HB6 := Lib.hid (HB5.out.trans (hb6.mono HB5.out.size)); have KB6 := Lib.hid (KB5.out.trans (hb6.mono KB5.out.size)); have R6_s := Lib.hid (R5_s.out.on hb6 (Nat.le_refl _)); have R6_t := Lib.hid (R5_t.out.on hb6 (Nat.le_refl _)); have R6_c := Lib.hid (R5_c.out.on hb6 (Nat.le_refl _)); have R6_d := Lib.hid (R5_d.out.on hb6 (Nat.le_refl _)); clear hb6; have bc6_0 : w6.cell? ⟨w.heap.size, 0, none⟩ = some (.int .i64 at_.r) := (KB6.out.cell (p := ⟨w.heap.size, 0, none⟩) (by simp)).trans (by simp [go_sem]); have bc6_1 : w6.cell? ⟨w.heap.size, 1, none⟩ = some (.int .i64 at_.k) := (KB6.out.cell (p := ⟨w.heap.size, 1, none⟩) (by simp)).trans (by simp [go_sem]); have bc6_2 : w6.cell? ⟨w.heap.size, 2, none⟩ = some (.bool at_.g) := (KB6.out.cell (p := ⟨w.heap.size, 2, none⟩) (by simp)).trans (by simp [go_sem]); have bc6_3 : w6.cell? ⟨w.heap.size, 3, none⟩ = some (.bool at_.s) := (KB6.out.cell (p := ⟨w.heap.size, 3, none⟩) (by simp)).trans (by simp [go_sem]))
      | (go_at_call 14; refine (HC2.out A_c c_c w4 R4_c.out).mono ?_; rintro e w5 ⟨v5, rfl, ho5, hb5⟩; obtain ⟨A_d, c_d, rfl, hr5⟩ := os_n ho5 n_d HL_d.out; clear ho5; have HB5 := Lib.hid (HB4.out.trans (hb5.mono HB4.out.size)); have KB5 := Lib.hid (KB4.out.trans (hb5.mono KB4.out.size)); have R5_s := Lib.hid (R4_s.out.on hb5 (Nat.le_refl _)); have R5_t := Lib.hid (R4_t.out.on hb5 (Nat.le_refl _)); have R5_c := Lib.hid (R4_c.out.on hb5 (Nat.le_refl _)); have R5_d := Lib.hid hr5; clear hr5; clear hb5)
      | (go_at_call 14; refine (HC1.out w3 HB3.out).mono ?_; rintro e w4 ⟨v4, rfl, ho4, hb4⟩; obtain ⟨A_c, c_c, rfl, hr4⟩ := os_n ho4 n_c HL_c.out; clear ho4; have HB4 := Lib.hid (HB3.out.trans (hb4.mono HB3.out.size)); have KB4 := Lib.hid (KB3.out.trans (hb4.mono KB3.out.size)); have R4_s := Lib.hid (R3_s.out.on hb4 (Nat.le_refl _)); have R4_t := Lib.hid (R3_t.out.on hb4 (Nat.le_refl _)); have R4_c := Lib.hid hr4; clear hr4; clear hb4)
      | (go_at_call 21; refine (HS2.out A_s c_s w2 R2_s.out).mono ?_; rintro e w3 ⟨v3, rfl, ho3, hb3⟩; obtain ⟨A_t, c_t, rfl, hr3⟩ := os_n ho3 n_s HL_s.out; clear ho3; have HB3 := Lib.hid (HB2.out.trans (hb3.mono HB2.out.size)); have KB3 := Lib.hid (KB2.out.trans (hb3.mono KB2.out.size)); have R3_s := Lib.hid (R2_s.out.on hb3 (Nat.le_refl _)); have R3_t := Lib.hid hr3; clear hr3; clear hb3)
      | (go_at_call 21; refine (HS1.out w1 HB1.out).mono ?_; rintro e w2 ⟨v2, rfl, ho2, hb2⟩; obtain ⟨A_s, c_s, rfl, hr2⟩ := os_n ho2 n_s HL_s.out; clear ho2; have HB2 := Lib.hid (HB1.out.trans (hb2.mono HB1.out.size)); have KB2 := Lib.hid (KB1.out.trans (hb2.mono KB1.out.size)); have R2_s := Lib.hid hr2; clear hr2; clear hb2)
      | (go_at_call 25; refine (alive8_any _).mono ?_; rintro e w1 ⟨rfl, hb1⟩; have HB1 := Lib.hid (HB0.out.trans (hb1.mono (by simp))); have KB1 := Lib.hid hb1; clear hb1))
      go_ret
      exact ⟨rfl, HB9.out⟩
set_option maxHeartbeats 8000000 in
set_option maxRecDepth 100000 in
theorem once_01 (A : Option Addr) (n c : Nat) (xs : List Rgn) (w : World) (hz : Rw fR 6 w w.heap.size A n xs) (hbig : n ≤ 140737488355328) (a b o e : Int) (at_ : Att) (hE : turnE xs a b ≠ 0) (hG : cutE xs a b = 0) :
    Calls Try.prog 6 #[.slice A n c, .int .i64 a, .int .i64 b, .int .i64 o, .int .i64 e, .agg #[.int .i64 at_.r, .int .i64 at_.k, .bool at_.g, .bool at_.s]] w fun e w' => e = .returned (.bool true) ∧ Below w.heap.size w w' := by
  have HB0 := Lib.hid ((Below.refl w.heap.size w).alloc (Nat.le_refl _) (.cells #[.int .i64 at_.r, .int .i64 at_.k, .bool at_.g, .bool at_.s] 24))
  have HS1 := Lib.hid (fun w1 (h1 : Below w.heap.size w w1) => Seal_any A n c xs a b w1 w.heap.size (hz.below h1) h1.size hbig)
  have HS2 := Lib.hid (fun A2 c2 w2 (h : Rw fR 6 w2 w2.heap.size A2 (turnL xs a b (fun a : Att => (⟨a.r, a.k, a.g, true⟩ : Att))).length (turnL xs a b (fun a : Att => (⟨a.r, a.k, a.g, true⟩ : Att)))) => Seal_any A2 _ c2 _ a b w2 _ h (Nat.le_refl _) (Nat.le_trans turnL_len (by decide)))
  have HC1 := Lib.hid (fun w1 (h1 : Below w.heap.size w w1) => rcut_any A n c xs a b w1 w.heap.size (hz.below h1) h1.size hbig)
  have HC2 := Lib.hid (fun A2 c2 w2 (h : Rw fR 6 w2 w2.heap.size A2 (cutL xs a b).length (cutL xs a b)) => rcut_any A2 _ c2 _ a b w2 _ h (Nat.le_refl _) (Nat.le_trans (cutL_len _ _ _) (by decide)))
  have HT1 := Lib.hid (fun A2 c2 w2 (h : Rw fR 6 w2 w2.heap.size A2 (turnL xs a b (fun a : Att => (⟨a.r, a.k, a.g, true⟩ : Att))).length (turnL xs a b (fun a : Att => (⟨a.r, a.k, a.g, true⟩ : Att)))) => Turn_any A2 _ c2 _ o e at_ w2 _ h (Nat.le_refl _) (Nat.le_trans turnL_len (by decide)))
  have HT2 := Lib.hid (fun w1 (h1 : Below w.heap.size w w1) => Turn_any A n c xs o e at_ w1 w.heap.size (hz.below h1) h1.size hbig)
  have HS3 := Lib.hid (fun A2 c2 w2 (h : Rw fR 6 w2 w2.heap.size A2 (turnL xs o e fun _ => at_).length (turnL xs o e fun _ => at_)) => Seal_any A2 _ c2 _ a b w2 _ h (Nat.le_refl _) (Nat.le_trans turnL_len (by decide)))
  obtain ⟨g1, g2⟩ := once_cut hG
  rw [g1, g2] at HC2
  have HEQ2 := Lib.hid (fun A1 c1 A2 c2 w1 (h1 : Rw fR 6 w1 w1.heap.size A1 (cutL xs a b).length (cutL xs a b)) (h2 : Rw fR 6 w1 w1.heap.size A2 (cutL xs a b).length (cutL xs a b)) => eq_yes A1 A2 _ c1 c2 (cutL xs a b) w1 h1 h2 (cutL_len _ _ _))
  rw [hG] at HC1
  by_cases h1 : o < b
  · by_cases h2 : a < e
    · clear g1 g2 hG
      clear hz
      generalize turnL (turnL xs a b (fun a : Att => (⟨a.r, a.k, a.g, true⟩ : Att))) o e (fun _ => at_) = u at *
      generalize turnE (turnL xs a b (fun a : Att => (⟨a.r, a.k, a.g, true⟩ : Att))) o e = I at *
      generalize hlu : u.length = n_u at *
      have HL_u := Lib.hid hlu
      clear hlu
      generalize turnL (turnL xs o e fun _ => at_) a b (fun a : Att => (⟨a.r, a.k, a.g, true⟩ : Att)) = w_ at *
      generalize hlw : w_.length = n_w at *
      have HL_w := Lib.hid hlw
      clear hlw
      generalize turnE (turnL xs o e fun _ => at_) a b = K at *
      generalize turnE xs o e = J at *
      generalize turnL xs o e (fun _ => at_) = v at *
      generalize hlv : v.length = n_v at *
      have HL_v := Lib.hid hlv
      clear hlv
      generalize turnL (turnL xs a b (fun a : Att => (⟨a.r, a.k, a.g, true⟩ : Att))) a b (fun a : Att => (⟨a.r, a.k, a.g, true⟩ : Att)) = t at *
      generalize turnE (turnL xs a b (fun a : Att => (⟨a.r, a.k, a.g, true⟩ : Att))) a b = F at *
      generalize hlt : t.length = n_t at *
      have HL_t := Lib.hid hlt
      clear hlt
      generalize turnE xs a b = E at *
      generalize (turnL xs a b (fun a : Att => (⟨a.r, a.k, a.g, true⟩ : Att))) = s at *
      generalize hls : s.length = n_s at *
      have HL_s := Lib.hid hls
      clear hls
      generalize cutL xs a b = cc at *
      generalize hlc : cc.length = n_c at *
      have HL_c := Lib.hid hlc
      clear hlc
      have hE1 : (E == 0) = false := by rw [beq_eq_false_iff_ne]; exact hE
      have hE2 : (E != 0) = true := by rw [bne_iff_ne]; exact hE
      have hd1 : decide (o < b) = true := decide_eq_true h1
      have hd2 : decide (a < e) = true := decide_eq_true h2
      go_enter Try.func6, Try.ntmps6
      go_wp2_with (first
      | (go_at_call 16; refine (HEQ2.out A_c c_c A_d c_d w5 R5_c.out R5_d.out).mono ?_; rintro e w6 ⟨rfl, hb6⟩; have HB6 := Lib.hid (HB5.out.trans (hb6.mono HB5.out.size)); have KB6 := Lib.hid (KB5.out.trans (hb6.mono KB5.out.size)); have R6_s := Lib.hid (R5_s.out.on hb6 (Nat.le_refl _)); have R6_t := Lib.hid (R5_t.out.on hb6 (Nat.le_refl _)); have R6_c := Lib.hid (R5_c.out.on hb6 (Nat.le_refl _)); have R6_d := Lib.hid (R5_d.out.on hb6 (Nat.le_refl _)); clear hb6)
      | (go_at_call 14; refine (HC2.out A_c c_c w4 R4_c.out).mono ?_; rintro e w5 ⟨v5, rfl, ho5, hb5⟩; obtain ⟨A_d, c_d, rfl, hr5⟩ := os_n ho5 n_c HL_c.out; clear ho5; have HB5 := Lib.hid (HB4.out.trans (hb5.mono HB4.out.size)); have KB5 := Lib.hid (KB4.out.trans (hb5.mono KB4.out.size)); have R5_s := Lib.hid (R4_s.out.on hb5 (Nat.le_refl _)); have R5_t := Lib.hid (R4_t.out.on hb5 (Nat.le_refl _)); have R5_c := Lib.hid (R4_c.out.on hb5 (Nat.le_refl _)); have R5_d := Lib.hid hr5; clear hr5; clear hb5)
      | (go_at_call 14; refine (HC1.out w3 HB3.out).mono ?_; rintro e w4 ⟨v4, rfl, ho4, hb4⟩; obtain ⟨A_c, c_c, rfl, hr4⟩ := os_n ho4 n_c HL_c.out; clear ho4; have HB4 := Lib.hid (HB3.out.trans (hb4.mono HB3.out.size)); have KB4 := Lib.hid (KB3.out.trans (hb4.mono KB3.out.size)); have R4_s := Lib.hid (R3_s.out.on hb4 (Nat.le_refl _)); have R4_t := Lib.hid (R3_t.out.on hb4 (Nat.le_refl _)); have R4_c := Lib.hid hr4; clear hr4; clear hb4)
      | (go_at_call 21; refine (HS2.out A_s c_s w2 R2_s.out).mono ?_; rintro e w3 ⟨v3, rfl, ho3, hb3⟩; obtain ⟨A_t, c_t, rfl, hr3⟩ := os_n ho3 n_t HL_t.out; clear ho3; have HB3 := Lib.hid (HB2.out.trans (hb3.mono HB2.out.size)); have KB3 := Lib.hid (KB2.out.trans (hb3.mono KB2.out.size)); have R3_s := Lib.hid (R2_s.out.on hb3 (Nat.le_refl _)); have R3_t := Lib.hid hr3; clear hr3; clear hb3)
      | (go_at_call 21; refine (HS1.out w1 HB1.out).mono ?_; rintro e w2 ⟨v2, rfl, ho2, hb2⟩; obtain ⟨A_s, c_s, rfl, hr2⟩ := os_n ho2 n_s HL_s.out; clear ho2; have HB2 := Lib.hid (HB1.out.trans (hb2.mono HB1.out.size)); have KB2 := Lib.hid (KB1.out.trans (hb2.mono KB1.out.size)); have R2_s := Lib.hid hr2; clear hr2; clear hb2)
      | (go_at_call 25; refine (alive8_any _).mono ?_; rintro e w1 ⟨rfl, hb1⟩; have HB1 := Lib.hid (HB0.out.trans (hb1.mono (by simp))); have KB1 := Lib.hid hb1; clear hb1))
      go_ret
      exact ⟨rfl, HB6.out⟩
    · clear g1 g2 hG
      clear hz
      generalize turnL (turnL xs a b (fun a : Att => (⟨a.r, a.k, a.g, true⟩ : Att))) o e (fun _ => at_) = u at *
      generalize turnE (turnL xs a b (fun a : Att => (⟨a.r, a.k, a.g, true⟩ : Att))) o e = I at *
      generalize hlu : u.length = n_u at *
      have HL_u := Lib.hid hlu
      clear hlu
      generalize turnL (turnL xs o e fun _ => at_) a b (fun a : Att => (⟨a.r, a.k, a.g, true⟩ : Att)) = w_ at *
      generalize hlw : w_.length = n_w at *
      have HL_w := Lib.hid hlw
      clear hlw
      generalize turnE (turnL xs o e fun _ => at_) a b = K at *
      generalize turnE xs o e = J at *
      generalize turnL xs o e (fun _ => at_) = v at *
      generalize hlv : v.length = n_v at *
      have HL_v := Lib.hid hlv
      clear hlv
      generalize turnL (turnL xs a b (fun a : Att => (⟨a.r, a.k, a.g, true⟩ : Att))) a b (fun a : Att => (⟨a.r, a.k, a.g, true⟩ : Att)) = t at *
      generalize turnE (turnL xs a b (fun a : Att => (⟨a.r, a.k, a.g, true⟩ : Att))) a b = F at *
      generalize hlt : t.length = n_t at *
      have HL_t := Lib.hid hlt
      clear hlt
      generalize turnE xs a b = E at *
      generalize (turnL xs a b (fun a : Att => (⟨a.r, a.k, a.g, true⟩ : Att))) = s at *
      generalize hls : s.length = n_s at *
      have HL_s := Lib.hid hls
      clear hls
      generalize cutL xs a b = cc at *
      generalize hlc : cc.length = n_c at *
      have HL_c := Lib.hid hlc
      clear hlc
      have hE1 : (E == 0) = false := by rw [beq_eq_false_iff_ne]; exact hE
      have hE2 : (E != 0) = true := by rw [bne_iff_ne]; exact hE
      have hd1 : decide (o < b) = true := decide_eq_true h1
      have hd2 : decide (a < e) = false := decide_eq_false h2
      go_enter Try.func6, Try.ntmps6
      go_wp2_with (first
      | (go_at_call 21; refine (HS3.out A_v c_v w8 R8_v.out).mono ?_; rintro e w9 ⟨v9, rfl, ho9, hb9⟩; obtain ⟨A_w, c_w, rfl, hr9⟩ := os_n ho9 n_w HL_w.out; clear ho9; have HB9 := Lib.hid (HB8.out.trans (hb9.mono HB8.out.size)); have KB9 := Lib.hid (KB8.out.trans (hb9.mono KB8.out.size)); have R9_s := Lib.hid (R8_s.out.on hb9 (Nat.le_refl _)); have R9_t := Lib.hid (R8_t.out.on hb9 (Nat.le_refl _)); have R9_c := Lib.hid (R8_c.out.on hb9 (Nat.le_refl _)); have R9_d := Lib.hid (R8_d.out.on hb9 (Nat.le_refl _)); have R9_u := Lib.hid (R8_u.out.on hb9 (Nat.le_refl _)); have R9_v := Lib.hid (R8_v.out.on hb9 (Nat.le_refl _)); have R9_w := Lib.hid hr9; clear hr9; clear hb9)
      | (go_at_call 19; refine (HT2.out w7 HB7.out).mono ?_; rintro e w8 ⟨v8, rfl, ho8, hb8⟩; obtain ⟨A_v, c_v, rfl, hr8⟩ := os_n ho8 n_v HL_v.out; clear ho8; have HB8 := Lib.hid (HB7.out.trans (hb8.mono HB7.out.size)); have KB8 := Lib.hid (KB7.out.trans (hb8.mono KB7.out.size)); have R8_s := Lib.hid (R7_s.out.on hb8 (Nat.le_refl _)); have R8_t := Lib.hid (R7_t.out.on hb8 (Nat.le_refl _)); have R8_c := Lib.hid (R7_c.out.on hb8 (Nat.le_refl _)); have R8_d := Lib.hid (R7_d.out.on hb8 (Nat.le_refl _)); have R8_u := Lib.hid (R7_u.out.on hb8 (Nat.le_refl _)); have R8_v := Lib.hid hr8; clear hr8; clear hb8)
      | (go_at_call 19; refine (HT1.out A_s c_s w6 R6_s.out).mono ?_; rintro e w7 ⟨v7, rfl, ho7, hb7⟩; obtain ⟨A_u, c_u, rfl, hr7⟩ := os_n ho7 n_u HL_u.out; clear ho7; have HB7 := Lib.hid (HB6.out.trans (hb7.mono HB6.out.size)); have KB7 := Lib.hid (KB6.out.trans (hb7.mono KB6.out.size)); have R7_s := Lib.hid (R6_s.out.on hb7 (Nat.le_refl _)); have R7_t := Lib.hid (R6_t.out.on hb7 (Nat.le_refl _)); have R7_c := Lib.hid (R6_c.out.on hb7 (Nat.le_refl _)); have R7_d := Lib.hid (R6_d.out.on hb7 (Nat.le_refl _)); have R7_u := Lib.hid hr7; clear hr7; clear hb7; have bc7_0 : w7.cell? ⟨w.heap.size, 0, none⟩ = some (.int .i64 at_.r) := (KB7.out.cell (p := ⟨w.heap.size, 0, none⟩) (by simp)).trans (by simp [go_sem]); have bc7_1 : w7.cell? ⟨w.heap.size, 1, none⟩ = some (.int .i64 at_.k) := (KB7.out.cell (p := ⟨w.heap.size, 1, none⟩) (by simp)).trans (by simp [go_sem]); have bc7_2 : w7.cell? ⟨w.heap.size, 2, none⟩ = some (.bool at_.g) := (KB7.out.cell (p := ⟨w.heap.size, 2, none⟩) (by simp)).trans (by simp [go_sem]); have bc7_3 : w7.cell? ⟨w.heap.size, 3, none⟩ = some (.bool at_.s) := (KB7.out.cell (p := ⟨w.heap.size, 3, none⟩) (by simp)).trans (by simp [go_sem]))
      | (go_at_call 16; refine (HEQ2.out A_c c_c A_d c_d w5 R5_c.out R5_d.out).mono ?_; rintro e w6 ⟨rfl, hb6⟩; have HB6 := Lib.hid (HB5.out.trans (hb6.mono HB5.out.size)); have KB6 := Lib.hid (KB5.out.trans (hb6.mono KB5.out.size)); have R6_s := Lib.hid (R5_s.out.on hb6 (Nat.le_refl _)); have R6_t := Lib.hid (R5_t.out.on hb6 (Nat.le_refl _)); have R6_c := Lib.hid (R5_c.out.on hb6 (Nat.le_refl _)); have R6_d := Lib.hid (R5_d.out.on hb6 (Nat.le_refl _)); clear hb6; have bc6_0 : w6.cell? ⟨w.heap.size, 0, none⟩ = some (.int .i64 at_.r) := (KB6.out.cell (p := ⟨w.heap.size, 0, none⟩) (by simp)).trans (by simp [go_sem]); have bc6_1 : w6.cell? ⟨w.heap.size, 1, none⟩ = some (.int .i64 at_.k) := (KB6.out.cell (p := ⟨w.heap.size, 1, none⟩) (by simp)).trans (by simp [go_sem]); have bc6_2 : w6.cell? ⟨w.heap.size, 2, none⟩ = some (.bool at_.g) := (KB6.out.cell (p := ⟨w.heap.size, 2, none⟩) (by simp)).trans (by simp [go_sem]); have bc6_3 : w6.cell? ⟨w.heap.size, 3, none⟩ = some (.bool at_.s) := (KB6.out.cell (p := ⟨w.heap.size, 3, none⟩) (by simp)).trans (by simp [go_sem]))
      | (go_at_call 14; refine (HC2.out A_c c_c w4 R4_c.out).mono ?_; rintro e w5 ⟨v5, rfl, ho5, hb5⟩; obtain ⟨A_d, c_d, rfl, hr5⟩ := os_n ho5 n_c HL_c.out; clear ho5; have HB5 := Lib.hid (HB4.out.trans (hb5.mono HB4.out.size)); have KB5 := Lib.hid (KB4.out.trans (hb5.mono KB4.out.size)); have R5_s := Lib.hid (R4_s.out.on hb5 (Nat.le_refl _)); have R5_t := Lib.hid (R4_t.out.on hb5 (Nat.le_refl _)); have R5_c := Lib.hid (R4_c.out.on hb5 (Nat.le_refl _)); have R5_d := Lib.hid hr5; clear hr5; clear hb5)
      | (go_at_call 14; refine (HC1.out w3 HB3.out).mono ?_; rintro e w4 ⟨v4, rfl, ho4, hb4⟩; obtain ⟨A_c, c_c, rfl, hr4⟩ := os_n ho4 n_c HL_c.out; clear ho4; have HB4 := Lib.hid (HB3.out.trans (hb4.mono HB3.out.size)); have KB4 := Lib.hid (KB3.out.trans (hb4.mono KB3.out.size)); have R4_s := Lib.hid (R3_s.out.on hb4 (Nat.le_refl _)); have R4_t := Lib.hid (R3_t.out.on hb4 (Nat.le_refl _)); have R4_c := Lib.hid hr4; clear hr4; clear hb4)
      | (go_at_call 21; refine (HS2.out A_s c_s w2 R2_s.out).mono ?_; rintro e w3 ⟨v3, rfl, ho3, hb3⟩; obtain ⟨A_t, c_t, rfl, hr3⟩ := os_n ho3 n_t HL_t.out; clear ho3; have HB3 := Lib.hid (HB2.out.trans (hb3.mono HB2.out.size)); have KB3 := Lib.hid (KB2.out.trans (hb3.mono KB2.out.size)); have R3_s := Lib.hid (R2_s.out.on hb3 (Nat.le_refl _)); have R3_t := Lib.hid hr3; clear hr3; clear hb3)
      | (go_at_call 21; refine (HS1.out w1 HB1.out).mono ?_; rintro e w2 ⟨v2, rfl, ho2, hb2⟩; obtain ⟨A_s, c_s, rfl, hr2⟩ := os_n ho2 n_s HL_s.out; clear ho2; have HB2 := Lib.hid (HB1.out.trans (hb2.mono HB1.out.size)); have KB2 := Lib.hid (KB1.out.trans (hb2.mono KB1.out.size)); have R2_s := Lib.hid hr2; clear hr2; clear hb2)
      | (go_at_call 25; refine (alive8_any _).mono ?_; rintro e w1 ⟨rfl, hb1⟩; have HB1 := Lib.hid (HB0.out.trans (hb1.mono (by simp))); have KB1 := Lib.hid hb1; clear hb1))
      go_ret
      exact ⟨rfl, HB9.out⟩
  · clear g1 g2 hG
    clear hz
    generalize turnL (turnL xs a b (fun a : Att => (⟨a.r, a.k, a.g, true⟩ : Att))) o e (fun _ => at_) = u at *
    generalize turnE (turnL xs a b (fun a : Att => (⟨a.r, a.k, a.g, true⟩ : Att))) o e = I at *
    generalize hlu : u.length = n_u at *
    have HL_u := Lib.hid hlu
    clear hlu
    generalize turnL (turnL xs o e fun _ => at_) a b (fun a : Att => (⟨a.r, a.k, a.g, true⟩ : Att)) = w_ at *
    generalize hlw : w_.length = n_w at *
    have HL_w := Lib.hid hlw
    clear hlw
    generalize turnE (turnL xs o e fun _ => at_) a b = K at *
    generalize turnE xs o e = J at *
    generalize turnL xs o e (fun _ => at_) = v at *
    generalize hlv : v.length = n_v at *
    have HL_v := Lib.hid hlv
    clear hlv
    generalize turnL (turnL xs a b (fun a : Att => (⟨a.r, a.k, a.g, true⟩ : Att))) a b (fun a : Att => (⟨a.r, a.k, a.g, true⟩ : Att)) = t at *
    generalize turnE (turnL xs a b (fun a : Att => (⟨a.r, a.k, a.g, true⟩ : Att))) a b = F at *
    generalize hlt : t.length = n_t at *
    have HL_t := Lib.hid hlt
    clear hlt
    generalize turnE xs a b = E at *
    generalize (turnL xs a b (fun a : Att => (⟨a.r, a.k, a.g, true⟩ : Att))) = s at *
    generalize hls : s.length = n_s at *
    have HL_s := Lib.hid hls
    clear hls
    generalize cutL xs a b = cc at *
    generalize hlc : cc.length = n_c at *
    have HL_c := Lib.hid hlc
    clear hlc
    have hE1 : (E == 0) = false := by rw [beq_eq_false_iff_ne]; exact hE
    have hE2 : (E != 0) = true := by rw [bne_iff_ne]; exact hE
    have hd1 : decide (o < b) = false := decide_eq_false h1
    go_enter Try.func6, Try.ntmps6
    go_wp2_with (first
    | (go_at_call 21; refine (HS3.out A_v c_v w8 R8_v.out).mono ?_; rintro e w9 ⟨v9, rfl, ho9, hb9⟩; obtain ⟨A_w, c_w, rfl, hr9⟩ := os_n ho9 n_w HL_w.out; clear ho9; have HB9 := Lib.hid (HB8.out.trans (hb9.mono HB8.out.size)); have KB9 := Lib.hid (KB8.out.trans (hb9.mono KB8.out.size)); have R9_s := Lib.hid (R8_s.out.on hb9 (Nat.le_refl _)); have R9_t := Lib.hid (R8_t.out.on hb9 (Nat.le_refl _)); have R9_c := Lib.hid (R8_c.out.on hb9 (Nat.le_refl _)); have R9_d := Lib.hid (R8_d.out.on hb9 (Nat.le_refl _)); have R9_u := Lib.hid (R8_u.out.on hb9 (Nat.le_refl _)); have R9_v := Lib.hid (R8_v.out.on hb9 (Nat.le_refl _)); have R9_w := Lib.hid hr9; clear hr9; clear hb9)
    | (go_at_call 19; refine (HT2.out w7 HB7.out).mono ?_; rintro e w8 ⟨v8, rfl, ho8, hb8⟩; obtain ⟨A_v, c_v, rfl, hr8⟩ := os_n ho8 n_v HL_v.out; clear ho8; have HB8 := Lib.hid (HB7.out.trans (hb8.mono HB7.out.size)); have KB8 := Lib.hid (KB7.out.trans (hb8.mono KB7.out.size)); have R8_s := Lib.hid (R7_s.out.on hb8 (Nat.le_refl _)); have R8_t := Lib.hid (R7_t.out.on hb8 (Nat.le_refl _)); have R8_c := Lib.hid (R7_c.out.on hb8 (Nat.le_refl _)); have R8_d := Lib.hid (R7_d.out.on hb8 (Nat.le_refl _)); have R8_u := Lib.hid (R7_u.out.on hb8 (Nat.le_refl _)); have R8_v := Lib.hid hr8; clear hr8; clear hb8)
    | (go_at_call 19; refine (HT1.out A_s c_s w6 R6_s.out).mono ?_; rintro e w7 ⟨v7, rfl, ho7, hb7⟩; obtain ⟨A_u, c_u, rfl, hr7⟩ := os_n ho7 n_u HL_u.out; clear ho7; have HB7 := Lib.hid (HB6.out.trans (hb7.mono HB6.out.size)); have KB7 := Lib.hid (KB6.out.trans (hb7.mono KB6.out.size)); have R7_s := Lib.hid (R6_s.out.on hb7 (Nat.le_refl _)); have R7_t := Lib.hid (R6_t.out.on hb7 (Nat.le_refl _)); have R7_c := Lib.hid (R6_c.out.on hb7 (Nat.le_refl _)); have R7_d := Lib.hid (R6_d.out.on hb7 (Nat.le_refl _)); have R7_u := Lib.hid hr7; clear hr7; clear hb7; have bc7_0 : w7.cell? ⟨w.heap.size, 0, none⟩ = some (.int .i64 at_.r) := (KB7.out.cell (p := ⟨w.heap.size, 0, none⟩) (by simp)).trans (by simp [go_sem]); have bc7_1 : w7.cell? ⟨w.heap.size, 1, none⟩ = some (.int .i64 at_.k) := (KB7.out.cell (p := ⟨w.heap.size, 1, none⟩) (by simp)).trans (by simp [go_sem]); have bc7_2 : w7.cell? ⟨w.heap.size, 2, none⟩ = some (.bool at_.g) := (KB7.out.cell (p := ⟨w.heap.size, 2, none⟩) (by simp)).trans (by simp [go_sem]); have bc7_3 : w7.cell? ⟨w.heap.size, 3, none⟩ = some (.bool at_.s) := (KB7.out.cell (p := ⟨w.heap.size, 3, none⟩) (by simp)).trans (by simp [go_sem]))
    | (go_at_call 16; refine (HEQ2.out A_c c_c A_d c_d w5 R5_c.out R5_d.out).mono ?_; rintro e w6 ⟨rfl, hb6⟩; have HB6 := Lib.hid (HB5.out.trans (hb6.mono HB5.out.size)); have KB6 := Lib.hid (KB5.out.trans (hb6.mono KB5.out.size)); have R6_s := Lib.hid (R5_s.out.on hb6 (Nat.le_refl _)); have R6_t := Lib.hid (R5_t.out.on hb6 (Nat.le_refl _)); have R6_c := Lib.hid (R5_c.out.on hb6 (Nat.le_refl _)); have R6_d := Lib.hid (R5_d.out.on hb6 (Nat.le_refl _)); clear hb6; have bc6_0 : w6.cell? ⟨w.heap.size, 0, none⟩ = some (.int .i64 at_.r) := (KB6.out.cell (p := ⟨w.heap.size, 0, none⟩) (by simp)).trans (by simp [go_sem]); have bc6_1 : w6.cell? ⟨w.heap.size, 1, none⟩ = some (.int .i64 at_.k) := (KB6.out.cell (p := ⟨w.heap.size, 1, none⟩) (by simp)).trans (by simp [go_sem]); have bc6_2 : w6.cell? ⟨w.heap.size, 2, none⟩ = some (.bool at_.g) := (KB6.out.cell (p := ⟨w.heap.size, 2, none⟩) (by simp)).trans (by simp [go_sem]); have bc6_3 : w6.cell? ⟨w.heap.size, 3, none⟩ = some (.bool at_.s) := (KB6.out.cell (p := ⟨w.heap.size, 3, none⟩) (by simp)).trans (by simp [go_sem]))
    | (go_at_call 14; refine (HC2.out A_c c_c w4 R4_c.out).mono ?_; rintro e w5 ⟨v5, rfl, ho5, hb5⟩; obtain ⟨A_d, c_d, rfl, hr5⟩ := os_n ho5 n_c HL_c.out; clear ho5; have HB5 := Lib.hid (HB4.out.trans (hb5.mono HB4.out.size)); have KB5 := Lib.hid (KB4.out.trans (hb5.mono KB4.out.size)); have R5_s := Lib.hid (R4_s.out.on hb5 (Nat.le_refl _)); have R5_t := Lib.hid (R4_t.out.on hb5 (Nat.le_refl _)); have R5_c := Lib.hid (R4_c.out.on hb5 (Nat.le_refl _)); have R5_d := Lib.hid hr5; clear hr5; clear hb5)
    | (go_at_call 14; refine (HC1.out w3 HB3.out).mono ?_; rintro e w4 ⟨v4, rfl, ho4, hb4⟩; obtain ⟨A_c, c_c, rfl, hr4⟩ := os_n ho4 n_c HL_c.out; clear ho4; have HB4 := Lib.hid (HB3.out.trans (hb4.mono HB3.out.size)); have KB4 := Lib.hid (KB3.out.trans (hb4.mono KB3.out.size)); have R4_s := Lib.hid (R3_s.out.on hb4 (Nat.le_refl _)); have R4_t := Lib.hid (R3_t.out.on hb4 (Nat.le_refl _)); have R4_c := Lib.hid hr4; clear hr4; clear hb4)
    | (go_at_call 21; refine (HS2.out A_s c_s w2 R2_s.out).mono ?_; rintro e w3 ⟨v3, rfl, ho3, hb3⟩; obtain ⟨A_t, c_t, rfl, hr3⟩ := os_n ho3 n_t HL_t.out; clear ho3; have HB3 := Lib.hid (HB2.out.trans (hb3.mono HB2.out.size)); have KB3 := Lib.hid (KB2.out.trans (hb3.mono KB2.out.size)); have R3_s := Lib.hid (R2_s.out.on hb3 (Nat.le_refl _)); have R3_t := Lib.hid hr3; clear hr3; clear hb3)
    | (go_at_call 21; refine (HS1.out w1 HB1.out).mono ?_; rintro e w2 ⟨v2, rfl, ho2, hb2⟩; obtain ⟨A_s, c_s, rfl, hr2⟩ := os_n ho2 n_s HL_s.out; clear ho2; have HB2 := Lib.hid (HB1.out.trans (hb2.mono HB1.out.size)); have KB2 := Lib.hid (KB1.out.trans (hb2.mono KB1.out.size)); have R2_s := Lib.hid hr2; clear hr2; clear hb2)
    | (go_at_call 25; refine (alive8_any _).mono ?_; rintro e w1 ⟨rfl, hb1⟩; have HB1 := Lib.hid (HB0.out.trans (hb1.mono (by simp))); have KB1 := Lib.hid hb1; clear hb1))
    go_ret
    exact ⟨rfl, HB9.out⟩
set_option maxHeartbeats 8000000 in
set_option maxRecDepth 100000 in
theorem once_00 (A : Option Addr) (n c : Nat) (xs : List Rgn) (w : World) (hz : Rw fR 6 w w.heap.size A n xs) (hbig : n ≤ 140737488355328) (a b o e : Int) (at_ : Att) (hE : turnE xs a b ≠ 0) (hG : cutE xs a b ≠ 0) :
    Calls Try.prog 6 #[.slice A n c, .int .i64 a, .int .i64 b, .int .i64 o, .int .i64 e, .agg #[.int .i64 at_.r, .int .i64 at_.k, .bool at_.g, .bool at_.s]] w fun e w' => e = .returned (.bool true) ∧ Below w.heap.size w w' := by
  have HB0 := Lib.hid ((Below.refl w.heap.size w).alloc (Nat.le_refl _) (.cells #[.int .i64 at_.r, .int .i64 at_.k, .bool at_.g, .bool at_.s] 24))
  have HS1 := Lib.hid (fun w1 (h1 : Below w.heap.size w w1) => Seal_any A n c xs a b w1 w.heap.size (hz.below h1) h1.size hbig)
  have HS2 := Lib.hid (fun A2 c2 w2 (h : Rw fR 6 w2 w2.heap.size A2 (turnL xs a b (fun a : Att => (⟨a.r, a.k, a.g, true⟩ : Att))).length (turnL xs a b (fun a : Att => (⟨a.r, a.k, a.g, true⟩ : Att)))) => Seal_any A2 _ c2 _ a b w2 _ h (Nat.le_refl _) (Nat.le_trans turnL_len (by decide)))
  have HC1 := Lib.hid (fun w1 (h1 : Below w.heap.size w w1) => rcut_any A n c xs a b w1 w.heap.size (hz.below h1) h1.size hbig)
  have HC2 := Lib.hid (fun A2 c2 w2 (h : Rw fR 6 w2 w2.heap.size A2 (cutL xs a b).length (cutL xs a b)) => rcut_any A2 _ c2 _ a b w2 _ h (Nat.le_refl _) (Nat.le_trans (cutL_len _ _ _) (by decide)))
  have HT1 := Lib.hid (fun A2 c2 w2 (h : Rw fR 6 w2 w2.heap.size A2 (turnL xs a b (fun a : Att => (⟨a.r, a.k, a.g, true⟩ : Att))).length (turnL xs a b (fun a : Att => (⟨a.r, a.k, a.g, true⟩ : Att)))) => Turn_any A2 _ c2 _ o e at_ w2 _ h (Nat.le_refl _) (Nat.le_trans turnL_len (by decide)))
  have HT2 := Lib.hid (fun w1 (h1 : Below w.heap.size w w1) => Turn_any A n c xs o e at_ w1 w.heap.size (hz.below h1) h1.size hbig)
  have HS3 := Lib.hid (fun A2 c2 w2 (h : Rw fR 6 w2 w2.heap.size A2 (turnL xs o e fun _ => at_).length (turnL xs o e fun _ => at_)) => Seal_any A2 _ c2 _ a b w2 _ h (Nat.le_refl _) (Nat.le_trans turnL_len (by decide)))

  by_cases h1 : o < b
  · by_cases h2 : a < e
    · clear hz
      generalize turnL (turnL xs a b (fun a : Att => (⟨a.r, a.k, a.g, true⟩ : Att))) o e (fun _ => at_) = u at *
      generalize turnE (turnL xs a b (fun a : Att => (⟨a.r, a.k, a.g, true⟩ : Att))) o e = I at *
      generalize hlu : u.length = n_u at *
      have HL_u := Lib.hid hlu
      clear hlu
      generalize turnL (turnL xs o e fun _ => at_) a b (fun a : Att => (⟨a.r, a.k, a.g, true⟩ : Att)) = w_ at *
      generalize hlw : w_.length = n_w at *
      have HL_w := Lib.hid hlw
      clear hlw
      generalize turnE (turnL xs o e fun _ => at_) a b = K at *
      generalize turnE xs o e = J at *
      generalize turnL xs o e (fun _ => at_) = v at *
      generalize hlv : v.length = n_v at *
      have HL_v := Lib.hid hlv
      clear hlv
      generalize turnL (turnL xs a b (fun a : Att => (⟨a.r, a.k, a.g, true⟩ : Att))) a b (fun a : Att => (⟨a.r, a.k, a.g, true⟩ : Att)) = t at *
      generalize turnE (turnL xs a b (fun a : Att => (⟨a.r, a.k, a.g, true⟩ : Att))) a b = F at *
      generalize hlt : t.length = n_t at *
      have HL_t := Lib.hid hlt
      clear hlt
      generalize turnE xs a b = E at *
      generalize (turnL xs a b (fun a : Att => (⟨a.r, a.k, a.g, true⟩ : Att))) = s at *
      generalize hls : s.length = n_s at *
      have HL_s := Lib.hid hls
      clear hls
      generalize cutL (cutL xs a b) a b = d at *
      generalize cutE (cutL xs a b) a b = H at *
      generalize hld : d.length = n_d at *
      have HL_d := Lib.hid hld
      clear hld
      generalize cutE xs a b = G at *
      generalize cutL xs a b = cc at *
      generalize hlc : cc.length = n_c at *
      have HL_c := Lib.hid hlc
      clear hlc
      have hG1 : (G == 0) = false := by rw [beq_eq_false_iff_ne]; exact hG
      have hE1 : (E == 0) = false := by rw [beq_eq_false_iff_ne]; exact hE
      have hE2 : (E != 0) = true := by rw [bne_iff_ne]; exact hE
      have hd1 : decide (o < b) = true := decide_eq_true h1
      have hd2 : decide (a < e) = true := decide_eq_true h2
      go_enter Try.func6, Try.ntmps6
      go_wp2_with (first
      | (go_at_call 14; refine (HC2.out A_c c_c w4 R4_c.out).mono ?_; rintro e w5 ⟨v5, rfl, ho5, hb5⟩; obtain ⟨A_d, c_d, rfl, hr5⟩ := os_n ho5 n_d HL_d.out; clear ho5; have HB5 := Lib.hid (HB4.out.trans (hb5.mono HB4.out.size)); have KB5 := Lib.hid (KB4.out.trans (hb5.mono KB4.out.size)); have R5_s := Lib.hid (R4_s.out.on hb5 (Nat.le_refl _)); have R5_t := Lib.hid (R4_t.out.on hb5 (Nat.le_refl _)); have R5_c := Lib.hid (R4_c.out.on hb5 (Nat.le_refl _)); have R5_d := Lib.hid hr5; clear hr5; clear hb5)
      | (go_at_call 14; refine (HC1.out w3 HB3.out).mono ?_; rintro e w4 ⟨v4, rfl, ho4, hb4⟩; obtain ⟨A_c, c_c, rfl, hr4⟩ := os_n ho4 n_c HL_c.out; clear ho4; have HB4 := Lib.hid (HB3.out.trans (hb4.mono HB3.out.size)); have KB4 := Lib.hid (KB3.out.trans (hb4.mono KB3.out.size)); have R4_s := Lib.hid (R3_s.out.on hb4 (Nat.le_refl _)); have R4_t := Lib.hid (R3_t.out.on hb4 (Nat.le_refl _)); have R4_c := Lib.hid hr4; clear hr4; clear hb4)
      | (go_at_call 21; refine (HS2.out A_s c_s w2 R2_s.out).mono ?_; rintro e w3 ⟨v3, rfl, ho3, hb3⟩; obtain ⟨A_t, c_t, rfl, hr3⟩ := os_n ho3 n_t HL_t.out; clear ho3; have HB3 := Lib.hid (HB2.out.trans (hb3.mono HB2.out.size)); have KB3 := Lib.hid (KB2.out.trans (hb3.mono KB2.out.size)); have R3_s := Lib.hid (R2_s.out.on hb3 (Nat.le_refl _)); have R3_t := Lib.hid hr3; clear hr3; clear hb3)
      | (go_at_call 21; refine (HS1.out w1 HB1.out).mono ?_; rintro e w2 ⟨v2, rfl, ho2, hb2⟩; obtain ⟨A_s, c_s, rfl, hr2⟩ := os_n ho2 n_s HL_s.out; clear ho2; have HB2 := Lib.hid (HB1.out.trans (hb2.mono HB1.out.size)); have KB2 := Lib.hid (KB1.out.trans (hb2.mono KB1.out.size)); have R2_s := Lib.hid hr2; clear hr2; clear hb2)
      | (go_at_call 25; refine (alive8_any _).mono ?_; rintro e w1 ⟨rfl, hb1⟩; have HB1 := Lib.hid (HB0.out.trans (hb1.mono (by simp))); have KB1 := Lib.hid hb1; clear hb1))
      go_ret
      exact ⟨rfl, HB5.out⟩
    · clear hz
      generalize turnL (turnL xs a b (fun a : Att => (⟨a.r, a.k, a.g, true⟩ : Att))) o e (fun _ => at_) = u at *
      generalize turnE (turnL xs a b (fun a : Att => (⟨a.r, a.k, a.g, true⟩ : Att))) o e = I at *
      generalize hlu : u.length = n_u at *
      have HL_u := Lib.hid hlu
      clear hlu
      generalize turnL (turnL xs o e fun _ => at_) a b (fun a : Att => (⟨a.r, a.k, a.g, true⟩ : Att)) = w_ at *
      generalize hlw : w_.length = n_w at *
      have HL_w := Lib.hid hlw
      clear hlw
      generalize turnE (turnL xs o e fun _ => at_) a b = K at *
      generalize turnE xs o e = J at *
      generalize turnL xs o e (fun _ => at_) = v at *
      generalize hlv : v.length = n_v at *
      have HL_v := Lib.hid hlv
      clear hlv
      generalize turnL (turnL xs a b (fun a : Att => (⟨a.r, a.k, a.g, true⟩ : Att))) a b (fun a : Att => (⟨a.r, a.k, a.g, true⟩ : Att)) = t at *
      generalize turnE (turnL xs a b (fun a : Att => (⟨a.r, a.k, a.g, true⟩ : Att))) a b = F at *
      generalize hlt : t.length = n_t at *
      have HL_t := Lib.hid hlt
      clear hlt
      generalize turnE xs a b = E at *
      generalize (turnL xs a b (fun a : Att => (⟨a.r, a.k, a.g, true⟩ : Att))) = s at *
      generalize hls : s.length = n_s at *
      have HL_s := Lib.hid hls
      clear hls
      generalize cutL (cutL xs a b) a b = d at *
      generalize cutE (cutL xs a b) a b = H at *
      generalize hld : d.length = n_d at *
      have HL_d := Lib.hid hld
      clear hld
      generalize cutE xs a b = G at *
      generalize cutL xs a b = cc at *
      generalize hlc : cc.length = n_c at *
      have HL_c := Lib.hid hlc
      clear hlc
      have hG1 : (G == 0) = false := by rw [beq_eq_false_iff_ne]; exact hG
      have hE1 : (E == 0) = false := by rw [beq_eq_false_iff_ne]; exact hE
      have hE2 : (E != 0) = true := by rw [bne_iff_ne]; exact hE
      have hd1 : decide (o < b) = true := decide_eq_true h1
      have hd2 : decide (a < e) = false := decide_eq_false h2
      go_enter Try.func6, Try.ntmps6
      go_wp2_with (first
      | (go_at_call 21; refine (HS3.out A_v c_v w7 R7_v.out).mono ?_; rintro e w8 ⟨v8, rfl, ho8, hb8⟩; obtain ⟨A_w, c_w, rfl, hr8⟩ := os_n ho8 n_w HL_w.out; clear ho8; have HB8 := Lib.hid (HB7.out.trans (hb8.mono HB7.out.size)); have KB8 := Lib.hid (KB7.out.trans (hb8.mono KB7.out.size)); have R8_s := Lib.hid (R7_s.out.on hb8 (Nat.le_refl _)); have R8_t := Lib.hid (R7_t.out.on hb8 (Nat.le_refl _)); have R8_c := Lib.hid (R7_c.out.on hb8 (Nat.le_refl _)); have R8_d := Lib.hid (R7_d.out.on hb8 (Nat.le_refl _)); have R8_u := Lib.hid (R7_u.out.on hb8 (Nat.le_refl _)); have R8_v := Lib.hid (R7_v.out.on hb8 (Nat.le_refl _)); have R8_w := Lib.hid hr8; clear hr8; clear hb8)
      | (go_at_call 19; refine (HT2.out w6 HB6.out).mono ?_; rintro e w7 ⟨v7, rfl, ho7, hb7⟩; obtain ⟨A_v, c_v, rfl, hr7⟩ := os_n ho7 n_v HL_v.out; clear ho7; have HB7 := Lib.hid (HB6.out.trans (hb7.mono HB6.out.size)); have KB7 := Lib.hid (KB6.out.trans (hb7.mono KB6.out.size)); have R7_s := Lib.hid (R6_s.out.on hb7 (Nat.le_refl _)); have R7_t := Lib.hid (R6_t.out.on hb7 (Nat.le_refl _)); have R7_c := Lib.hid (R6_c.out.on hb7 (Nat.le_refl _)); have R7_d := Lib.hid (R6_d.out.on hb7 (Nat.le_refl _)); have R7_u := Lib.hid (R6_u.out.on hb7 (Nat.le_refl _)); have R7_v := Lib.hid hr7; clear hr7; clear hb7)
      | (go_at_call 19; refine (HT1.out A_s c_s w5 R5_s.out).mono ?_; rintro e w6 ⟨v6, rfl, ho6, hb6⟩; obtain ⟨A_u, c_u, rfl, hr6⟩ := os_n ho6 n_u HL_u.out; clear ho6; have HB6 := Lib.hid (HB5.out.trans (hb6.mono HB5.out.size)); have KB6 := Lib.hid (KB5.out.trans (hb6.mono KB5.out.size)); have R6_s := Lib.hid (R5_s.out.on hb6 (Nat.le_refl _)); have R6_t := Lib.hid (R5_t.out.on hb6 (Nat.le_refl _)); have R6_c := Lib.hid (R5_c.out.on hb6 (Nat.le_refl _)); have R6_d := Lib.hid (R5_d.out.on hb6 (Nat.le_refl _)); have R6_u := Lib.hid hr6; clear hr6; clear hb6; have bc6_0 : w6.cell? ⟨w.heap.size, 0, none⟩ = some (.int .i64 at_.r) := (KB6.out.cell (p := ⟨w.heap.size, 0, none⟩) (by simp)).trans (by simp [go_sem]); have bc6_1 : w6.cell? ⟨w.heap.size, 1, none⟩ = some (.int .i64 at_.k) := (KB6.out.cell (p := ⟨w.heap.size, 1, none⟩) (by simp)).trans (by simp [go_sem]); have bc6_2 : w6.cell? ⟨w.heap.size, 2, none⟩ = some (.bool at_.g) := (KB6.out.cell (p := ⟨w.heap.size, 2, none⟩) (by simp)).trans (by simp [go_sem]); have bc6_3 : w6.cell? ⟨w.heap.size, 3, none⟩ = some (.bool at_.s) := (KB6.out.cell (p := ⟨w.heap.size, 3, none⟩) (by simp)).trans (by simp [go_sem]))
      | (go_at_call 14; refine (HC2.out A_c c_c w4 R4_c.out).mono ?_; rintro e w5 ⟨v5, rfl, ho5, hb5⟩; obtain ⟨A_d, c_d, rfl, hr5⟩ := os_n ho5 n_d HL_d.out; clear ho5; have HB5 := Lib.hid (HB4.out.trans (hb5.mono HB4.out.size)); have KB5 := Lib.hid (KB4.out.trans (hb5.mono KB4.out.size)); have R5_s := Lib.hid (R4_s.out.on hb5 (Nat.le_refl _)); have R5_t := Lib.hid (R4_t.out.on hb5 (Nat.le_refl _)); have R5_c := Lib.hid (R4_c.out.on hb5 (Nat.le_refl _)); have R5_d := Lib.hid hr5; clear hr5; clear hb5; have bc5_0 : w5.cell? ⟨w.heap.size, 0, none⟩ = some (.int .i64 at_.r) := (KB5.out.cell (p := ⟨w.heap.size, 0, none⟩) (by simp)).trans (by simp [go_sem]); have bc5_1 : w5.cell? ⟨w.heap.size, 1, none⟩ = some (.int .i64 at_.k) := (KB5.out.cell (p := ⟨w.heap.size, 1, none⟩) (by simp)).trans (by simp [go_sem]); have bc5_2 : w5.cell? ⟨w.heap.size, 2, none⟩ = some (.bool at_.g) := (KB5.out.cell (p := ⟨w.heap.size, 2, none⟩) (by simp)).trans (by simp [go_sem]); have bc5_3 : w5.cell? ⟨w.heap.size, 3, none⟩ = some (.bool at_.s) := (KB5.out.cell (p := ⟨w.heap.size, 3, none⟩) (by simp)).trans (by simp [go_sem]))
      | (go_at_call 14; refine (HC1.out w3 HB3.out).mono ?_; rintro e w4 ⟨v4, rfl, ho4, hb4⟩; obtain ⟨A_c, c_c, rfl, hr4⟩ := os_n ho4 n_c HL_c.out; clear ho4; have HB4 := Lib.hid (HB3.out.trans (hb4.mono HB3.out.size)); have KB4 := Lib.hid (KB3.out.trans (hb4.mono KB3.out.size)); have R4_s := Lib.hid (R3_s.out.on hb4 (Nat.le_refl _)); have R4_t := Lib.hid (R3_t.out.on hb4 (Nat.le_refl _)); have R4_c := Lib.hid hr4; clear hr4; clear hb4)
      | (go_at_call 21; refine (HS2.out A_s c_s w2 R2_s.out).mono ?_; rintro e w3 ⟨v3, rfl, ho3, hb3⟩; obtain ⟨A_t, c_t, rfl, hr3⟩ := os_n ho3 n_t HL_t.out; clear ho3; have HB3 := Lib.hid (HB2.out.trans (hb3.mono HB2.out.size)); have KB3 := Lib.hid (KB2.out.trans (hb3.mono KB2.out.size)); have R3_s := Lib.hid (R2_s.out.on hb3 (Nat.le_refl _)); have R3_t := Lib.hid hr3; clear hr3; clear hb3)
      | (go_at_call 21; refine (HS1.out w1 HB1.out).mono ?_; rintro e w2 ⟨v2, rfl, ho2, hb2⟩; obtain ⟨A_s, c_s, rfl, hr2⟩ := os_n ho2 n_s HL_s.out; clear ho2; have HB2 := Lib.hid (HB1.out.trans (hb2.mono HB1.out.size)); have KB2 := Lib.hid (KB1.out.trans (hb2.mono KB1.out.size)); have R2_s := Lib.hid hr2; clear hr2; clear hb2)
      | (go_at_call 25; refine (alive8_any _).mono ?_; rintro e w1 ⟨rfl, hb1⟩; have HB1 := Lib.hid (HB0.out.trans (hb1.mono (by simp))); have KB1 := Lib.hid hb1; clear hb1))
      go_ret
      exact ⟨rfl, HB8.out⟩
  · clear hz
    generalize turnL (turnL xs a b (fun a : Att => (⟨a.r, a.k, a.g, true⟩ : Att))) o e (fun _ => at_) = u at *
    generalize turnE (turnL xs a b (fun a : Att => (⟨a.r, a.k, a.g, true⟩ : Att))) o e = I at *
    generalize hlu : u.length = n_u at *
    have HL_u := Lib.hid hlu
    clear hlu
    generalize turnL (turnL xs o e fun _ => at_) a b (fun a : Att => (⟨a.r, a.k, a.g, true⟩ : Att)) = w_ at *
    generalize hlw : w_.length = n_w at *
    have HL_w := Lib.hid hlw
    clear hlw
    generalize turnE (turnL xs o e fun _ => at_) a b = K at *
    generalize turnE xs o e = J at *
    generalize turnL xs o e (fun _ => at_) = v at *
    generalize hlv : v.length = n_v at *
    have HL_v := Lib.hid hlv
    clear hlv
    generalize turnL (turnL xs a b (fun a : Att => (⟨a.r, a.k, a.g, true⟩ : Att))) a b (fun a : Att => (⟨a.r, a.k, a.g, true⟩ : Att)) = t at *
    generalize turnE (turnL xs a b (fun a : Att => (⟨a.r, a.k, a.g, true⟩ : Att))) a b = F at *
    generalize hlt : t.length = n_t at *
    have HL_t := Lib.hid hlt
    clear hlt
    generalize turnE xs a b = E at *
    generalize (turnL xs a b (fun a : Att => (⟨a.r, a.k, a.g, true⟩ : Att))) = s at *
    generalize hls : s.length = n_s at *
    have HL_s := Lib.hid hls
    clear hls
    generalize cutL (cutL xs a b) a b = d at *
    generalize cutE (cutL xs a b) a b = H at *
    generalize hld : d.length = n_d at *
    have HL_d := Lib.hid hld
    clear hld
    generalize cutE xs a b = G at *
    generalize cutL xs a b = cc at *
    generalize hlc : cc.length = n_c at *
    have HL_c := Lib.hid hlc
    clear hlc
    have hG1 : (G == 0) = false := by rw [beq_eq_false_iff_ne]; exact hG
    have hE1 : (E == 0) = false := by rw [beq_eq_false_iff_ne]; exact hE
    have hE2 : (E != 0) = true := by rw [bne_iff_ne]; exact hE
    have hd1 : decide (o < b) = false := decide_eq_false h1
    go_enter Try.func6, Try.ntmps6
    go_wp2_with (first
    | (go_at_call 21; refine (HS3.out A_v c_v w7 R7_v.out).mono ?_; rintro e w8 ⟨v8, rfl, ho8, hb8⟩; obtain ⟨A_w, c_w, rfl, hr8⟩ := os_n ho8 n_w HL_w.out; clear ho8; have HB8 := Lib.hid (HB7.out.trans (hb8.mono HB7.out.size)); have KB8 := Lib.hid (KB7.out.trans (hb8.mono KB7.out.size)); have R8_s := Lib.hid (R7_s.out.on hb8 (Nat.le_refl _)); have R8_t := Lib.hid (R7_t.out.on hb8 (Nat.le_refl _)); have R8_c := Lib.hid (R7_c.out.on hb8 (Nat.le_refl _)); have R8_d := Lib.hid (R7_d.out.on hb8 (Nat.le_refl _)); have R8_u := Lib.hid (R7_u.out.on hb8 (Nat.le_refl _)); have R8_v := Lib.hid (R7_v.out.on hb8 (Nat.le_refl _)); have R8_w := Lib.hid hr8; clear hr8; clear hb8)
    | (go_at_call 19; refine (HT2.out w6 HB6.out).mono ?_; rintro e w7 ⟨v7, rfl, ho7, hb7⟩; obtain ⟨A_v, c_v, rfl, hr7⟩ := os_n ho7 n_v HL_v.out; clear ho7; have HB7 := Lib.hid (HB6.out.trans (hb7.mono HB6.out.size)); have KB7 := Lib.hid (KB6.out.trans (hb7.mono KB6.out.size)); have R7_s := Lib.hid (R6_s.out.on hb7 (Nat.le_refl _)); have R7_t := Lib.hid (R6_t.out.on hb7 (Nat.le_refl _)); have R7_c := Lib.hid (R6_c.out.on hb7 (Nat.le_refl _)); have R7_d := Lib.hid (R6_d.out.on hb7 (Nat.le_refl _)); have R7_u := Lib.hid (R6_u.out.on hb7 (Nat.le_refl _)); have R7_v := Lib.hid hr7; clear hr7; clear hb7)
    | (go_at_call 19; refine (HT1.out A_s c_s w5 R5_s.out).mono ?_; rintro e w6 ⟨v6, rfl, ho6, hb6⟩; obtain ⟨A_u, c_u, rfl, hr6⟩ := os_n ho6 n_u HL_u.out; clear ho6; have HB6 := Lib.hid (HB5.out.trans (hb6.mono HB5.out.size)); have KB6 := Lib.hid (KB5.out.trans (hb6.mono KB5.out.size)); have R6_s := Lib.hid (R5_s.out.on hb6 (Nat.le_refl _)); have R6_t := Lib.hid (R5_t.out.on hb6 (Nat.le_refl _)); have R6_c := Lib.hid (R5_c.out.on hb6 (Nat.le_refl _)); have R6_d := Lib.hid (R5_d.out.on hb6 (Nat.le_refl _)); have R6_u := Lib.hid hr6; clear hr6; clear hb6; have bc6_0 : w6.cell? ⟨w.heap.size, 0, none⟩ = some (.int .i64 at_.r) := (KB6.out.cell (p := ⟨w.heap.size, 0, none⟩) (by simp)).trans (by simp [go_sem]); have bc6_1 : w6.cell? ⟨w.heap.size, 1, none⟩ = some (.int .i64 at_.k) := (KB6.out.cell (p := ⟨w.heap.size, 1, none⟩) (by simp)).trans (by simp [go_sem]); have bc6_2 : w6.cell? ⟨w.heap.size, 2, none⟩ = some (.bool at_.g) := (KB6.out.cell (p := ⟨w.heap.size, 2, none⟩) (by simp)).trans (by simp [go_sem]); have bc6_3 : w6.cell? ⟨w.heap.size, 3, none⟩ = some (.bool at_.s) := (KB6.out.cell (p := ⟨w.heap.size, 3, none⟩) (by simp)).trans (by simp [go_sem]))
    | (go_at_call 14; refine (HC2.out A_c c_c w4 R4_c.out).mono ?_; rintro e w5 ⟨v5, rfl, ho5, hb5⟩; obtain ⟨A_d, c_d, rfl, hr5⟩ := os_n ho5 n_d HL_d.out; clear ho5; have HB5 := Lib.hid (HB4.out.trans (hb5.mono HB4.out.size)); have KB5 := Lib.hid (KB4.out.trans (hb5.mono KB4.out.size)); have R5_s := Lib.hid (R4_s.out.on hb5 (Nat.le_refl _)); have R5_t := Lib.hid (R4_t.out.on hb5 (Nat.le_refl _)); have R5_c := Lib.hid (R4_c.out.on hb5 (Nat.le_refl _)); have R5_d := Lib.hid hr5; clear hr5; clear hb5; have bc5_0 : w5.cell? ⟨w.heap.size, 0, none⟩ = some (.int .i64 at_.r) := (KB5.out.cell (p := ⟨w.heap.size, 0, none⟩) (by simp)).trans (by simp [go_sem]); have bc5_1 : w5.cell? ⟨w.heap.size, 1, none⟩ = some (.int .i64 at_.k) := (KB5.out.cell (p := ⟨w.heap.size, 1, none⟩) (by simp)).trans (by simp [go_sem]); have bc5_2 : w5.cell? ⟨w.heap.size, 2, none⟩ = some (.bool at_.g) := (KB5.out.cell (p := ⟨w.heap.size, 2, none⟩) (by simp)).trans (by simp [go_sem]); have bc5_3 : w5.cell? ⟨w.heap.size, 3, none⟩ = some (.bool at_.s) := (KB5.out.cell (p := ⟨w.heap.size, 3, none⟩) (by simp)).trans (by simp [go_sem]))
    | (go_at_call 14; refine (HC1.out w3 HB3.out).mono ?_; rintro e w4 ⟨v4, rfl, ho4, hb4⟩; obtain ⟨A_c, c_c, rfl, hr4⟩ := os_n ho4 n_c HL_c.out; clear ho4; have HB4 := Lib.hid (HB3.out.trans (hb4.mono HB3.out.size)); have KB4 := Lib.hid (KB3.out.trans (hb4.mono KB3.out.size)); have R4_s := Lib.hid (R3_s.out.on hb4 (Nat.le_refl _)); have R4_t := Lib.hid (R3_t.out.on hb4 (Nat.le_refl _)); have R4_c := Lib.hid hr4; clear hr4; clear hb4)
    | (go_at_call 21; refine (HS2.out A_s c_s w2 R2_s.out).mono ?_; rintro e w3 ⟨v3, rfl, ho3, hb3⟩; obtain ⟨A_t, c_t, rfl, hr3⟩ := os_n ho3 n_t HL_t.out; clear ho3; have HB3 := Lib.hid (HB2.out.trans (hb3.mono HB2.out.size)); have KB3 := Lib.hid (KB2.out.trans (hb3.mono KB2.out.size)); have R3_s := Lib.hid (R2_s.out.on hb3 (Nat.le_refl _)); have R3_t := Lib.hid hr3; clear hr3; clear hb3)
    | (go_at_call 21; refine (HS1.out w1 HB1.out).mono ?_; rintro e w2 ⟨v2, rfl, ho2, hb2⟩; obtain ⟨A_s, c_s, rfl, hr2⟩ := os_n ho2 n_s HL_s.out; clear ho2; have HB2 := Lib.hid (HB1.out.trans (hb2.mono HB1.out.size)); have KB2 := Lib.hid (KB1.out.trans (hb2.mono KB1.out.size)); have R2_s := Lib.hid hr2; clear hr2; clear hb2)
    | (go_at_call 25; refine (alive8_any _).mono ?_; rintro e w1 ⟨rfl, hb1⟩; have HB1 := Lib.hid (HB0.out.trans (hb1.mono (by simp))); have KB1 := Lib.hid hb1; clear hb1))
    go_ret
    exact ⟨rfl, HB8.out⟩
theorem regionOnce_walk {w : World} (A : Option Addr) (n c : Nat) (xs : List Rgn) (hz : Rw fR 6 w w.heap.size A n xs) (hwf : ∀ x ∈ xs, x.fits) (hcap : n ≤ c) (hmax : c ≤ maxLen) (big : c ≤ 3518437208780) (a : Int) (ha : I64 a) (b : Int) (hb : I64 b) (o : Int) (ho : I64 o) (e : Int) (he : I64 e) (at_ : Att) (hat : at_.fits) :
    Calls Try.prog 6 #[.slice A n c, .int .i64 a, .int .i64 b, .int .i64 o, .int .i64 e, .agg #[.int .i64 at_.r, .int .i64 at_.k, .bool at_.g, .bool at_.s]] w fun e w' => e = .returned (.bool true) ∧ Below w.heap.size w w' := by
  by_cases hE : turnE xs a b = 0 <;> by_cases hG : cutE xs a b = 0
  · exact once_11 A n c xs w hz (by omega) a b o e at_ hE hG
  · exact once_10 A n c xs w hz (by omega) a b o e at_ hE hG
  · exact once_01 A n c xs w hz (by omega) a b o e at_ hE hG
  · exact once_00 A n c xs w hz (by omega) a b o e at_ hE hG
end Go.Proofs.Ytnpmbjplmollkaa
