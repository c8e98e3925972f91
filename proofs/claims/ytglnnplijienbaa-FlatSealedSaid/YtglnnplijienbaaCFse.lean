/- FlatSealed: its walk. -/
import Derived.Test.YtglnnplijienbaaCFcc
import Derived.Test.YtglnnplijienbaaCSlP
import Derived.Test.YtglnnplijienbaaCFrt
namespace Go.Proofs.Ytglnnplijienbaa
open Go.ChangeShapes Go.WideShapes Go.ChangeAt Go.RowKit Go.Joins Go.Sort
set_option linter.unusedVariables false
set_option linter.unusedSimpArgs false
set_option maxRecDepth 100000
theorem exit_pred (w : World) (base : Nat) : PredP 18 #[] (fun x => decide (x.kind = 9)) base w := by
  intro W x hW
  obtain ⟨k, pr, pg, cn, ri, ke, tgd, dr, ad, sz, va, ta⟩ := x
  by_cases hk : k = 9
  · have hk2 : (k == 9) = true := by rw [hk]; rfl
    go_enter Try.func18, Try.ntmps18
    go_wp2
    go_ret
    exact ⟨ret_b (by simp [hk]), (Below.refl _ _).alloc (Nat.le_refl _) _⟩
  · have hk2 : (k == 9) = false := by rw [beq_eq_false_iff_ne]; exact hk
    go_enter Try.func18, Try.ntmps18
    go_wp2
    go_ret
    exact ⟨ret_b (by simp [hk]), (Below.refl _ _).alloc (Nat.le_refl _) _⟩
theorem findP_of {o : Option Att} {r k : Int} {g s b : Bool} {w w' : World} {e : Ending} (h1 : o.getD zA = ⟨r, k, g, s⟩) (h2 : o.isSome = b) (h : FindP o w e w') : e = .returned (.tuple #[.agg #[.int .i64 r, .int .i64 k, .bool g, .bool s], .bool b]) ∧ Below w.heap.size w w' := by
  unfold FindP at h
  rw [h1, h2] at h
  exact h
theorem find_as {A : Option Addr} {c : Nat} {l : List Rgn} {pg : Int} {w : World} {r k : Int} {g s b : Bool} (hz : Rw fR 6 w w.heap.size A l.length l) (hl : l.length ≤ 64) (h1 : (at? l pg).getD zA = ⟨r, k, g, s⟩) (h2 : (at? l pg).isSome = b) : Calls Try.prog 20 #[.slice A l.length c, .int .i64 pg] w fun e w' => e = .returned (.tuple #[.agg #[.int .i64 r, .int .i64 k, .bool g, .bool s], .bool b]) ∧ Below w.heap.size w w' :=
  (find_any A l.length c l pg w _ hz (Nat.le_refl _) (by omega)).mono fun e w' h => findP_of h1 h2 h
structure Aft (w5 w6 : World) (b3 k : Nat) (cs5 : Array Value) (pg : Int) (xr xk yr yk : Int) (xg xs_ yg ys_ bx by_ : Bool) (Ax Ay : Option Addr) (lx ly cx cy : Nat) : Prop where
  d0 : (w6.alloc (.cells cs5 32)).cell? ⟨b3, k * 11 + 1, none⟩ = some (.slice Ax lx cx)
  d1 : (w6.alloc (.cells cs5 32)).cell? ⟨w6.heap.size, k * 11 + 1, none⟩ = some (.slice Ay ly cy)
  lt : b3 < w6.heap.size + 1
  bk : Bx (w6.alloc (.cells cs5 32)) w6.heap.size 32 cs5
  bw : Below w5.heap.size w5 (w6.alloc (.cells cs5 32))
  f1 : Calls Try.prog 20 #[.slice Ax lx cx, .int .i64 pg] (w6.alloc (.cells cs5 32)) fun e w' => e = .returned (.tuple #[.agg #[.int .i64 xr, .int .i64 xk, .bool xg, .bool xs_], .bool bx]) ∧ Below (w6.alloc (.cells cs5 32)).heap.size (w6.alloc (.cells cs5 32)) w'
  f2 : ∀ w', Below (w6.alloc (.cells cs5 32)).heap.size (w6.alloc (.cells cs5 32)) w' → Calls Try.prog 20 #[.slice Ay ly cy, .int .i64 pg] w' fun e w'' => e = .returned (.tuple #[.agg #[.int .i64 yr, .int .i64 yk, .bool yg, .bool ys_], .bool by_]) ∧ Below w'.heap.size w' w''
theorem aft_of {w5 w6 : World} {b3 ba5 k : Nat} {cs cs5 : Array Value} {pg : Int} {W1 W2 : Fw} {xr xk yr yk : Int} {xg xs_ yg ys_ bx by_ : Bool} (hk4 : k < 4) (SE5 : Seem w5 ba5 cs W1) (CX5 : Bx w5 b3 32 cs) (f6 : Seem w6 w5.heap.size cs5 W2) (hb6 : Below w5.heap.size w5 w6) (ok1 : OkW W1) (ok2 : OkW W2)
    (hva : (⟨xr, xk, xg, xs_⟩ : Att) = (at? (W1 k).rg pg).getD zA) (hbx : bx = (at? (W1 k).rg pg).isSome) (hvb : (⟨yr, yk, yg, ys_⟩ : Att) = (at? (W2 k).rg pg).getD zA) (hby : by_ = (at? (W2 k).rg pg).isSome) : ∃ Ax Ay lx ly cx cy, Aft w5 w6 b3 k cs5 pg xr xk yr yk xg xs_ yg ys_ bx by_ Ax Ay lx ly cx cy := by
  have hb67 := hb6.trans ((below1 w6 (.cells cs5 32)).mono hb6.size)
  have CX7 := CX5.below hb67
  have CY7 : Bx (w6.alloc (.cells cs5 32)) w6.heap.size 32 cs5 := Bx.new _ _ _
  have hx7 := (SE5.below hb67).each k hk4
  have hy7 := (f6.below (below1 w6 (.cells cs5 32))).each k hk4
  obtain ⟨vx, gx, ox⟩ := hx7.rg
  obtain ⟨vy, gy, oy⟩ := hy7.rg
  obtain ⟨Ax, cx, rfl, _, _, rx⟩ := ox.row fR_len
  obtain ⟨Ay, cy, rfl, _, _, ry⟩ := oy.row fR_len
  have hlx := rightL_len (ok1.p k).r
  have hly := rightL_len (ok2.p k).r
  have ld := CX7.lt
  simp only [World.size_alloc] at ld
  refine ⟨Ax, Ay, (W1 k).rg.length, (W2 k).rg.length, cx, cy, ?_, ?_, ld, CY7, hb67, ?_, ?_⟩
  · rw [CX7.cell]; exact gx
  · rw [CY7.cell]; exact gy
  · exact find_as rx hlx hva.symm hbx.symm
  · intro w' hb
    exact find_as (ry.on hb (Nat.le_refl _)) hly hvb.symm hby.symm
attribute [local go_sem] run_eqA
set_option maxHeartbeats 16000000 in
theorem flatSealed_walk {w : World} (A : Option Addr) (n c : Nat) (xs : List Fop) (hz : Rw fO 12 w w.heap.size A n xs) (hwf : ∀ x ∈ xs, x.fits) (hcap : n ≤ c) (_ : c ≤ maxLen) (hbig : c ≤ 1466015503658)
    (A' : Option Addr) (n' c' : Nat) (ys : List Fop) (hz' : Rw fO 12 w w.heap.size A' n' ys) (hwf' : ∀ x ∈ ys, x.fits) (hcap' : n' ≤ c') (_ : c' ≤ maxLen) (hbig' : c' ≤ 1466015503658) (pr : Int) (fp : I64 pr) (pg : Int) (fg : I64 pg) :
    Calls Try.prog 7 #[.slice A n c, .slice A' n' c', .int .i64 pr, .int .i64 pg] w fun e w' => e = .returned (.bool true) ∧ Below w.heap.size w w' := by
  have hln := hz.1
  have hln' := hz'.1
  have HRUN : Hid (∀ w', Below w.heap.size w w' → Calls Try.prog 9 #[.slice A n c] w' (GivesRun w' xs)) := Lib.hid (fun w' hb => run_any A n c xs w' _ (hz.on hb (Nat.le_refl _)) (Nat.le_refl _) (by omega) hwf)
  have HRU2 : Hid (∀ w' (b : Nat) v, Os fO 12 43 w' b v (xs ++ ys) → Calls Try.prog 9 #[v] w' (GivesRun w' (xs ++ ys))) := Lib.hid (fun w' b v h => by
    obtain ⟨A1, c1, rfl, h1, h2, h3⟩ := h.row fO_len
    exact run_any A1 _ c1 _ w' _ h3 (Nat.le_refl _) (by simp; omega) (by
      intro x hx
      rcases List.mem_append.1 hx with hx | hx
      · exact hwf x hx
      · exact hwf' x hx))
  have HCON : Hid (∀ w' b, Below w.heap.size w w' → Bx w' b 22 #[.slice A n c, .slice A' n' c'] → Calls Try.prog 19 #[.slice (some ⟨b, 0, none⟩) 2 2] w' fun e w'' => ∃ v, e = .returned v ∧ Os fO 12 43 w'' w'.heap.size v (xs ++ ys) ∧ Below w'.heap.size w' w'') := Lib.hid (fun w' b hb hx => concat_O A A' n c n' c' xs ys w' b (hz.on hb (Nat.le_refl _)) (hz'.on hb (Nat.le_refl _)) hx (by omega) (by omega))
  have HCT : Hid (∀ w', Below w.heap.size w w' → Calls Try.prog 17 #[.slice A' n' c', .func (.func 18) #[] #[]] w' fun e w'' => e = .returned (.bool (ys.any fun x => decide (x.kind = 9))) ∧ Below w'.heap.size w' w'') := Lib.hid (fun w' hb => containsFunc_P _ _ (enters_of Try.func18 (by kernel_rfl) rfl) (fun x => decide (x.kind = 9)) A' n' c' ys w' w'.heap.size w'.heap.size (hz'.on hb (Nat.le_refl _)) (Nat.le_refl _) (Nat.le_refl _) (by omega) (exit_pred w' w'.heap.size))
  have HSL := Lib.hid (fun (hm : (ys.any fun x => decide (x.kind = 9)) = false) (k : Nat) (a : Att) (h : at? ((runF xs).1 k).rg pg = some a) (hs : a.s = true) => sealed_law xs ys (fun o ho e => by
    have := List.any_eq_false.1 hm o ho
    simp [e] at this) h hs)
  obtain ⟨S1, hS1⟩ : ∃ S, S = runF xs := ⟨_, rfl⟩
  obtain ⟨S2, hS2⟩ : ∃ S, S = runF (xs ++ ys) := ⟨_, rfl⟩
  have HE1 := Lib.hid hS1
  have HE2 := Lib.hid hS2
  have HOK1 : Hid (OkW S1.1) := Lib.hid (by rw [hS1]; exact ok_run xs)
  have HOK2 : Hid (OkW S2.1) := Lib.hid (by rw [hS2]; exact ok_run (xs ++ ys))
  rw [← hS1, ← hS2] at HSL
  have HAL := Lib.hid (alive14_any w)
  clear hS1 hS2 hz hz' hwf hwf' hln hln'
  generalize (ys.any fun x => decide (x.kind = 9)) = ex at *
  by_cases c1 : pr < 0
  · go_enter Try.func7, Try.ntmps7
    go_wp2_with (first
      | (go_at_call 8; refine HAL.out.mono ?_; rintro e w1 ⟨rfl, hb1⟩))
    go_ret
    exact ⟨ret_b rfl, hb1⟩
  by_cases c2 : 4 ≤ pr
  · go_enter Try.func7, Try.ntmps7
    go_wp2_with (first
      | (go_at_call 8; refine HAL.out.mono ?_; rintro e w1 ⟨rfl, hb1⟩))
    go_ret
    exact ⟨ret_b rfl, hb1⟩
  obtain ⟨k, rfl⟩ := Int.eq_ofNat_of_zero_le (by omega : 0 ≤ pr)
  have hk4 : k < 4 := by omega
  have g1 : decide ((k : Int) < 0) = false := decide_eq_false c1
  have g2 : decide (4 ≤ (k : Int)) = false := decide_eq_false c2
  have g3 : decide (4 ≤ k) = false := decide_eq_false (by omega)
  cases hex : ex with
  | true =>
    subst hex
    go_enter Try.func7, Try.ntmps7
    go_wp2_with (first
      | (go_at_call 8; refine HAL.out.mono ?_; rintro e w1 ⟨rfl, hb1⟩; have HB1 := Lib.hid hb1; clear hb1)
      | (go_at_call 17; refine (HCT.out w1 HB1.out).mono ?_; rintro e w2 ⟨rfl, hb2⟩; have HB2 := Lib.hid (HB1.out.trans (hb2.mono HB1.out.size)); clear hb2))
    go_ret
    exact ⟨ret_b rfl, HB2.out⟩
  | false =>
    have HSL2 := Lib.hid (HSL.out hex)
    clear HSL
    subst hex
    obtain ⟨⟨xr, xk, xg, xs_⟩, hva⟩ : ∃ va, va = (at? (S1.1 k).rg pg).getD zA := ⟨_, rfl⟩
    obtain ⟨bx, hbx⟩ : ∃ bx, bx = (at? (S1.1 k).rg pg).isSome := ⟨_, rfl⟩
    obtain ⟨⟨yr, yk, yg, ys_⟩, hvb⟩ : ∃ vb, vb = (at? (S2.1 k).rg pg).getD zA := ⟨_, rfl⟩
    obtain ⟨by_, hby⟩ : ∃ by_, by_ = (at? (S2.1 k).rg pg).isSome := ⟨_, rfl⟩
    have hp : bx = true → xs_ = true → by_ = true ∧ (⟨yr, yk, yg, ys_⟩ : Att) = ⟨xr, xk, xg, xs_⟩ := fun h1 h2 => by
      rw [hbx] at h1
      obtain ⟨a, ha⟩ := Option.isSome_iff_exists.1 h1
      rw [ha] at hva
      have h3 : a = ⟨xr, xk, xg, xs_⟩ := hva.symm
      have h4 := HSL2.out k a ha (by rw [h3]; exact h2)
      rw [hby, hvb, h4]
      exact ⟨rfl, h3⟩
    have HVA := Lib.hid hva
    have HBX := Lib.hid hbx
    have HVB := Lib.hid hvb
    have HBY := Lib.hid hby
    clear HSL2 hva hbx hvb hby
    cases bx with
    | false =>
      clear hp
      go_enter Try.func7, Try.ntmps7
      go_wp2_with (first
        | (go_at_call 8; refine HAL.out.mono ?_; rintro e w1 ⟨rfl, hb1⟩; have HB1 := Lib.hid hb1; clear hb1)
        | (go_at_call 17; refine (HCT.out w1 HB1.out).mono ?_; rintro e w2 ⟨rfl, hb2⟩; have HB2 := Lib.hid (HB1.out.trans (hb2.mono HB1.out.size)); clear hb2)
        | (go_at_call 19
           refine (HCON.out ((w3.alloc (.cells cs 32)).alloc (.cells #[.slice A n c, .slice A' n' c'] 22)) (w3.heap.size + 1) (HB3.out.trans (((below1 w3 (.cells cs 32)).alloc (by simp) _).mono HB3.out.size)) (by have := Bx.new (w3.alloc (.cells cs 32)) 22 #[.slice A n c, .slice A' n' c']; rwa [World.size_alloc] at this)).mono ?_
           rintro e w5 ⟨v5, rfl, ho5, hb5⟩
           obtain ⟨A5, n5, c5, rfl⟩ := ho5.slice
           have HO5 := Lib.hid ho5
           have hb35 := ((below1 w3 (.cells cs 32)).alloc (by simp) (.cells #[.slice A n c, .slice A' n' c'] 22)).trans (hb5.mono (by simp; omega))
           have HB5 := Lib.hid (HB3.out.trans (hb35.mono HB3.out.size))
           have CX5 : Hid (Bx w5 w3.heap.size 32 cs) := Lib.hid (((Bx.new w3 32 cs).below (below1 _ _)).below hb5)
           have SE5 := Lib.hid (HSE.out.below hb35)
           clear ho5 hb5 hb35)
        | ((with_reducible refine stN infoS4 cs5 ?_ ?_ rfl HS5.out HO6.out ?_); rfl; rfl)
        | (go_at_call 9
           refine (HRU2.out w5 _ _ HO5.out).mono ?_
           rintro e w6 ⟨va6, cs5, rfl, f5, f6, hb6⟩
           rw [← HE2.out] at f5 f6
           obtain ⟨A6, n6, c6, rfl⟩ := f5.slice
           have HS5 := Lib.hid f6.size
           have HO6 := Lib.hid f6.one
           obtain ⟨Ax, Ay, lx, ly, cx, cy, af⟩ := aft_of hk4 SE5.out CX5.out f6 hb6 HOK1.out HOK2.out HVA.out HBX.out HVB.out HBY.out
           have HAF := Lib.hid af
           have HB7 := Lib.hid (HB5.out.trans (af.bw.mono HB5.out.size))
           have d0 := af.d0
           have ld := af.lt
           clear f5 f6 hb6 af)
        | (go_at_call 9
           refine (HRUN.out w2 HB2.out).mono ?_
           rintro e w3 ⟨va, cs, rfl, ha, hs, hb3⟩
           rw [← HE1.out] at ha hs
           obtain ⟨Aa, na, ca, rfl⟩ := ha.slice
           have HS := Lib.hid hs.size
           have HO := Lib.hid hs.one
           have HSE := Lib.hid hs
           have HB3 := Lib.hid (HB2.out.trans (hb3.mono HB2.out.size))
           clear ha hs hb3)
        | ((with_reducible refine stN infoS4 cs ?_ ?_ rfl HS.out HO.out ?_); rfl; rfl)
        | (go_at_call 20
           refine HF3.out.mono ?_
           rintro e w9 ⟨rfl, hb9⟩
           have HB9 := Lib.hid hb9
           have bz : Bx (w9.alloc (.cells #[.int .i64 yr, .int .i64 yk, .bool yg, .bool ys_] 38)) w8.heap.size 38 #[.int .i64 xr, .int .i64 xk, .bool xg, .bool xs_] := ((Bx.new w8 _ _).below hb9).below (below1 _ _)
           have e0 := (bz.cell 0).trans rfl
           have e1 := (bz.cell 1).trans rfl
           have e2 := (bz.cell 2).trans rfl
           have e3 := (bz.cell 3).trans rfl
           have ld3 : w8.heap.size < w9.heap.size := Nat.lt_of_lt_of_le (by simp) hb9.size
           clear hb9 bz)
        | (go_at_call 20
           refine HAF.out.f1.mono ?_
           rintro e w8 ⟨rfl, hb8⟩
           have HB8 := Lib.hid hb8
           have d1 : (w8.alloc (.cells #[.int .i64 xr, .int .i64 xk, .bool xg, .bool xs_] 38)).cell? ⟨w6.heap.size, k * 11 + 1, none⟩ = some (.slice Ay ly cy) := Lib.cell?_alloc_some _ ((hb8.cell (p := ⟨w6.heap.size, k * 11 + 1, none⟩) HAF.out.bk.lt).trans HAF.out.d1)
           have ld2 : w6.heap.size < w8.heap.size := Nat.lt_of_lt_of_le HAF.out.bk.lt hb8.size
           have HF3 := Lib.hid (HAF.out.f2 (w8.alloc (.cells #[.int .i64 xr, .int .i64 xk, .bool xg, .bool xs_] 38)) (hb8.trans ((below1 _ _).mono hb8.size)))
           clear hb8))
      go_ret
      exact ⟨ret_b rfl, HB7.out.trans ((HB8.out.trans (((below1 _ _).trans (HB9.out.mono (by simp))).mono HB8.out.size)).mono HB7.out.size |>.trans ((below1 _ _).mono (by have := HB7.out.size; have := HB8.out.size; have := HB9.out.size; simp at *; omega)))⟩
    | true =>
      cases xs_ with
      | false =>
        clear hp
        go_enter Try.func7, Try.ntmps7
        go_wp2_with (first
          | (go_at_call 8; refine HAL.out.mono ?_; rintro e w1 ⟨rfl, hb1⟩; have HB1 := Lib.hid hb1; clear hb1)
          | (go_at_call 17; refine (HCT.out w1 HB1.out).mono ?_; rintro e w2 ⟨rfl, hb2⟩; have HB2 := Lib.hid (HB1.out.trans (hb2.mono HB1.out.size)); clear hb2)
          | (go_at_call 19
             refine (HCON.out ((w3.alloc (.cells cs 32)).alloc (.cells #[.slice A n c, .slice A' n' c'] 22)) (w3.heap.size + 1) (HB3.out.trans (((below1 w3 (.cells cs 32)).alloc (by simp) _).mono HB3.out.size)) (by have := Bx.new (w3.alloc (.cells cs 32)) 22 #[.slice A n c, .slice A' n' c']; rwa [World.size_alloc] at this)).mono ?_
             rintro e w5 ⟨v5, rfl, ho5, hb5⟩
             obtain ⟨A5, n5, c5, rfl⟩ := ho5.slice
             have HO5 := Lib.hid ho5
             have hb35 := ((below1 w3 (.cells cs 32)).alloc (by simp) (.cells #[.slice A n c, .slice A' n' c'] 22)).trans (hb5.mono (by simp; omega))
             have HB5 := Lib.hid (HB3.out.trans (hb35.mono HB3.out.size))
             have CX5 : Hid (Bx w5 w3.heap.size 32 cs) := Lib.hid (((Bx.new w3 32 cs).below (below1 _ _)).below hb5)
             have SE5 := Lib.hid (HSE.out.below hb35)
             clear ho5 hb5 hb35)
          | ((with_reducible refine stN infoS4 cs5 ?_ ?_ rfl HS5.out HO6.out ?_); rfl; rfl)
          | (go_at_call 9
             refine (HRU2.out w5 _ _ HO5.out).mono ?_
             rintro e w6 ⟨va6, cs5, rfl, f5, f6, hb6⟩
             rw [← HE2.out] at f5 f6
             obtain ⟨A6, n6, c6, rfl⟩ := f5.slice
             have HS5 := Lib.hid f6.size
             have HO6 := Lib.hid f6.one
             obtain ⟨Ax, Ay, lx, ly, cx, cy, af⟩ := aft_of hk4 SE5.out CX5.out f6 hb6 HOK1.out HOK2.out HVA.out HBX.out HVB.out HBY.out
             have HAF := Lib.hid af
             have HB7 := Lib.hid (HB5.out.trans (af.bw.mono HB5.out.size))
             have d0 := af.d0
             have ld := af.lt
             clear f5 f6 hb6 af)
          | (go_at_call 9
             refine (HRUN.out w2 HB2.out).mono ?_
             rintro e w3 ⟨va, cs, rfl, ha, hs, hb3⟩
             rw [← HE1.out] at ha hs
             obtain ⟨Aa, na, ca, rfl⟩ := ha.slice
             have HS := Lib.hid hs.size
             have HO := Lib.hid hs.one
             have HSE := Lib.hid hs
             have HB3 := Lib.hid (HB2.out.trans (hb3.mono HB2.out.size))
             clear ha hs hb3)
          | ((with_reducible refine stN infoS4 cs ?_ ?_ rfl HS.out HO.out ?_); rfl; rfl)
          | (go_at_call 20
             refine HF3.out.mono ?_
             rintro e w9 ⟨rfl, hb9⟩
             have HB9 := Lib.hid hb9
             have bz : Bx (w9.alloc (.cells #[.int .i64 yr, .int .i64 yk, .bool yg, .bool ys_] 38)) w8.heap.size 38 #[.int .i64 xr, .int .i64 xk, .bool xg, .bool false] := ((Bx.new w8 _ _).below hb9).below (below1 _ _)
             have e0 := (bz.cell 0).trans rfl
             have e1 := (bz.cell 1).trans rfl
             have e2 := (bz.cell 2).trans rfl
             have e3 := (bz.cell 3).trans rfl
             have ld3 : w8.heap.size < w9.heap.size := Nat.lt_of_lt_of_le (by simp) hb9.size
             clear hb9 bz)
          | (go_at_call 20
             refine HAF.out.f1.mono ?_
             rintro e w8 ⟨rfl, hb8⟩
             have HB8 := Lib.hid hb8
             have d1 : (w8.alloc (.cells #[.int .i64 xr, .int .i64 xk, .bool xg, .bool false] 38)).cell? ⟨w6.heap.size, k * 11 + 1, none⟩ = some (.slice Ay ly cy) := Lib.cell?_alloc_some _ ((hb8.cell (p := ⟨w6.heap.size, k * 11 + 1, none⟩) HAF.out.bk.lt).trans HAF.out.d1)
             have ld2 : w6.heap.size < w8.heap.size := Nat.lt_of_lt_of_le HAF.out.bk.lt hb8.size
             have HF3 := Lib.hid (HAF.out.f2 (w8.alloc (.cells #[.int .i64 xr, .int .i64 xk, .bool xg, .bool false] 38)) (hb8.trans ((below1 _ _).mono hb8.size)))
             clear hb8))
        go_ret
        exact ⟨ret_b rfl, HB7.out.trans ((HB8.out.trans (((below1 _ _).trans (HB9.out.mono (by simp))).mono HB8.out.size)).mono HB7.out.size |>.trans ((below1 _ _).mono (by have := HB7.out.size; have := HB8.out.size; have := HB9.out.size; simp at *; omega)))⟩
      | true =>
        obtain ⟨rfl, hq⟩ := hp rfl rfl
        injection hq with e1 e2 e3 e4
        have e1 := e1.symm
        have e2 := e2.symm
        have e3 := e3.symm
        subst e1 e2 e3 e4
        clear hp
        go_enter Try.func7, Try.ntmps7
        go_wp2_with (first
          | (go_at_call 8; refine HAL.out.mono ?_; rintro e w1 ⟨rfl, hb1⟩; have HB1 := Lib.hid hb1; clear hb1)
          | (go_at_call 17; refine (HCT.out w1 HB1.out).mono ?_; rintro e w2 ⟨rfl, hb2⟩; have HB2 := Lib.hid (HB1.out.trans (hb2.mono HB1.out.size)); clear hb2)
          | (go_at_call 19
             refine (HCON.out ((w3.alloc (.cells cs 32)).alloc (.cells #[.slice A n c, .slice A' n' c'] 22)) (w3.heap.size + 1) (HB3.out.trans (((below1 w3 (.cells cs 32)).alloc (by simp) _).mono HB3.out.size)) (by have := Bx.new (w3.alloc (.cells cs 32)) 22 #[.slice A n c, .slice A' n' c']; rwa [World.size_alloc] at this)).mono ?_
             rintro e w5 ⟨v5, rfl, ho5, hb5⟩
             obtain ⟨A5, n5, c5, rfl⟩ := ho5.slice
             have HO5 := Lib.hid ho5
             have hb35 := ((below1 w3 (.cells cs 32)).alloc (by simp) (.cells #[.slice A n c, .slice A' n' c'] 22)).trans (hb5.mono (by simp; omega))
             have HB5 := Lib.hid (HB3.out.trans (hb35.mono HB3.out.size))
             have CX5 : Hid (Bx w5 w3.heap.size 32 cs) := Lib.hid (((Bx.new w3 32 cs).below (below1 _ _)).below hb5)
             have SE5 := Lib.hid (HSE.out.below hb35)
             clear ho5 hb5 hb35)
          | ((with_reducible refine stN infoS4 cs5 ?_ ?_ rfl HS5.out HO6.out ?_); rfl; rfl)
          | (go_at_call 9
             refine (HRU2.out w5 _ _ HO5.out).mono ?_
             rintro e w6 ⟨va6, cs5, rfl, f5, f6, hb6⟩
             rw [← HE2.out] at f5 f6
             obtain ⟨A6, n6, c6, rfl⟩ := f5.slice
             have HS5 := Lib.hid f6.size
             have HO6 := Lib.hid f6.one
             obtain ⟨Ax, Ay, lx, ly, cx, cy, af⟩ := aft_of hk4 SE5.out CX5.out f6 hb6 HOK1.out HOK2.out HVA.out HBX.out HVB.out HBY.out
             have HAF := Lib.hid af
             have HB7 := Lib.hid (HB5.out.trans (af.bw.mono HB5.out.size))
             have d0 := af.d0
             have ld := af.lt
             clear f5 f6 hb6 af)
          | (go_at_call 9
             refine (HRUN.out w2 HB2.out).mono ?_
             rintro e w3 ⟨va, cs, rfl, ha, hs, hb3⟩
             rw [← HE1.out] at ha hs
             obtain ⟨Aa, na, ca, rfl⟩ := ha.slice
             have HS := Lib.hid hs.size
             have HO := Lib.hid hs.one
             have HSE := Lib.hid hs
             have HB3 := Lib.hid (HB2.out.trans (hb3.mono HB2.out.size))
             clear ha hs hb3)
          | ((with_reducible refine stN infoS4 cs ?_ ?_ rfl HS.out HO.out ?_); rfl; rfl)
          | (go_at_call 20
             refine HF3.out.mono ?_
             rintro e w9 ⟨rfl, hb9⟩
             have HB9 := Lib.hid hb9
             have bz : Bx (w9.alloc (.cells #[.int .i64 xr, .int .i64 xk, .bool xg, .bool true] 38)) w8.heap.size 38 #[.int .i64 xr, .int .i64 xk, .bool xg, .bool true] := ((Bx.new w8 _ _).below hb9).below (below1 _ _)
             have e0 := (bz.cell 0).trans rfl
             have e1 := (bz.cell 1).trans rfl
             have e2 := (bz.cell 2).trans rfl
             have e3 := (bz.cell 3).trans rfl
             have ld3 : w8.heap.size < w9.heap.size := Nat.lt_of_lt_of_le (by simp) hb9.size
             clear hb9 bz)
          | (go_at_call 20
             refine HAF.out.f1.mono ?_
             rintro e w8 ⟨rfl, hb8⟩
             have HB8 := Lib.hid hb8
             have d1 : (w8.alloc (.cells #[.int .i64 xr, .int .i64 xk, .bool xg, .bool true] 38)).cell? ⟨w6.heap.size, k * 11 + 1, none⟩ = some (.slice Ay ly cy) := Lib.cell?_alloc_some _ ((hb8.cell (p := ⟨w6.heap.size, k * 11 + 1, none⟩) HAF.out.bk.lt).trans HAF.out.d1)
             have ld2 : w6.heap.size < w8.heap.size := Nat.lt_of_lt_of_le HAF.out.bk.lt hb8.size
             have HF3 := Lib.hid (HAF.out.f2 (w8.alloc (.cells #[.int .i64 xr, .int .i64 xk, .bool xg, .bool true] 38)) (hb8.trans ((below1 _ _).mono hb8.size)))
             clear hb8))
        go_ret
        exact ⟨ret_b rfl, HB7.out.trans ((HB8.out.trans (((below1 _ _).trans (HB9.out.mono (by simp))).mono HB8.out.size)).mono HB7.out.size |>.trans ((below1 _ _).mono (by have := HB7.out.size; have := HB8.out.size; have := HB9.out.size; simp at *; omega)))⟩
end Go.Proofs.Ytglnnplijienbaa
