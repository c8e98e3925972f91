/- HEach. -/
import Derived.Test.YtnpmbjplmollkaaHpf
namespace Go.Proofs.Ytnpmbjplmollkaa
open Go.ChangeShapes Go.WideShapes Go.ChangeAt Go.RowKit Go.Joins
set_option linter.unusedVariables false
def badM (must : Int) (o : Option Att) : Bool := (decide (0 < must) && o.isNone) || (decide (must < 0) && o.isSome)
def eachBad (xs : List Rgn) (a b must : Int) : Bool := (List.range 64).any fun i => decide (a ≤ (i : Int)) && decide ((i : Int) < b) && badM must (gAt xs i)
def eachE (xs : List Rgn) (a b must : Int) : Int := if rightL xs = false then 1 else if spanB a b = false then 2 else if eachBad xs a b must = true then (if 0 < must then 3 else 7) else 0
def eachG (xs : List Rgn) (a b : Int) (fo : Option Att → Option Att) (i : Nat) : Option Att := if a ≤ (i : Int) ∧ (i : Int) < b then fo (gAt xs i) else gAt xs i
def eachL (xs : List Rgn) (a b must : Int) (fo : Option Att → Option Att) : List Rgn := if eachE xs a b must = 0 then regs (eachG xs a b fo) 64 else []
theorem each_next (a : Int) (q : Nat) (h : a ≤ q) (g : Nat → Option Att) (fo : Option Att → Option Att) (i : Nat) : (if i = q then fo (g q) else if a ≤ (i : Int) ∧ (i : Int) < q then fo (g i) else g i) = if a ≤ (i : Int) ∧ (i : Int) < ((q + 1 : Nat) : Int) then fo (g i) else g i := by
  by_cases e : i = q
  · subst e; rw [if_pos rfl, if_pos (by omega)]
  · rw [if_neg e]
    by_cases e2 : a ≤ (i : Int) ∧ (i : Int) < q
    · rw [if_pos e2, if_pos (by omega)]
    · rw [if_neg e2, if_neg (by omega)]
/-- What is asked of f: it gives what fo says; what it points at lies below base, or is new. -/
def FunP (g : Nat) (cb : Array Value) (fo : Option Att → Option Att) (must : Int) (base : Nat) (w : World) : Prop :=
  ∀ (W : World) (v : Value) (o : Option Att), Below base w W → PtA W (fun _ => True) v o → badM must o = false → Calls Try.prog g (#[v] ++ cb) W fun e w' => ∃ v', e = .returned v' ∧ PtA w' (fun b => b < base ∨ W.heap.size ≤ b) v' (fo o) ∧ Below W.heap.size W w'
theorem PtA.form {w : World} {P : Nat → Prop} {v : Value} : ∀ {o : Option Att}, PtA w P v o → ∃ p, v = .pointer p
  | none, h => ⟨_, h⟩
  | some a, ⟨b, off, h, _⟩ => ⟨_, h⟩
structure EPs (w2 wr : World) (G : Nat → Option Att) : Prop where
  below : Below w2.heap.size w2 wr
  arr : ∃ arr, wr.heap[w2.heap.size]? = some (.cells arr 60 (0, 0)) ∧ Pages wr (· ≠ w2.heap.size) arr G
theorem EPs.on {w2 wr w' : World} {G : Nat → Option Att} (h : EPs w2 wr G) (hb : Below wr.heap.size wr w') : EPs w2 w' G := by
  obtain ⟨arr, ha, hp⟩ := h.arr
  exact ⟨h.below.trans (hb.mono h.below.size), arr, (hb.block _ (blk_lt ha)).trans ha, hp.on hb⟩
theorem EPs.congr {w2 wr : World} {G G' : Nat → Option Att} (h : EPs w2 wr G) (e : ∀ i, i < 64 → G i = G' i) : EPs w2 wr G' := by
  obtain ⟨arr, ha, hp⟩ := h.arr
  exact ⟨h.below, arr, ha, hp.congr e⟩
theorem EPs.put {w2 wr : World} {G : Nat → Option Att} (h : EPs w2 wr G) {i : Nat} (hi : i < 64) {v : Value} {o : Option Att} (hv : PtA wr (· ≠ w2.heap.size) v o) : EPs w2 (wr.setCell ⟨w2.heap.size, i, none⟩ v) (fun j => if j = i then o else G j) := by
  obtain ⟨arr, ha, hp⟩ := h.arr
  have hoth : ∀ k, k ≠ w2.heap.size → (wr.setCell ⟨w2.heap.size, i, none⟩ v).heap[k]? = wr.heap[k]? := fun k hk => Below.heap_setCell wr ⟨w2.heap.size, i, none⟩ v k hk
  refine ⟨h.below.setCell (p := ⟨w2.heap.size, i, none⟩) (Nat.le_refl _) _, arr.setIfInBounds i v, ?_, (hp.put hi hv).frame (by simp [World.setCell]) fun k _ hk => hoth k hk⟩
  simp [World.setCell, Array.getElem?_modify, ha]
theorem EPs.start {w2 : World} {arr : Array Value} {G : Nat → Option Att} (h : Pages w2 (fun _ => True) arr G) : EPs w2 (w2.alloc (.cells arr 60)) G :=
  ⟨(Below.refl _ _).alloc (Nat.le_refl _) _, arr, heap_alloc_last w2 _, (h.away fun b hb _ => Nat.ne_of_lt hb).on ((Below.refl _ _).alloc (Nat.le_refl _) _)⟩
theorem EPs.cell {w2 wr : World} {G : Nat → Option Att} (h : EPs w2 wr G) {i : Nat} (hi : i < 64) : ∃ v, wr.cell? ⟨w2.heap.size, i, none⟩ = some v ∧ PtA wr (fun _ => True) v (G i) ∧ wr.frozen? ⟨w2.heap.size, i, none⟩ = false ∧ w2.heap.size < wr.heap.size := by
  obtain ⟨arr, ha, hp⟩ := h.arr
  obtain ⟨v, hv, hq⟩ := hp.at_ i hi
  exact ⟨v, by rw [blk_cell ha]; exact hv, hq.away fun _ _ _ => trivial, blk_free ha i, blk_lt ha⟩
set_option maxHeartbeats 8000000 in
set_option maxRecDepth 100000 in
theorem heach_any (g : Nat) (cb : Array Value) (eg : ∀ args w, (callFunc g args).run Try.prog w = .ok (.enter g args) w) (fo : Option Att → Option Att) (must : Int) (A : Option Addr) (n c : Nat) (xs : List Rgn) (a b : Int) (w : World) (B base : Nat) (hz : Rw fR 6 w B A n xs) (hB : B ≤ w.heap.size) (hbase : base ≤ w.heap.size) (hbig : n ≤ 140737488355328)
    (hf : FunP g cb fo must base w) : Calls Try.prog 12 #[.slice A n c, .int .i64 a, .int .i64 b, .int .i64 must, .func (.func g) #[] cb] w (TR (eachL xs a b must fo) (eachE xs a b must) w) := by
  have hright := hright_any A n c xs w B hz hB hbig
  have NO : Hid (∀ E : Int, eachE xs a b must = E → E ≠ 0 → ∀ w', Below w.heap.size w w' → TR (eachL xs a b must fo) (eachE xs a b must) w (.returned (.tuple #[.slice none 0 0, .int .i64 E])) w') := Lib.hid (fun E h h0 w' hb => by
    unfold eachL; rw [h, if_neg h0]; exact TR.nil hb)
  have HPG := Lib.hid (fun w1 (h1 : Below w.heap.size w w1) => hpages_any A n c xs w1 B (hz.below (h1.mono hB)) (Nat.le_trans hB h1.size) hbig)
  clear hz hbig
  cases hr : rightL xs with
  | false =>
    rw [hr] at hright
    have NO2 := Lib.hid (NO.out 1 (by unfold eachE; rw [if_pos hr]) (by decide))
    clear HPG
    go_enter Try.func12, Try.ntmps12
    go_wp2_with (go_at_call 39; refine hright.mono ?_; rintro e w1 ⟨rfl, hb1⟩; have HB1 := Lib.hid hb1; clear hb1)
    go_ret2
    exact NO2.out _ HB1.out
  | true =>
    rw [hr] at hright
    by_cases p1 : a < 0
    · have NO2 := Lib.hid (NO.out 2 (by unfold eachE; rw [hr, show spanB a b = false from by unfold spanB; simp; omega]; rfl) (by decide))
      clear HPG
      go_enter Try.func12, Try.ntmps12
      go_wp2_with (go_at_call 39; refine hright.mono ?_; rintro e w1 ⟨rfl, hb1⟩; have HB1 := Lib.hid hb1; clear hb1)
      go_ret2
      exact NO2.out _ HB1.out
    · have p1b : 0 ≤ a := by omega
      by_cases p2 : 64 < b
      · have NO2 := Lib.hid (NO.out 2 (by unfold eachE; rw [hr, show spanB a b = false from by unfold spanB; simp; omega]; rfl) (by decide))
        clear HPG
        go_enter Try.func12, Try.ntmps12
        go_wp2_with (go_at_call 39; refine hright.mono ?_; rintro e w1 ⟨rfl, hb1⟩; have HB1 := Lib.hid hb1; clear hb1)
        go_ret2
        exact NO2.out _ HB1.out
      · have p2b : b ≤ 64 := by omega
        by_cases p3 : b ≤ a
        · have NO2 := Lib.hid (NO.out 2 (by unfold eachE; rw [hr, show spanB a b = false from by unfold spanB; simp; omega]; rfl) (by decide))
          clear HPG
          go_enter Try.func12, Try.ntmps12
          go_wp2_with (go_at_call 39; refine hright.mono ?_; rintro e w1 ⟨rfl, hb1⟩; have HB1 := Lib.hid hb1; clear hb1)
          go_ret2
          exact NO2.out _ HB1.out
        · have p3b : a < b := by omega
          have hs : spanB a b = true := span_iff.2 ⟨p1b, p3b, p2b⟩
          have hasc : ascB 0 xs = true := (ascB_iff _ _).2 (rightL_asc hr)
          rw [hasc] at HPG
          have HPG := Lib.hid (fun w1 h1 => (HPG.out w1 h1).mono fun e w' h => pages_yes h rfl)
          have NOB : Hid (∀ q : Nat, a ≤ (q : Int) → (q : Int) < b → badM must (gAt xs q) = true → ∀ w', Below w.heap.size w w' → TR (eachL xs a b must fo) (eachE xs a b must) w (.returned (.tuple #[.slice none 0 0, .int .i64 (if 0 < must then 3 else 7)])) w') := Lib.hid (fun q h1 h2 h3 w' hb => NO.out _ (by
            unfold eachE
            rw [hr, hs, show eachBad xs a b must = true from List.any_eq_true.2 ⟨q, List.mem_range.2 (by omega), by simp [h1, h2, h3]⟩]; rfl) (by split <;> decide) w' hb)
          have YES : Hid ((∀ i : Nat, a ≤ (i : Int) → (i : Int) < b → badM must (gAt xs i) = false) → eachE xs a b must = 0 ∧ eachL xs a b must fo = regs (eachG xs a b fo) 64) := Lib.hid (fun h => by
            have hE : eachE xs a b must = 0 := by
              unfold eachE
              rw [hr, hs, show eachBad xs a b must = false from List.any_eq_false.2 fun i _ => by
                simp only [Bool.and_eq_true, decide_eq_true_eq, not_and, Bool.not_eq_true]
                exact fun h12 => h i h12.1 h12.2]; rfl
            exact ⟨hE, by unfold eachL; rw [if_pos hE]⟩)
          obtain ⟨rg, hrg⟩ : ∃ rg, rg = regs (eachG xs a b fo) 64 := ⟨_, rfl⟩
          rw [← hrg] at YES
          have HRG := Lib.hid hrg
          clear hrg
          have HEG : Hid (∀ i, eachG xs a b fo i = if a ≤ (i : Int) ∧ (i : Int) < b then fo (gAt xs i) else gAt xs i) := Lib.hid (fun i => rfl)
          have HFUN := Lib.hid (fun W v o (h : Below w.heap.size w W) hp hbad => hf W v o (h.mono hbase) hp hbad)
          generalize eachL xs a b must fo = tl at *
          generalize eachE xs a b must = tE at *
          generalize eachG xs a b fo = GG at *
          generalize gAt xs = gAt_ at *
          obtain ⟨an, rfl⟩ := Int.eq_ofNat_of_zero_le p1b
          clear NO hr hs hasc hf p1 p2 p3 hB
          go_enter Try.func12, Try.ntmps12
          go_wp2_with (first
          | ((with_reducible (refine st60 arr ?_ ?_ ?_ harr hone ?_)); rfl; rfl; rfl)
          | (go_at_call 40; refine (HPG.out w1 HB1.out).mono ?_; rintro e w2 ⟨arr, rfl, hP2, hb2⟩; have harr := hP2.size; have hone := hP2.one; have HP := Lib.hid hP2; have HB2 := Lib.hid (HB1.out.trans (hb2.mono HB1.out.size)); clear hP2 hb2)
          | (go_at_call 39; refine hright.mono ?_; rintro e w1 ⟨rfl, hb1⟩; have HB1 := Lib.hid hb1; clear hb1))
          go_loopw [14] (fun v14 wr => ∃ q : Nat, (an : Int) ≤ (q : Int) ∧ (q : Int) ≤ b ∧ v14 = .int .i64 q ∧ Hid (EPs w2 wr (fun i => if (an : Int) ≤ (i : Int) ∧ (i : Int) < q then fo (gAt_ i) else gAt_ i)) ∧ Hid (∀ i : Nat, (an : Int) ≤ (i : Int) → i < q → badM must (gAt_ i) = false)) (fun v14 _ => 64 - (intOf v14).toNat)
          case atStart => exact ⟨an, Int.le_refl _, by omega, rfl, Lib.hid ((EPs.start HP.out).congr fun i _ => by rw [if_neg (by omega)]), Lib.hid (fun i h1 h2 => by omega)⟩
          case round =>
            obtain ⟨q, hq1, hq2, rfl, HE, HNB⟩ := hrel
            have HBW := Lib.hid (HB2.out.trans (HE.out.below.mono HB2.out.size))
            by_cases hq : (q : Int) < b
            · have hq64 : q < 64 := by omega
              have hqi : (q : Int) < 64 := by omega
              have hq0 : (0 : Int) ≤ (q : Int) := by omega
              have hq3 : (an : Int) ≤ ((q + 1 : Nat) : Int) := by omega
              have hq4 : ((q + 1 : Nat) : Int) ≤ b := by omega
              have hms : 64 - (q + 1) < 64 - q := by omega
              have HQ1 := Lib.hid hq1
              have HQ2 := Lib.hid hq
              have HKK := Lib.hid (show Value.int .i64 ((q : Int) + 1) = Value.int .i64 ((q + 1 : Nat) : Int) from by rw [Int.natCast_succ])
              obtain ⟨v, hvc, hpv, hfz, hgl⟩ := HE.out.cell hq64
              rw [if_neg (by omega)] at hpv
              have HPV := Lib.hid hpv
              have hbw := HBW.out.size
              have hb2s := HB2.out.size
              have HBS : Hid (base ≤ w2.heap.size) := Lib.hid (Nat.le_trans hbase hb2s)
              clear hpv
              have HW1 := Lib.hid (wrap_small ((q : Int) + 1) (by omega) (by omega))
              have HPV2 := Lib.hid (fun (h : gAt_ q = none) => (show v = .pointer none from by have := HPV.out; rw [h] at this; exact this))
              have HPV3 := Lib.hid (fun x (h : gAt_ q = some x) => (show ∃ bb off, v = .pointer (some ⟨bb, off, none⟩) from by have := HPV.out; rw [h] at this; obtain ⟨bb, off, e, _⟩ := this; exact ⟨bb, off, e⟩))
              by_cases c1 : 0 < must
              · have c2 : ¬ must < 0 := by omega
                have c2b : 0 ≤ must := by omega
                cases hg : gAt_ q with
                | none =>
                  have HBD : Hid (badM must (gAt_ q) = true) := Lib.hid (by rw [hg]; unfold badM; simp [c1])
                  have NO2 := Lib.hid (NOB.out q HQ1.out HQ2.out HBD.out wr HBW.out)
                  rw [if_pos c1] at NO2
                  obtain rfl := HPV2.out hg
                  obtain ⟨n1, n2⟩ := HW1.out
                  clear hg HPV2 HPV3
                  go_wp2
                  go_ret2
                  exact NO2.out
                | some x =>
                  have HBD : Hid (badM must (gAt_ q) = false) := Lib.hid (by rw [hg]; unfold badM; simp; omega)
                  obtain ⟨bb, off, rfl⟩ := HPV3.out x hg
                  obtain ⟨n1, n2⟩ := HW1.out
                  clear hg HPV2 HPV3 hbw hb2s
                  have HC := Lib.hid (HFUN.out wr _ (gAt_ q) HBW.out HPV.out HBD.out)
                  go_wp2_with (go_at_fn g; refine HC.out.mono ?_; rintro e w3 ⟨v3, rfl, hp3, hb3⟩; obtain ⟨pp, hpp⟩ := hp3.form; subst hpp; have hvc3 := (hb3.cell (p := ⟨w2.heap.size, q, none⟩) hgl).trans hvc; have hfz3 := (hb3.frozen (p := ⟨w2.heap.size, q, none⟩) hgl).trans hfz)
                  clear n1 n2
                  go_roundw
                  case rel => exact ⟨q + 1, hq3, hq4, HKK.out, Lib.hid (((HE.out.on hb3).put hq64 (hp3.away fun b hb hor => by have := hgl; have := HBS.out; rcases hor with hor | hor <;> omega)).congr fun i _ => each_next _ q HQ1.out gAt_ fo i), Lib.hid (fun i h1 h2 => by
                    by_cases e : i = q
                    · subst e; exact HBD.out
                    · exact HNB.out i h1 (by omega))⟩
                  case measure => simpa [intOf] using hms
              · have c1b : must ≤ 0 := by omega
                by_cases c2 : must < 0
                · cases hg : gAt_ q with
                  | none =>
                    have HBD : Hid (badM must (gAt_ q) = false) := Lib.hid (by rw [hg]; unfold badM; simp; omega)
                    obtain rfl := HPV2.out hg
                    obtain ⟨n1, n2⟩ := HW1.out
                    clear hg HPV2 HPV3 hbw hb2s
                    have HC := Lib.hid (HFUN.out wr _ (gAt_ q) HBW.out HPV.out HBD.out)
                    go_wp2_with (go_at_fn g; refine HC.out.mono ?_; rintro e w3 ⟨v3, rfl, hp3, hb3⟩; obtain ⟨pp, hpp⟩ := hp3.form; subst hpp; have hvc3 := (hb3.cell (p := ⟨w2.heap.size, q, none⟩) hgl).trans hvc; have hfz3 := (hb3.frozen (p := ⟨w2.heap.size, q, none⟩) hgl).trans hfz)
                    clear n1 n2
                    go_roundw
                    case rel => exact ⟨q + 1, hq3, hq4, HKK.out, Lib.hid (((HE.out.on hb3).put hq64 (hp3.away fun b hb hor => by have := hgl; have := HBS.out; rcases hor with hor | hor <;> omega)).congr fun i _ => each_next _ q HQ1.out gAt_ fo i), Lib.hid (fun i h1 h2 => by
                      by_cases e : i = q
                      · subst e; exact HBD.out
                      · exact HNB.out i h1 (by omega))⟩
                    case measure => simpa [intOf] using hms
                  | some x =>
                    have HBD : Hid (badM must (gAt_ q) = true) := Lib.hid (by rw [hg]; unfold badM; simp [c2])
                    have NO2 := Lib.hid (NOB.out q HQ1.out HQ2.out HBD.out wr HBW.out)
                    rw [if_neg c1] at NO2
                    obtain ⟨bb, off, rfl⟩ := HPV3.out x hg
                    obtain ⟨n1, n2⟩ := HW1.out
                    clear hg HPV2 HPV3
                    go_wp2
                    go_ret2
                    exact NO2.out
                · have c2b : 0 ≤ must := by omega
                  have HBD : Hid (badM must (gAt_ q) = false) := Lib.hid (by unfold badM; simp; omega)
                  obtain ⟨n1, n2⟩ := HW1.out
                  clear HPV2 HPV3 hbw hb2s
                  have HC := Lib.hid (HFUN.out wr v (gAt_ q) HBW.out HPV.out HBD.out)
                  go_wp2_with (go_at_fn g; refine HC.out.mono ?_; rintro e w3 ⟨v3, rfl, hp3, hb3⟩; obtain ⟨pp, hpp⟩ := hp3.form; subst hpp; have hvc3 := (hb3.cell (p := ⟨w2.heap.size, q, none⟩) hgl).trans hvc; have hfz3 := (hb3.frozen (p := ⟨w2.heap.size, q, none⟩) hgl).trans hfz)
                  clear n1 n2
                  go_roundw
                  case rel => exact ⟨q + 1, hq3, hq4, HKK.out, Lib.hid (((HE.out.on hb3).put hq64 (hp3.away fun b hb hor => by have := hgl; have := HBS.out; rcases hor with hor | hor <;> omega)).congr fun i _ => each_next _ q HQ1.out gAt_ fo i), Lib.hid (fun i h1 h2 => by
                    by_cases e : i = q
                    · subst e; exact HBD.out
                    · exact HNB.out i h1 (by omega))⟩
                  case measure => simpa [intOf] using hms
            · have hqe : (q : Int) = b := by omega
              have hbq : b ≤ (q : Int) := by omega
              have HG2 := Lib.hid (HE.out.congr fun i _ => (show _ = GG i from by rw [HEG.out i, hqe]))
              obtain ⟨e1, e2⟩ := YES.out fun i h1 h2 => HNB.out i h1 (by omega)
              subst e1 e2
              obtain ⟨arr2, ha2, hp2⟩ := HG2.out.arr
              have harr2 := hp2.size
              have HLD2 := Lib.hid (range_of ha2)
              have HREG : Hid (Calls Try.prog 41 #[.agg arr2] wr (Gives fR 6 26 wr.heap.size wr tl)) := Lib.hid (by rw [HRG.out]; exact hregions_any arr2 GG wr hp2.any)
              clear hqe ha2 hp2
              go_wp2_with (first
              | ((with_reducible (refine ld60 w2.heap.size arr2 ?_ ?_ harr2 ?_)); rfl; exact HLD2.out)
              | (go_at_call 41; refine HREG.out.mono ?_; rintro e w4 ⟨v4, rfl, ho4, hb4⟩))
              go_ret2
              exact ⟨_, rfl, ho4.rebase HBW.out.size, HBW.out.trans (hb4.mono HBW.out.size)⟩
end Go.Proofs.Ytnpmbjplmollkaa
