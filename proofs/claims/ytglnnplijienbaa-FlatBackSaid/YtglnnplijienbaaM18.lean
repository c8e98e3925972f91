/- Several texts in one: SlR, Rga. -/
import Derived.Shelf.Abstract
import Derived.Test.YtglnnplijienbaaM16
/- slices at api.Region: Clone, IndexFunc, ContainsFunc, DeleteFunc, Equal. -/
namespace Go.Proofs.Ytglnnplijienbaa
open Go.ChangeShapes Go.WideShapes Go.ChangeAt Go.RowKit Go.Joins
set_option linter.unusedVariables false


/-- What is asked of a predicate: it answers p in every world in which all that lay below 'base' lies unturned. -/
def PredR (g : Nat) (lb : Array Value) (p : Rgn → Bool) (base : Nat) (w : World) : Prop :=
  ∀ (W : World) (x : Rgn), Below base w W → Calls Try.prog g (#[.agg #[.int .i64 x.f, .int .i64 x.t, .int .i64 x.a.r, .int .i64 x.a.k, .bool x.a.g, .bool x.a.s]] ++ lb) W fun e w' => e = .returned (.bool (p x)) ∧ Below W.heap.size W w'
theorem PredR.on {g : Nat} {lb : Array Value} {p : Rgn → Bool} {base : Nat} {w W : World} (h : PredR g lb p base w) (hb : Below base w W) : PredR g lb p base W := fun V x hv => h V x (hb.trans hv)
def idxOf {α : Type} (p : α → Bool) (xs : List α) : Int := if xs.findIdx p < xs.length then (xs.findIdx p : Int) else -1
set_option maxHeartbeats 2000000 in
theorem indexFunc_R (g : Nat) (lb : Array Value) (eg : ∀ args w, (callFunc g args).run Try.prog w = .ok (.enter g args) w) (p : Rgn → Bool) (A : Option Addr) (n c : Nat) (xs : List Rgn) (w : World) (B base : Nat) (hz : Rw fR 6 w B A n xs) (hB : B ≤ w.heap.size) (hbase : base ≤ w.heap.size) (hbig : n ≤ 140737488355328)
    (hp : PredR g lb p base w) : Calls Try.prog 76 #[.slice A n c, .func (.func g) #[] lb] w fun e w' => e = .returned (.int .i64 (idxOf p xs)) ∧ Below w.heap.size w w' := by
  have hln := hz.1
  have H1 := Lib.hid (fun (i : Nat) (x : Rgn) (h : xs[i]? = some x) (hi : i < xs.findIdx p) => (by
    have hl := (List.getElem?_eq_some_iff.1 h).1
    have := List.not_of_lt_findIdx hi
    rw [(List.getElem?_eq_some_iff.1 h).2] at this
    simpa using this : p x = false))
  have H2 := Lib.hid (fun (x : Rgn) (h : xs[xs.findIdx p]? = some x) => (by
    have hl := (List.getElem?_eq_some_iff.1 h).1
    have := List.findIdx_getElem (w := hl)
    rw [(List.getElem?_eq_some_iff.1 h).2] at this
    exact this : p x = true))
  have hfl : xs.findIdx p ≤ n := by rw [← hln]; exact List.findIdx_le_length
  have HI : Hid (idxOf p xs = if xs.findIdx p < n then (xs.findIdx p : Int) else -1) := Lib.hid (by unfold idxOf; rw [hln])
  have HX := Lib.hid (fun (i : Nat) (hi : i < n) => (⟨xs[i]'(by omega), List.getElem?_eq_getElem _⟩ : ∃ x, xs[i]? = some x))
  generalize xs.findIdx p = m at *
  have HZ := Lib.hid hz
  have HP := Lib.hid hp
  clear hz hp hln
  rcases Nat.eq_zero_or_pos n with h0 | h0
  · subst h0
    go_enter Try.func76, Try.ntmps76
    go_wp2
    go_loop [5, 8] (fun _ i => i = .int .i64 0) (fun _ i => 1 - (intOf i).toNat)
    case atStart => exact rfl
    case round =>
      subst hrel
      go_wp2
      go_ret
      exact ⟨ret_i (by rw [HI.out, if_neg (by omega)]), Below.refl _ _⟩
  · obtain ⟨b, off, rfl, hb⟩ := HZ.out.open h0
    go_enter Try.func76, Try.ntmps76
    go_wp2
    go_loopw [5, 8] (fun _ i wr => ∃ k : Nat, k ≤ m ∧ i = .int .i64 k ∧ Hid (Below w.heap.size w wr)) (fun _ i _ => n - (intOf i).toNat)
    case atStart => exact ⟨0, by omega, rfl, Lib.hid (Below.refl _ _)⟩
    case round =>
      obtain ⟨k, hk, rfl, HB⟩ := hrel
      by_cases hlt : k < n
      · obtain ⟨x, hx⟩ := HX.out k hlt
        have hc := (HZ.out.below (HB.out.mono hB)).at_ fR_len hx
        have c0 : wr.cell? ⟨b, off + k * 6, none⟩ = some (.int .i64 x.f) := hc 0 _ rfl
        have c1 : wr.cell? ⟨b, off + k * 6 + 1, none⟩ = some (.int .i64 x.t) := hc 1 _ rfl
        have c2 : wr.cell? ⟨b, off + k * 6 + 2, none⟩ = some (.int .i64 x.a.r) := hc 2 _ rfl
        have c3 : wr.cell? ⟨b, off + k * 6 + 3, none⟩ = some (.int .i64 x.a.k) := hc 3 _ rfl
        have c4 : wr.cell? ⟨b, off + k * 6 + 4, none⟩ = some (.bool x.a.g) := hc 4 _ rfl
        have c5 : wr.cell? ⟨b, off + k * 6 + 5, none⟩ = some (.bool x.a.s) := hc 5 _ rfl
        have hcall := HP.out wr x (HB.out.mono hbase)
        by_cases hm : k < m
        · have hpx := H1.out k x hx hm
          rw [hpx] at hcall
          have HX2 := Lib.hid hx
          clear hx hc hpx
          go_wp2_with (go_at_fn g; refine hcall.mono ?_; rintro e w' ⟨rfl, hb'⟩)
          go_roundw
          case rel => exact ⟨k + 1, by omega, by go_num, Lib.hid (HB.out.trans (hb'.mono HB.out.size))⟩
          case measure => simp [intOf]; omega
        · have hkm : k = m := by omega
          subst hkm
          have hpx := H2.out x hx
          rw [hpx] at hcall
          have HX2 := Lib.hid hx
          clear hx hc hpx
          go_wp2_with (go_at_fn g; refine hcall.mono ?_; rintro e w' ⟨rfl, hb'⟩)
          go_ret
          exact ⟨ret_i (by rw [HI.out, if_pos hlt]), HB.out.trans (hb'.mono HB.out.size)⟩
      · have hkm : k = m := by omega
        subst hkm
        go_wp2
        go_ret
        exact ⟨ret_i (by rw [HI.out, if_neg hlt]), HB.out⟩

theorem idxOf_nonneg {α : Type} (p : α → Bool) (xs : List α) : (decide (0 ≤ idxOf p xs)) = xs.any p := by
  unfold idxOf
  rw [Bool.eq_iff_iff, decide_eq_true_eq, List.any_eq_true]
  split
  · rename_i h
    exact ⟨fun _ => List.findIdx_lt_length.1 h, fun _ => by omega⟩
  · rename_i h
    exact ⟨fun h2 => by omega, fun h2 => absurd (List.findIdx_lt_length.2 h2) h⟩
set_option maxHeartbeats 2000000 in
theorem containsFunc_R (g : Nat) (lb : Array Value) (eg : ∀ args w, (callFunc g args).run Try.prog w = .ok (.enter g args) w) (p : Rgn → Bool) (A : Option Addr) (n c : Nat) (xs : List Rgn) (w : World) (B base : Nat) (hz : Rw fR 6 w B A n xs) (hB : B ≤ w.heap.size) (hbase : base ≤ w.heap.size) (hbig : n ≤ 140737488355328)
    (hp : PredR g lb p base w) : Calls Try.prog 63 #[.slice A n c, .func (.func g) #[] lb] w fun e w' => e = .returned (.bool (xs.any p)) ∧ Below w.heap.size w w' := by
  have hcall := indexFunc_R g lb eg p A n c xs w B base hz hB hbase hbig hp
  have HI := Lib.hid (idxOf_nonneg p xs)
  clear hz hp
  generalize idxOf p xs = i at *
  go_enter Try.func63, Try.ntmps63
  go_wp2_with (go_at_call 76; refine hcall.mono ?_; rintro e w' ⟨rfl, hb'⟩)
  all_goals
    go_ret
    exact ⟨ret_b (by rw [← HI.out]), hb'⟩


set_option maxHeartbeats 2000000 in
set_option maxRecDepth 100000 in
theorem equal_R (A1 A2 : Option Addr) (n1 c1 n2 c2 : Nat) (xs ys : List Rgn) (w : World) (B : Nat) (h1 : Rw fR 6 w B A1 n1 xs) (h2 : Rw fR 6 w B A2 n2 ys) (hB : B ≤ w.heap.size) (m1 : n1 ≤ 140737488355328) (m2 : n2 ≤ 140737488355328) :
    Calls Try.prog 13 #[.slice A1 n1 c1, .slice A2 n2 c2] w fun e w' => e = .returned (.bool (sameL eqR xs ys)) ∧ Below w.heap.size w w' := by
  have l1 := h1.1
  have l2 := h2.1
  by_cases hn : n1 = n2
  · subst hn
    have HA := Lib.hid (sameL_all eqR xs ys (by omega))
    have HN := Lib.hid (sameL_ne eqR xs ys)
    have HX := Lib.hid (fun (i : Nat) (hi : i < n1) => (⟨xs[i]'(by omega), List.getElem?_eq_getElem _⟩ : ∃ x, xs[i]? = some x))
    have HY := Lib.hid (fun (i : Nat) (hi : i < n1) => (⟨ys[i]'(by omega), List.getElem?_eq_getElem _⟩ : ∃ y, ys[i]? = some y))
    have HL := Lib.hid l1
    clear l1 l2
    generalize sameL eqR xs ys = r at *
    have H1 := Lib.hid h1
    have H2 := Lib.hid h2
    clear h1 h2
    rcases Nat.eq_zero_or_pos n1 with h0 | h0
    · subst h0
      have hx : ((0 : Int) != 0) = false := rfl
      go_enter Try.func13, Try.ntmps13
      go_wp2
      go_loop [13] (fun i => i = .int .i64 0) (fun i => 1 - (intOf i).toNat)
      case atStart => exact rfl
      case round =>
        subst hrel
        go_wp2
        go_ret
        exact ⟨ret_b (HA.out fun k x y hk _ _ => by have := HL.out; omega).symm, Below.refl _ _⟩
    · obtain ⟨b1, o1, rfl, _⟩ := H1.out.open h0
      obtain ⟨b2, o2, rfl, _⟩ := H2.out.open h0
      go_enter Try.func13, Try.ntmps13
      go_wp2
      go_loopw [13] (fun i wr => ∃ k : Nat, k ≤ n1 ∧ i = .int .i64 k ∧ Hid (Below w.heap.size w wr) ∧ Hid (∀ j x y, j < k → xs[j]? = some x → ys[j]? = some y → eqR x y = true)) (fun i _ => n1 - (intOf i).toNat)
      case atStart => exact ⟨0, by omega, rfl, Lib.hid (Below.refl _ _), Lib.hid (fun j x y hj => absurd hj (Nat.not_lt_zero _))⟩
      case round =>
        obtain ⟨k, hk, rfl, HB, HS⟩ := hrel
        by_cases hlt : k < n1
        · obtain ⟨x, hx⟩ := HX.out k hlt
          obtain ⟨y, hy⟩ := HY.out k hlt
          have hcx := (H1.out.below (HB.out.mono hB)).at_ fR_len hx
          have hcy := (H2.out.below (HB.out.mono hB)).at_ fR_len hy
          have x0 : wr.cell? ⟨b1, o1 + k * 6, none⟩ = some (.int .i64 x.f) := hcx 0 _ rfl
          have x1 : wr.cell? ⟨b1, o1 + k * 6 + 1, none⟩ = some (.int .i64 x.t) := hcx 1 _ rfl
          have x2 : wr.cell? ⟨b1, o1 + k * 6 + 2, none⟩ = some (.int .i64 x.a.r) := hcx 2 _ rfl
          have x3 : wr.cell? ⟨b1, o1 + k * 6 + 3, none⟩ = some (.int .i64 x.a.k) := hcx 3 _ rfl
          have x4 : wr.cell? ⟨b1, o1 + k * 6 + 4, none⟩ = some (.bool x.a.g) := hcx 4 _ rfl
          have x5 : wr.cell? ⟨b1, o1 + k * 6 + 5, none⟩ = some (.bool x.a.s) := hcx 5 _ rfl
          have y0 : wr.cell? ⟨b2, o2 + k * 6, none⟩ = some (.int .i64 y.f) := hcy 0 _ rfl
          have y1 : wr.cell? ⟨b2, o2 + k * 6 + 1, none⟩ = some (.int .i64 y.t) := hcy 1 _ rfl
          have y2 : wr.cell? ⟨b2, o2 + k * 6 + 2, none⟩ = some (.int .i64 y.a.r) := hcy 2 _ rfl
          have y3 : wr.cell? ⟨b2, o2 + k * 6 + 3, none⟩ = some (.int .i64 y.a.k) := hcy 3 _ rfl
          have y4 : wr.cell? ⟨b2, o2 + k * 6 + 4, none⟩ = some (.bool y.a.g) := hcy 4 _ rfl
          have y5 : wr.cell? ⟨b2, o2 + k * 6 + 5, none⟩ = some (.bool y.a.s) := hcy 5 _ rfl
          have hk0 : (0 : Int) ≤ (k : Int) := by omega
          have hkn : (k : Int) < (n1 : Int) := by omega
          have HXX := Lib.hid hx
          have HYY := Lib.hid hy
          clear hx hy hcx hcy
          have heq : ∀ w, (Op.equalIn 10000 40 (.agg #[.int .i64 x.f, .int .i64 x.t, .int .i64 x.a.r, .int .i64 x.a.k, .bool x.a.g, .bool x.a.s]) (.agg #[.int .i64 y.f, .int .i64 y.t, .int .i64 y.a.r, .int .i64 y.a.k, .bool y.a.g, .bool y.a.s])).run Try.prog w = .ok (eqR x y) w := run_eqRd 9997 x y
          cases hq : eqR x y with
          | true =>
            rw [hq] at heq
            have HQ := Lib.hid hq
            clear hq
            go_wp2
            go_quiet (fail)
            go_wp2
            go_roundw
            case rel =>
              refine ⟨k + 1, by omega, by go_num, Lib.hid (HB.out.trans (below_drewN _ _ _)), Lib.hid (fun j x' y' hj h1 h2 => ?_)⟩
              by_cases e : j = k
              · subst e
                rw [HXX.out] at h1
                rw [HYY.out] at h2
                cases h1; cases h2; exact HQ.out
              · exact HS.out j x' y' (by omega) h1 h2
            case measure => simp [intOf]; omega
          | false =>
            rw [hq] at heq
            have HQ := Lib.hid hq
            clear hq
            go_wp2
            go_quiet (fail)
            go_wp2
            go_ret
            exact ⟨ret_b (HN.out k x y HXX.out HYY.out HQ.out).symm, HB.out.trans (below_drewN _ _ _)⟩
        · have hkm : k = n1 := by omega
          subst hkm
          go_wp2
          go_ret
          exact ⟨ret_b (HA.out fun j x y hj h1 h2 => HS.out j x y (by have := HL.out; omega) h1 h2).symm, HB.out⟩
  · have HR := Lib.hid (sameL_len eqR xs ys (by omega))
    have hne : ((n1 : Int) != n2) = true := by rw [bne_iff_ne]; omega
    clear h1 h2 l1 l2
    generalize sameL eqR xs ys = r at *
    go_enter Try.func13, Try.ntmps13
    go_wp2
    go_ret
    exact ⟨ret_b HR.out.symm, Below.refl _ _⟩

end Go.Proofs.Ytglnnplijienbaa

/- region.Right and region.cut. -/
namespace Go.Proofs.Ytglnnplijienbaa
open Go.ChangeShapes Go.WideShapes Go.ChangeAt Go.RowKit Go.Joins
set_option linter.unusedVariables false

set_option maxHeartbeats 4000000 in
set_option maxRecDepth 100000 in
theorem right_any (A : Option Addr) (n c : Nat) (xs : List Rgn) (w : World) (B : Nat) (hz : Rw fR 6 w B A n xs) (hB : B ≤ w.heap.size) (hbig : n ≤ 140737488355328) :
    Calls Try.prog 10 #[.slice A n c] w fun e w' => e = .returned (.bool (rightL xs)) ∧ Below w.heap.size w w' := by
  have hln := hz.1
  have HX := Lib.hid (fun (i : Nat) (hi : i < n) => (⟨xs[i]'(by omega), List.getElem?_eq_getElem _⟩ : ∃ x, xs[i]? = some x))
  have HLN := Lib.hid hln
  have HZ := Lib.hid hz
  have HBAD := Lib.hid (rightG_bad xs none)
  have HGOOD := Lib.hid (rightG_good xs none)
  have HRE : Hid (rightL xs = rightG none xs) := Lib.hid rfl
  generalize rightG none xs = res at *
  generalize rightL xs = res2 at *
  have HA : Hid (0 < n → ∃ b off, A = some ⟨b, off, none⟩ ∧ b < B) := Lib.hid (fun h => HZ.out.open h)
  clear hz hln
  go_enter Try.func10, Try.ntmps10
  go_wp2
  go_loopw [7] (fun i wr => ∃ k : Nat, k ≤ n ∧ i = .int .i64 k ∧ Hid (Below w.heap.size w wr) ∧ Hid (∀ j x, j < k → xs[j]? = some x → okR x = true ∧ ∀ p, (if j = 0 then none else xs[j - 1]?) = some p → nextOk p x = true)) (fun i _ => n - (intOf i).toNat)
  case atStart => exact ⟨0, by omega, rfl, Lib.hid (Below.refl _ _), Lib.hid (fun j x hj => absurd hj (Nat.not_lt_zero _))⟩
  case round =>
    obtain ⟨k, hk, rfl, HB, HG⟩ := hrel
    have hsz := HB.out.size
    by_cases hlt : k < n
    · obtain ⟨x, hx⟩ := HX.out k hlt
      obtain ⟨b, off, hAe, hb⟩ := HA.out (by omega)
      subst hAe
      have hcs := (HZ.out.below (HB.out.mono hB)).at_ fR_len hx
      have xc0 : wr.cell? ⟨b, off + k * 6, none⟩ = some (.int .i64 x.f) := hcs 0 _ rfl
      have xc1 : wr.cell? ⟨b, off + k * 6 + 1, none⟩ = some (.int .i64 x.t) := hcs 1 _ rfl
      have xc2 : wr.cell? ⟨b, off + k * 6 + 2, none⟩ = some (.int .i64 x.a.r) := hcs 2 _ rfl
      have xc3 : wr.cell? ⟨b, off + k * 6 + 3, none⟩ = some (.int .i64 x.a.k) := hcs 3 _ rfl
      have xc4 : wr.cell? ⟨b, off + k * 6 + 4, none⟩ = some (.bool x.a.g) := hcs 4 _ rfl
      have xc5 : wr.cell? ⟨b, off + k * 6 + 5, none⟩ = some (.bool x.a.s) := hcs 5 _ rfl
      have HX0 := Lib.hid hx
      clear hcs hx
      by_cases h1 : x.f < 0
      · have HOK : Hid (okR x = false) := Lib.hid (by unfold okR; simp; omega)
        go_wp2
        go_ret
        exact ⟨ret_b (by rw [HRE.out, HBAD.out k x HX0.out (.inl HOK.out)]), HB.out.alloc hsz _⟩
      · have h1' : 0 ≤ x.f := by omega
        by_cases h2 : 64 < x.t
        · have HOK : Hid (okR x = false) := Lib.hid (by unfold okR; simp; omega)
          go_wp2
          go_ret
          exact ⟨ret_b (by rw [HRE.out, HBAD.out k x HX0.out (.inl HOK.out)]), HB.out.alloc hsz _⟩
        · have h2' : x.t ≤ 64 := by omega
          by_cases h3 : x.t ≤ x.f
          · have HOK : Hid (okR x = false) := Lib.hid (by unfold okR; simp; omega)
            go_wp2
            go_ret
            exact ⟨ret_b (by rw [HRE.out, HBAD.out k x HX0.out (.inl HOK.out)]), HB.out.alloc hsz _⟩
          · have h3' : x.f < x.t := by omega
            have HOK : Hid (okR x = true) := Lib.hid (by unfold okR; simp; omega)
            cases k with
            | zero =>
              rw [Nat.zero_mul, Nat.add_zero] at xc0 xc1 xc2 xc3 xc4 xc5
              go_wp2
              go_quiet (fail)
              go_wp2
              go_roundw
              case rel => exact ⟨0 + 1, by omega, by go_num, Lib.hid ((HB.out.alloc hsz _).trans (below_drewN _ _ _)), Lib.hid (fun j y hj hy => by
                by_cases e : j = 0
                · subst e
                  rw [HX0.out] at hy; cases hy
                  exact ⟨HOK.out, fun q hq => by simp at hq⟩
                · exact HG.out j y (by omega) hy)⟩
              case measure => simp [intOf]; omega
            | succ m =>
              obtain ⟨p, hp⟩ := HX.out m (by omega)
              have hps := (HZ.out.below (HB.out.mono hB)).at_ fR_len hp
              have pc0 : wr.cell? ⟨b, off + m * 6, none⟩ = some (.int .i64 p.f) := hps 0 _ rfl
              have pc1 : wr.cell? ⟨b, off + m * 6 + 1, none⟩ = some (.int .i64 p.t) := hps 1 _ rfl
              have pc2 : wr.cell? ⟨b, off + m * 6 + 2, none⟩ = some (.int .i64 p.a.r) := hps 2 _ rfl
              have pc3 : wr.cell? ⟨b, off + m * 6 + 3, none⟩ = some (.int .i64 p.a.k) := hps 3 _ rfl
              have pc4 : wr.cell? ⟨b, off + m * 6 + 4, none⟩ = some (.bool p.a.g) := hps 4 _ rfl
              have pc5 : wr.cell? ⟨b, off + m * 6 + 5, none⟩ = some (.bool p.a.s) := hps 5 _ rfl
              have HP0 := Lib.hid hp
              have hbw : b < wr.heap.size := by omega
              have hm0 : (0 : Int) < (m : Int) + 1 := by omega
              have hmn : (m : Int) < (n : Int) := by omega
              have hm1 : m < n := by omega
              have hm2 : (0 : Int) ≤ (m : Int) := by omega
              have hmw : IntKind.i64.wrap (m : Int) = (m : Int) := by rw [IntKind.wrap_i64]; omega
              clear hps hp
              by_cases h4 : x.f < p.t
              · have HNX : Hid (nextOk p x = false) := Lib.hid (by unfold nextOk; simp [h4])
                go_wp2
                go_quiet (fail)
                go_wp2
                go_ret
                exact ⟨ret_b (by rw [HRE.out, HBAD.out (m + 1) x HX0.out (.inr ⟨p, by rw [if_neg (by omega), Nat.add_sub_cancel]; exact HP0.out, HNX.out⟩)]), (HB.out.alloc hsz _).trans (below_drewN _ _ _)⟩
              · have h4' : p.t ≤ x.f := by omega
                have hd4 : decide (x.f < p.t) = false := decide_eq_false (by omega)
                cases h5 : (p.t == x.f) with
                | false =>
                  have HNX : Hid (nextOk p x = true) := Lib.hid (by unfold nextOk; rw [h5]; simp; omega)
                  go_wp2
                  go_quiet (fail)
                  clear hmw
                  go_wp2
                  go_roundw
                  case rel => exact ⟨m + 1 + 1, by omega, by go_num, Lib.hid ((HB.out.alloc hsz _).trans (below_drewN _ _ _)), Lib.hid (fun j y hj hy => by
                    by_cases e : j = m + 1
                    · subst e
                      rw [HX0.out] at hy; cases hy
                      exact ⟨HOK.out, fun q hq => by rw [if_neg (by omega), Nat.add_sub_cancel, HP0.out] at hq; cases hq; exact HNX.out⟩
                    · exact HG.out j y (by omega) hy)⟩
                  case measure => simp [intOf]; omega
                | true =>
                  have hqA : ∀ w, (Op.equalIn 10000 38 (.agg #[.int .i64 p.a.r, .int .i64 p.a.k, .bool p.a.g, .bool p.a.s]) (.agg #[.int .i64 x.a.r, .int .i64 x.a.k, .bool x.a.g, .bool x.a.s])).run Try.prog w = .ok (eqA p.a x.a) w := run_eqA p.a x.a
                  cases h6 : eqA p.a x.a with
                  | false =>
                    rw [h6] at hqA
                    have HNX : Hid (nextOk p x = true) := Lib.hid (by unfold nextOk; rw [h5, h6]; simp; omega)
                    clear h6
                    go_wp2
                    go_quiet (fail)
                    clear hmw
                    go_wp2
                    go_roundw
                    case rel => exact ⟨m + 1 + 1, by omega, by go_num, Lib.hid ((HB.out.alloc hsz _).trans (below_drewN _ _ _)), Lib.hid (fun j y hj hy => by
                      by_cases e : j = m + 1
                      · subst e
                        rw [HX0.out] at hy; cases hy
                        exact ⟨HOK.out, fun q hq => by rw [if_neg (by omega), Nat.add_sub_cancel, HP0.out] at hq; cases hq; exact HNX.out⟩
                      · exact HG.out j y (by omega) hy)⟩
                    case measure => simp [intOf]; omega
                  | true =>
                    rw [h6] at hqA
                    have HNX : Hid (nextOk p x = false) := Lib.hid (by unfold nextOk; rw [h5, h6]; simp)
                    clear h6
                    go_wp2
                    go_quiet (fail)
                    go_wp2
                    go_ret
                    exact ⟨ret_b (by rw [HRE.out, HBAD.out (m + 1) x HX0.out (.inr ⟨p, by rw [if_neg (by omega), Nat.add_sub_cancel]; exact HP0.out, HNX.out⟩)]), (HB.out.alloc hsz _).trans (below_drewN _ _ _)⟩
    · have hkn : n = k := by omega
      subst hkn
      go_wp2
      go_ret
      exact ⟨ret_b (by rw [HRE.out, HGOOD.out (fun j x hj hx => HG.out j x (by rw [HLN.out] at hj; exact hj) hx)]), HB.out⟩
end Go.Proofs.Ytglnnplijienbaa
