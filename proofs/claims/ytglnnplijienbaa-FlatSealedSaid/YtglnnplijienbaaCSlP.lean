/- slices at api.Op: Clone, IndexFunc, ContainsFunc, DeleteFunc, Equal. -/
import Derived.Shelf.Abstract
import Derived.Test.YtglnnplijienbaaM18
import Derived.Test.YtglnnplijienbaaCFcr
namespace Go.Proofs.Ytglnnplijienbaa
open Go.ChangeShapes Go.WideShapes Go.ChangeAt Go.RowKit Go.Joins
set_option linter.unusedVariables false


/-- What is asked of a predicate: it answers p in every world in which all that lay below 'base' lies unturned. -/
def PredP (g : Nat) (lb : Array Value) (p : Fop → Bool) (base : Nat) (w : World) : Prop :=
  ∀ (W : World) (x : Fop), Below base w W → Calls Try.prog g (#[.agg #[.int .i64 x.kind, .int .i64 x.proc, .int .i64 x.page, .int .i64 x.count, .int .i64 x.rights, .int .i64 x.key, .bool x.tagged, .int .i64 x.draw, .int .i64 x.addr, .int .i64 x.size, .int .i64 x.value, .int .i64 x.tag]] ++ lb) W fun e w' => e = .returned (.bool (p x)) ∧ Below W.heap.size W w'
theorem PredP.on {g : Nat} {lb : Array Value} {p : Fop → Bool} {base : Nat} {w W : World} (h : PredP g lb p base w) (hb : Below base w W) : PredP g lb p base W := fun V x hv => h V x (hb.trans hv)
set_option maxHeartbeats 2000000 in
theorem indexFunc_P (g : Nat) (lb : Array Value) (eg : ∀ args w, (callFunc g args).run Try.prog w = .ok (.enter g args) w) (p : Fop → Bool) (A : Option Addr) (n c : Nat) (xs : List Fop) (w : World) (B base : Nat) (hz : Rw fO 12 w B A n xs) (hB : B ≤ w.heap.size) (hbase : base ≤ w.heap.size) (hbig : n ≤ 140737488355328)
    (hp : PredP g lb p base w) : Calls Try.prog 28 #[.slice A n c, .func (.func g) #[] lb] w fun e w' => e = .returned (.int .i64 (idxOf p xs)) ∧ Below w.heap.size w w' := by
  have hln := hz.1
  have H1 := Lib.hid (fun (i : Nat) (x : Fop) (h : xs[i]? = some x) (hi : i < xs.findIdx p) => (by
    have hl := (List.getElem?_eq_some_iff.1 h).1
    have := List.not_of_lt_findIdx hi
    rw [(List.getElem?_eq_some_iff.1 h).2] at this
    simpa using this : p x = false))
  have H2 := Lib.hid (fun (x : Fop) (h : xs[xs.findIdx p]? = some x) => (by
    have hl := (List.getElem?_eq_some_iff.1 h).1
    have := List.findIdx_getElem (w := hl)
    rw [(List.getElem?_eq_some_iff.1 h).2] at this
    exact this : p x = true))
  have hfl : xs.findIdx p ≤ n := by rw [← hln]; exact List.findIdx_le_length
  have HI : Hid (idxOf p xs = if xs.findIdx p < n then (xs.findIdx p : Int) else -1) := Lib.hid (by unfold idxOf; rw [hln])
  have HX := Lib.hid (fun (i : Nat) (hi : i < n) => (⟨xs[i]'(by omega), List.getElem?_eq_getElem _⟩ : ∃ x, xs[i]? = some x))
  generalize xs.findIdx p = m at *
  have HZ := Lib.hid hz
  have HP := Lib.hid hp
  clear hz hp hln
  rcases Nat.eq_zero_or_pos n with h0 | h0
  · subst h0
    go_enter Try.func28, Try.ntmps28
    go_wp2
    go_loop [5, 8] (fun _ i => i = .int .i64 0) (fun _ i => 1 - (intOf i).toNat)
    case atStart => exact rfl
    case round =>
      subst hrel
      go_wp2
      go_ret
      exact ⟨ret_i (by rw [HI.out, if_neg (by omega)]), Below.refl _ _⟩
  · obtain ⟨b, off, rfl, hb⟩ := HZ.out.open h0
    go_enter Try.func28, Try.ntmps28
    go_wp2
    go_loopw [5, 8] (fun _ i wr => ∃ k : Nat, k ≤ m ∧ i = .int .i64 k ∧ Hid (Below w.heap.size w wr)) (fun _ i _ => n - (intOf i).toNat)
    case atStart => exact ⟨0, by omega, rfl, Lib.hid (Below.refl _ _)⟩
    case round =>
      obtain ⟨k, hk, rfl, HB⟩ := hrel
      by_cases hlt : k < n
      · obtain ⟨x, hx⟩ := HX.out k hlt
        have hc := (HZ.out.below (HB.out.mono hB)).at_ fO_len hx
        have c0 : wr.cell? ⟨b, off + k * 12, none⟩ = some (.int .i64 x.kind) := hc 0 _ rfl
        have c1 : wr.cell? ⟨b, off + k * 12 + 1, none⟩ = some (.int .i64 x.proc) := hc 1 _ rfl
        have c2 : wr.cell? ⟨b, off + k * 12 + 2, none⟩ = some (.int .i64 x.page) := hc 2 _ rfl
        have c3 : wr.cell? ⟨b, off + k * 12 + 3, none⟩ = some (.int .i64 x.count) := hc 3 _ rfl
        have c4 : wr.cell? ⟨b, off + k * 12 + 4, none⟩ = some (.int .i64 x.rights) := hc 4 _ rfl
        have c5 : wr.cell? ⟨b, off + k * 12 + 5, none⟩ = some (.int .i64 x.key) := hc 5 _ rfl
        have c6 : wr.cell? ⟨b, off + k * 12 + 6, none⟩ = some (.bool x.tagged) := hc 6 _ rfl
        have c7 : wr.cell? ⟨b, off + k * 12 + 7, none⟩ = some (.int .i64 x.draw) := hc 7 _ rfl
        have c8 : wr.cell? ⟨b, off + k * 12 + 8, none⟩ = some (.int .i64 x.addr) := hc 8 _ rfl
        have c9 : wr.cell? ⟨b, off + k * 12 + 9, none⟩ = some (.int .i64 x.size) := hc 9 _ rfl
        have c10 : wr.cell? ⟨b, off + k * 12 + 10, none⟩ = some (.int .i64 x.value) := hc 10 _ rfl
        have c11 : wr.cell? ⟨b, off + k * 12 + 11, none⟩ = some (.int .i64 x.tag) := hc 11 _ rfl
        have hcall := HP.out wr x (HB.out.mono hbase)
        by_cases hm : k < m
        · have hpx := H1.out k x hx hm
          rw [hpx] at hcall
          have HX2 := Lib.hid hx
          clear hx hc hpx
          go_wp2_with (go_at_fn g; refine hcall.mono ?_; rintro e w' ⟨rfl, hb'⟩)
          go_roundw
          case rel => exact ⟨k + 1, by omega, by go_num, Lib.hid (HB.out.trans (hb'.mono HB.out.size))⟩
          case measure => simp [intOf]; omega
        · have hkm : k = m := by omega
          subst hkm
          have hpx := H2.out x hx
          rw [hpx] at hcall
          have HX2 := Lib.hid hx
          clear hx hc hpx
          go_wp2_with (go_at_fn g; refine hcall.mono ?_; rintro e w' ⟨rfl, hb'⟩)
          go_ret
          exact ⟨ret_i (by rw [HI.out, if_pos hlt]), HB.out.trans (hb'.mono HB.out.size)⟩
      · have hkm : k = m := by omega
        subst hkm
        go_wp2
        go_ret
        exact ⟨ret_i (by rw [HI.out, if_neg hlt]), HB.out⟩

set_option maxHeartbeats 2000000 in
theorem containsFunc_P (g : Nat) (lb : Array Value) (eg : ∀ args w, (callFunc g args).run Try.prog w = .ok (.enter g args) w) (p : Fop → Bool) (A : Option Addr) (n c : Nat) (xs : List Fop) (w : World) (B base : Nat) (hz : Rw fO 12 w B A n xs) (hB : B ≤ w.heap.size) (hbase : base ≤ w.heap.size) (hbig : n ≤ 140737488355328)
    (hp : PredP g lb p base w) : Calls Try.prog 17 #[.slice A n c, .func (.func g) #[] lb] w fun e w' => e = .returned (.bool (xs.any p)) ∧ Below w.heap.size w w' := by
  have hcall := indexFunc_P g lb eg p A n c xs w B base hz hB hbase hbig hp
  have HI := Lib.hid (idxOf_nonneg p xs)
  clear hz hp
  generalize idxOf p xs = i at *
  go_enter Try.func17, Try.ntmps17
  go_wp2_with (go_at_call 28; refine hcall.mono ?_; rintro e w' ⟨rfl, hb'⟩)
  all_goals
    go_ret
    exact ⟨ret_b (by rw [← HI.out]), hb'⟩

end Go.Proofs.Ytglnnplijienbaa
