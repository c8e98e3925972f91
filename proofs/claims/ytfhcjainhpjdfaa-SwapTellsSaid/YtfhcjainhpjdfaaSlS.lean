/- slices at api.Slot: Clone, IndexFunc, ContainsFunc, DeleteFunc, Equal. -/
import Derived.Shelf.Abstract
import Derived.Test.YtfhcjainhpjdfaaSlo
namespace Go.Proofs.Ytfhcjainhpjdfaa
open Go.ChangeShapes Go.WideShapes Go.ChangeAt Go.RowKit Go.Joins
set_option linter.unusedVariables false

theorem eq_nil_S (w : World) (a : Option Addr) (n c n' c' : Nat) : (binOp .eql 36 (.slice a n c) (.slice none n' c')).run Try.prog w = .ok (.bool a.isNone) w := Lib.run_eql_slice_nil w _ _ a n c n' c' Try.underlying36

set_option maxHeartbeats 2000000 in
theorem clone_S (A : Option Addr) (n c : Nat) (xs : List Slv) (w : World) (B : Nat) (hz : Rw fS 3 w B A n xs) (_ : B ≤ w.heap.size) (hbig : n ≤ 2513169434916) :
    Calls Try.prog 45 #[.slice A n c] w fun e w' => ∃ v, e = .returned v ∧ Os fS 3 52 w' w.heap.size v xs ∧ Below w.heap.size w w' := by
  have q := eq_nil_S
  have hln := hz.1
  subst hln
  cases A with
  | none =>
    have h0 : xs = [] := by
      rcases Nat.eq_zero_or_pos xs.length with h | h
      · exact List.eq_nil_of_length_eq_zero h
      · obtain ⟨_, _, e, _⟩ := hz.2.2 h; cases e
    subst h0
    clear hz
    go_enter Try.func45, Try.ntmps45
    go_wp2
    go_ret
    exact ⟨_, rfl, Os.nil, Below.refl _ _⟩
  | some x =>
    obtain ⟨i0, hi, hz0, hz1, hz2⟩ := info_parts info_S
    obtain ⟨hl, hcell⟩ := Rw.cells fS_len (by decide) hz
    have HC := Lib.hid hcell
    have HL := Lib.hid hl
    clear hcell hl hz
    go_enter Try.func45, Try.ntmps45
    go_wp2_with (at_builtin; refine wpList_append_own _ rfl _ _ 36 rfl w.heap.size 52 i0 (.agg #[.int .i64 0, .slice none 0 0, .slice none 0 0]) 3 56 Try.underlying36 hi hz0 hz1 hz2 rfl (by decide) _ _ _ rfl (World.ownsRow_made w #[] 0 (Nat.le_refl _) (Nat.zero_le _) rfl) x xs.length c (xs.flatMap fS) rfl ?qc1 ?qc2 ?qc3 ?qc4 ?qc5 ?qc6 ?_)
    case qc1 => exact HL.out
    case qc2 =>
      intro j u hj
      exact Lib.cell?_alloc_some _ (HC.out j u hj)
    case qc3 => exact fS_one xs
    case qc4 => unfold maxLen; omega
    case qc5 => omega
    case qc6 => simp
    intro v' w1 hown hgrow hnil
    go_wp2
    go_ret
    exact ⟨v', rfl, by simpa [Os] using hown, ((Below.refl _ w).alloc (Nat.le_refl _) _).grown hgrow (by simp) (by intro k hk; simp [Value.ownBlock] at hk; omega)⟩


/-- What is asked of a predicate: it answers p in every world in which all that lay below 'base' lies unturned. -/
def PredS (g : Nat) (lb : Array Value) (p : Slv → Bool) (base : Nat) (w : World) : Prop :=
  ∀ (W : World) (x : Slv), Below base w W → Calls Try.prog g (#[.agg #[.int .i64 x.r, .slice x.bA x.bn x.bc, .slice x.tA x.tn x.tc]] ++ lb) W fun e w' => e = .returned (.bool (p x)) ∧ Below W.heap.size W w'
theorem PredS.on {g : Nat} {lb : Array Value} {p : Slv → Bool} {base : Nat} {w W : World} (h : PredS g lb p base w) (hb : Below base w W) : PredS g lb p base W := fun V x hv => h V x (hb.trans hv)
def idxOf {α : Type} (p : α → Bool) (xs : List α) : Int := if xs.findIdx p < xs.length then (xs.findIdx p : Int) else -1
set_option maxHeartbeats 2000000 in
theorem indexFunc_S (g : Nat) (lb : Array Value) (eg : ∀ args w, (callFunc g args).run Try.prog w = .ok (.enter g args) w) (p : Slv → Bool) (A : Option Addr) (n c : Nat) (xs : List Slv) (w : World) (B base : Nat) (hz : Rw fS 3 w B A n xs) (hB : B ≤ w.heap.size) (hbase : base ≤ w.heap.size) (hbig : n ≤ 140737488355328)
    (hp : PredS g lb p base w) : Calls Try.prog 35 #[.slice A n c, .func (.func g) #[] lb] w fun e w' => e = .returned (.int .i64 (idxOf p xs)) ∧ Below w.heap.size w w' := by
  have hln := hz.1
  have H1 := Lib.hid (fun (i : Nat) (x : Slv) (h : xs[i]? = some x) (hi : i < xs.findIdx p) => (by
    have hl := (List.getElem?_eq_some_iff.1 h).1
    have := List.not_of_lt_findIdx hi
    rw [(List.getElem?_eq_some_iff.1 h).2] at this
    simpa using this : p x = false))
  have H2 := Lib.hid (fun (x : Slv) (h : xs[xs.findIdx p]? = some x) => (by
    have hl := (List.getElem?_eq_some_iff.1 h).1
    have := List.findIdx_getElem (w := hl)
    rw [(List.getElem?_eq_some_iff.1 h).2] at this
    exact this : p x = true))
  have hfl : xs.findIdx p ≤ n := by rw [← hln]; exact List.findIdx_le_length
  have HI : Hid (idxOf p xs = if xs.findIdx p < n then (xs.findIdx p : Int) else -1) := Lib.hid (by unfold idxOf; rw [hln])
  have HX := Lib.hid (fun (i : Nat) (hi : i < n) => (⟨xs[i]'(by omega), List.getElem?_eq_getElem _⟩ : ∃ x, xs[i]? = some x))
  generalize xs.findIdx p = m at *
  have HZ := Lib.hid hz
  have HP := Lib.hid hp
  clear hz hp hln
  rcases Nat.eq_zero_or_pos n with h0 | h0
  · subst h0
    go_enter Try.func35, Try.ntmps35
    go_wp2
    go_loop [5, 8] (fun _ i => i = .int .i64 0) (fun _ i => 1 - (intOf i).toNat)
    case atStart => exact rfl
    case round =>
      subst hrel
      go_wp2
      go_ret
      exact ⟨ret_i (by rw [HI.out, if_neg (by omega)]), Below.refl _ _⟩
  · obtain ⟨b, off, rfl, hb⟩ := HZ.out.open h0
    go_enter Try.func35, Try.ntmps35
    go_wp2
    go_loopw [5, 8] (fun _ i wr => ∃ k : Nat, k ≤ m ∧ i = .int .i64 k ∧ Hid (Below w.heap.size w wr)) (fun _ i _ => n - (intOf i).toNat)
    case atStart => exact ⟨0, by omega, rfl, Lib.hid (Below.refl _ _)⟩
    case round =>
      obtain ⟨k, hk, rfl, HB⟩ := hrel
      by_cases hlt : k < n
      · obtain ⟨x, hx⟩ := HX.out k hlt
        have hc := (HZ.out.below (HB.out.mono hB)).at_ fS_len hx
        have c0 : wr.cell? ⟨b, off + k * 3, none⟩ = some (.int .i64 x.r) := hc 0 _ rfl
        have c1 : wr.cell? ⟨b, off + k * 3 + 1, none⟩ = some (.slice x.bA x.bn x.bc) := hc 1 _ rfl
        have c2 : wr.cell? ⟨b, off + k * 3 + 2, none⟩ = some (.slice x.tA x.tn x.tc) := hc 2 _ rfl
        have hcall := HP.out wr x (HB.out.mono hbase)
        by_cases hm : k < m
        · have hpx := H1.out k x hx hm
          rw [hpx] at hcall
          have HX2 := Lib.hid hx
          clear hx hc hpx
          go_wp2_with (go_at_fn g; refine hcall.mono ?_; rintro e w' ⟨rfl, hb'⟩)
          go_roundw
          case rel => exact ⟨k + 1, by omega, by go_num, Lib.hid (HB.out.trans (hb'.mono HB.out.size))⟩
          case measure => simp [intOf]; omega
        · have hkm : k = m := by omega
          subst hkm
          have hpx := H2.out x hx
          rw [hpx] at hcall
          have HX2 := Lib.hid hx
          clear hx hc hpx
          go_wp2_with (go_at_fn g; refine hcall.mono ?_; rintro e w' ⟨rfl, hb'⟩)
          go_ret
          exact ⟨ret_i (by rw [HI.out, if_pos hlt]), HB.out.trans (hb'.mono HB.out.size)⟩
      · have hkm : k = m := by omega
        subst hkm
        go_wp2
        go_ret
        exact ⟨ret_i (by rw [HI.out, if_neg hlt]), HB.out⟩

end Go.Proofs.Ytfhcjainhpjdfaa
