/- HRight. -/
import Derived.Test.YtnpmbjplmollkaaHpc
namespace Go.Proofs.Ytnpmbjplmollkaa
open Go.ChangeShapes Go.WideShapes Go.ChangeAt Go.RowKit Go.Joins
set_option linter.unusedVariables false
theorem asc_right {xs : List Rgn} (h : ascB 0 xs = false) : rightL xs = false := by
  cases hr : rightL xs with
  | false => rfl
  | true => rw [(ascB_iff _ _).2 (rightL_asc hr)] at h; cases h
theorem pages_yes {ok : Bool} {G : Nat → Option Att} {w w' : World} {e : Ending} (h : PagesRet ok G w e w') (hok : ok = true) : ∃ arr, e = .returned (.tuple #[.agg arr, .bool true]) ∧ Pages w' (fun _ => True) arr G ∧ Below w.heap.size w w' := by
  obtain ⟨arr, Gx, he, hp, hg, hb⟩ := h
  subst hok
  exact ⟨arr, he, hp.congr (hg rfl), hb⟩
theorem pages_no {ok : Bool} {G : Nat → Option Att} {w w' : World} {e : Ending} (h : PagesRet ok G w e w') (hok : ok = false) : ∃ arr, e = .returned (.tuple #[.agg arr, .bool false]) ∧ arr.size = 64 ∧ arr.all (·.oneCell') = true ∧ Below w.heap.size w w' := by
  obtain ⟨arr, Gx, he, hp, hg, hb⟩ := h
  subst hok
  exact ⟨arr, he, hp.size, hp.one, hb⟩
theorem ldg60 {ops : Array Oper} {rest : List Oper} {dst : Option Tmp} {x : Operand} {type : TypeId} {pos : String} {after : Array Edge} {guard : Option (Nat × Bool)} {a : Act} {w : World} {Q : Exit → Act → World → Prop} (b : Nat) (cs : Array Value) (hx : a.eval x = .pointer (some ⟨b, 0, none⟩)) (hw : Region.wanted ⟨dst, .load 60 x, type, pos, after, guard⟩ (yielded ops a.tmps) = true) (hc : w.rangeAt b 0 cs.toList) (hn : cs.size = 64)
    (h : wpList Try.prog ops Q rest (a.put dst (.agg cs)) w) : wpList Try.prog ops Q (⟨dst, .load 60 x, type, pos, after, guard⟩ :: rest) a w := by
  have h' : wpList Try.prog ops Q rest (a.put dst (.agg cs.toList.toArray)) w := by simpa using h
  refine wpList_step fun K hK => ?_
  simp only [hw, if_true]
  exact wp_load_mid 60 x rfl b 0 hx cs.toList _ hc Try.underlying60 rfl (by rw [info60, Array.length_toList, hn]) (hK _ _ h')
def hNIL : Array Value := Array.replicate 64 (.pointer none)
set_option maxHeartbeats 4000000 in
set_option maxRecDepth 100000 in
theorem hright_any (A : Option Addr) (n c : Nat) (xs : List Rgn) (w : World) (B : Nat) (hz : Rw fR 6 w B A n xs) (hB : B ≤ w.heap.size) (hbig : n ≤ 140737488355328) :
    Calls Try.prog 39 #[.slice A n c] w fun e w' => e = .returned (.bool (rightL xs)) ∧ Below w.heap.size w w' := by
  have hpg := hpages_any A n c xs w B hz hB hbig
  cases hok : ascB 0 xs with
  | false =>
    rw [asc_right hok]
    rw [hok] at hpg
    have hpg := hpg.mono fun e w' h => pages_no h rfl
    clear hz hbig
    go_enter Try.func39, Try.ntmps39
    go_wp2_with (first
    | ((with_reducible (refine st60 arr ?_ ?_ ?_ harr hone ?_)); rfl; rfl; rfl)
    | (go_at_call 40; refine hpg.mono ?_; rintro e w1 ⟨arr, rfl, harr, hone, hb1⟩))
    go_ret
    exact ⟨rfl, (hb1.alloc hb1.size _)⟩
  | true =>
    have hR := hright_eq xs
    rw [hok, Bool.true_and] at hR
    rw [← hR]
    rw [hok] at hpg
    have hpg := hpg.mono fun e w' h => pages_yes h rfl
    have HEQ := Lib.hid (fun A1 c1 n1 w1 (h1 : Rw fR 6 w1 w1.heap.size A1 n1 (regs (gAt xs) 64)) (hb : Below w.heap.size w w1) => equal_R A1 A n1 c1 n c (regs (gAt xs) 64) xs w1 w1.heap.size h1 ((hz.below (hb.mono hB)).on (Below.refl _ _) (Nat.le_trans hB hb.size)) (Nat.le_refl _) (by have := h1.1; have := regs_len (gAt xs) 64; omega) hbig)
    have HHR := Lib.hid (fun arr w1 (h : Pages w1 (fun _ => True) arr (gAt xs)) => hregions_any arr (gAt xs) w1 h)
    clear hz hbig hok hR
    generalize sameL eqR (regs (gAt xs) 64) xs = r at *
    generalize regs (gAt xs) 64 = rl at *
    generalize gAt xs = G at *
    go_enter Try.func39, Try.ntmps39
    go_wp2_with (first
    | ((with_reducible (refine st60 arr ?_ ?_ ?_ harr hone ?_)); rfl; rfl; rfl)
    | ((with_reducible (refine ldg60 w1.heap.size arr ?_ ?_ ?_ harr ?_)); rfl; rfl; exact range_new)
    | (go_at_call 16; refine (HEQ.out A2 c2 rl.length w2 hr2 HB2.out).mono ?_; rintro e w3 ⟨rfl, hb3⟩)
    | (go_at_call 41; refine (HHR.out arr _ (HP.out.on ((Below.refl w1.heap.size w1).alloc (Nat.le_refl _) (.cells arr 60)))).mono ?_; rintro e w2 ⟨v2, rfl, ho2, hb2⟩; obtain ⟨A2, c2, rfl, hr2⟩ := os_n ho2 rl.length rfl; have HB2 := Lib.hid (HB1.out.trans ((((Below.refl w1.heap.size w1).alloc (Nat.le_refl _) (.cells arr 60)).trans (hb2.mono (by simp))).mono HB1.out.size)))
    | (go_at_call 40; refine hpg.mono ?_; rintro e w1 ⟨arr, rfl, hP1, hb1⟩; have harr := hP1.size; have hone := hP1.one; have HP := Lib.hid hP1; have HB1 := Lib.hid hb1; clear hP1 hb1))
    go_ret
    exact ⟨rfl, HB2.out.trans (hb3.mono HB2.out.size)⟩
end Go.Proofs.Ytnpmbjplmollkaa
