/- region.Some; place.free, All, Choose. -/
import Derived.Test.YtnpmbjplmollkaaRgb
import Derived.Test.YtnpmbjplmollkaaSwm
import Derived.OwnWalk
namespace Go.Proofs.Ytnpmbjplmollkaa
open Go.ChangeShapes Go.WideShapes Go.ChangeAt Go.RowKit Go.Joins
set_option linter.unusedVariables false
def AnsA (g : Nat) (p : Att → Bool) : Prop := ∀ (W : World) (x : Att), Calls Try.prog g #[.agg #[.int .i64 x.r, .int .i64 x.k, .bool x.g, .bool x.s]] W fun e w' => e = .returned (.bool (p x)) ∧ Below W.heap.size W w'
theorem some_pred (g : Nat) (eg : ∀ args w, (callFunc g args).run Try.prog w = .ok (.enter g args) w) (p : Att → Bool) (hg : AnsA g p) (w : World) (b base : Nat) (hb : b < base) (hbase : base ≤ w.heap.size) (hc : w.cell? ⟨b, 0, none⟩ = some (.func (.func g) #[] #[])) :
    PredR 55 #[.pointer (some ⟨b, 0, none⟩)] (fun x => p x.a) base w := by
  intro W x hW
  have h1 : W.cell? ⟨b, 0, none⟩ = some (.func (.func g) #[] #[]) := (hW.cell (p := ⟨b, 0, none⟩) hb).trans hc
  have hlt : b < W.heap.size := by have := hW.size; omega
  have hcall := hg (W.alloc (.cells #[.int .i64 x.f, .int .i64 x.t, .int .i64 x.a.r, .int .i64 x.a.k, .bool x.a.g, .bool x.a.s] 26)) x.a
  clear hW hc
  go_enter Try.func55, Try.ntmps55
  go_wp2_with (go_at_fn g; refine hcall.mono ?_; rintro e w' ⟨rfl, hb'⟩)
  go_ret
  exact ⟨ret_b rfl, ((Below.refl _ _).alloc (Nat.le_refl _) _).trans (hb'.mono (by simp))⟩
set_option maxHeartbeats 1000000 in
theorem some_any (g : Nat) (eg : ∀ args w, (callFunc g args).run Try.prog w = .ok (.enter g args) w) (p : Att → Bool) (hg : AnsA g p) (A : Option Addr) (n c : Nat) (xs : List Rgn) (a b : Int) (w : World) (B : Nat) (hz : Rw fR 6 w B A n xs) (hB : B ≤ w.heap.size) (hbig : n ≤ 1000000) :
    Calls Try.prog 50 #[.slice A n c, .int .i64 a, .int .i64 b, .func (.func g) #[] #[]] w fun e w' => e = .returned (.bool ((inL a b xs).any fun x => p x.a)) ∧ Below w.heap.size w w' := by
  have hln := hz.1
  have hil : (inL a b xs).length ≤ 1000000 := Nat.le_trans (inL_len a b xs) (by omega)
  have hW0 : Below w.heap.size w (w.alloc (.cells #[.func (.func g) #[] #[]] 70)) := (Below.refl _ _).alloc (Nat.le_refl _) _
  have hcut := cut_any A n c xs a b (w.alloc (.cells #[.func (.func g) #[] #[]] 70)) B (hz.below (hW0.mono hB)) (by simp; omega) hbig
  have HG := Lib.hid hg
  have HP := Lib.hid (fun w1 hs hb => some_pred g eg p hg w1 w.heap.size (w.heap.size + 1) (Nat.lt_succ_self _) hs hb)
  have hbox : (w.alloc (.cells #[.func (.func g) #[] #[]] 70)).cell? ⟨w.heap.size, 0, none⟩ = some (.func (.func g) #[] #[]) := by simp [go_sem]
  have HBX := Lib.hid hbox
  have HW0 := Lib.hid hW0
  clear hg hz hln hbox hW0
  generalize inL a b xs = il at *
  go_enter Try.func50, Try.ntmps50
  go_wp2_with (go_at_call 37; refine hcut.mono ?_; rintro e w1 ⟨vo, vi, rfl, ho, hi, hap, hb1⟩)
  simp only [World.size_alloc] at ho hi hb1
  have hs1 : w.heap.size + 1 ≤ w1.heap.size := by have := hb1.size; simpa using this
  have hP := HP.out w1 hs1 ((hb1.cell (p := ⟨w.heap.size, 0, none⟩) (Nat.lt_succ_self _)).trans HBX.out)
  obtain ⟨Ai, ci, rfl, hl1, hl2, hr⟩ := hi.row fR_len
  have hcon := containsFunc_R _ _ (enters_of Try.func55 (by kernel_rfl) rfl) (fun x => p x.a) Ai il.length ci il w1 w1.heap.size (w.heap.size + 1) hr (Nat.le_refl _) hs1 (by omega) hP
  have HW1 := Lib.hid (HW0.out.trans (hb1.mono (by omega)))
  clear hP hr ho hi hap hb1
  go_wp2_with (go_at_call 54; refine hcon.mono ?_; rintro e w2 ⟨rfl, hb2⟩)
  go_ret
  exact ⟨ret_b rfl, HW1.out.trans (hb2.mono (by omega))⟩
theorem yes_ans : AnsA 51 (fun _ => true) := by
  intro W x
  go_enter Try.func51, Try.ntmps51
  go_wp2
  go_ret
  exact ⟨ret_b rfl, (Below.refl _ _).alloc (Nat.le_refl _) _⟩
def freeB (xs : List Rgn) (at_ count : Int) : Bool := (inL (max (at_ - 1) 0) (min (at_ + count + 1) 64) xs).isEmpty
theorem any_true {α : Type} : ∀ l : List α, (l.any fun _ => true) = !l.isEmpty
  | [] => rfl
  | _ :: _ => by simp
theorem free_any (A : Option Addr) (n c : Nat) (xs : List Rgn) (at_ count : Int) (w : World) (B : Nat) (hz : Rw fR 6 w B A n xs) (hB : B ≤ w.heap.size) (hbig : n ≤ 1000000) (h0 : 0 ≤ at_) (h1 : at_ ≤ 64) (h2 : 0 ≤ count) (h3 : count ≤ 64) :
    Calls Try.prog 46 #[.slice A n c, .int .i64 at_, .int .i64 count] w fun e w' => e = .returned (.bool (freeB xs at_ count)) ∧ Below w.heap.size w w' := by
  have hs := some_any _ (enters_of Try.func51 (by kernel_rfl) rfl) _ yes_ans A n c xs (max (at_ - 1) 0) (min (at_ + count + 1) 64) w B hz hB hbig
  have HF : Hid (freeB xs at_ count = !((inL (max (at_ - 1) 0) (min (at_ + count + 1) 64) xs).any fun _ => true)) := Lib.hid (by rw [any_true, Bool.not_not]; rfl)
  generalize ((inL (max (at_ - 1) 0) (min (at_ + count + 1) 64) xs).any fun _ => true) = r at *
  clear hz
  go_enter Try.func46, Try.ntmps46
  go_wp2_with (go_at_call 50; refine hs.mono ?_; rintro e w' ⟨rfl, hb'⟩)
  go_ret
  exact ⟨ret_b (by rw [HF.out]), hb'⟩
def fI (i : Int) : List Value := [.int .i64 i]
theorem fI_len (x : Int) : (fI x).length = 1 := rfl
theorem fI_one1 (x : Int) : ∀ u ∈ fI x, u.oneCell' = true := by intro u hu; simp [fI] at hu; subst hu; rfl
theorem intinfo : (Try.prog.info? 3).map (fun i => (i.zero, i.size, i.bytes)) = some (some (.int .i64 0), 1, 8) := by kernel_rfl
theorem append_I {ops : Array Oper} {rest : List Oper} {o : Oper} {a : Act} {Q : Exit → Act → World → Prop} (hgd : o.guard = none) (s x : Operand) (ho : o.op = .call { callee := .builtin .append, args := #[s, x], argTypes := #[51, 51] })
    (base : Nat) (v : Value) (t : List Int) (W : World) (c : Int) (gx : Nat) (hs : a.eval s = v) (hx : a.eval x = .slice (some ⟨gx, 0, none⟩) 1 1) (hgx : gx = W.heap.size) (hos : Os fI 1 3 W base v t) (hb : base ≤ W.heap.size) (hlen : t.length + 1 ≤ 1000000)
    (hK : ∀ g' c' w', Os fI 1 3 w' base (.slice (some ⟨g', 0, none⟩) (t.length + 1) c') (t ++ [c]) → Below base W w' → base ≤ g' → t.length + 1 ≤ c' → c' ≤ maxLen → wpList Try.prog ops Q rest (a.put o.dst (.slice (some ⟨g', 0, none⟩) (t.length + 1) c')) w') :
    wpList Try.prog ops Q (o :: rest) a (W.alloc (.cells #[.int .i64 c] 3)) :=
  append_one Try.underlying51 intinfo rfl (by decide) fI_len fI_one1 hgd s x ho base v t W c gx hs hx hgx hos hb (by unfold maxLen; omega) (by omega) hK
def upTo (xs : List Rgn) (count : Int) (k : Nat) : List Int := ((List.range k).map Int.ofNat).filter (fun p => freeB xs p count)
theorem upTo_succ (xs : List Rgn) (count : Int) (k : Nat) : upTo xs count (k + 1) = upTo xs count k ++ if freeB xs k count = true then [(k : Int)] else [] := by
  unfold upTo
  rw [List.range_succ, List.map_append, List.filter_append]
  congr 1
  simp only [List.map_cons, List.map_nil, List.filter_cons, List.filter_nil]
  rfl
theorem upTo_len (xs : List Rgn) (count : Int) (k : Nat) : (upTo xs count k).length ≤ k := Nat.le_trans (List.length_filter_le _ _) (by simp)
def allP (xs : List Rgn) (count : Int) : List Int := if rightL xs = true ∧ 1 ≤ count then upTo xs count (65 - count).toNat else []
theorem allP_len (xs : List Rgn) (count : Int) : (allP xs count).length ≤ 64 := by
  unfold allP; split
  · rename_i h; have := upTo_len xs count (65 - count).toNat; omega
  · simp
theorem right_len : ∀ (l : List Rgn) (q : Option Rgn) (b : Int), rightG q l = true → (∀ p, q = some p → b ≤ p.t) → (q = none → b ≤ 0) → l.length + b ≤ 64 ∨ l = []
  | [], _, _, _, _, _ => .inr rfl
  | x :: l, q, b, h, hq, hn => by
    unfold rightG at h
    simp only [Bool.and_eq_true] at h
    obtain ⟨⟨h1, h2⟩, h3⟩ := h
    unfold okR at h1
    simp only [Bool.and_eq_true, decide_eq_true_eq] at h1
    have hb : b ≤ x.f := by
      cases q with
      | none => have := hn rfl; omega
      | some p =>
        have := hq p rfl
        simp [nextOk] at h2
        omega
    rcases right_len l (some x) x.t h3 (fun p hp => by cases hp; exact Int.le_refl _) (fun h => by cases h) with h | h
    · left; simp only [List.length_cons]; omega
    · left; subst h; simp; omega
theorem rightL_len {l : List Rgn} (h : rightL l = true) : l.length ≤ 64 := by
  rcases right_len l none 0 h (fun p hp => by cases hp) (fun _ => Int.le_refl _) with h | h
  · omega
  · subst h; simp
set_option maxHeartbeats 2000000 in
theorem all_any (A : Option Addr) (n c : Nat) (xs : List Rgn) (count : Int) (w : World) (B : Nat) (hz : Rw fR 6 w B A n xs) (hB : B ≤ w.heap.size) (hbig : n ≤ 140737488355328) (h64 : I64 count) :
    Calls Try.prog 32 #[.slice A n c, .int .i64 count] w (Gives fI 1 3 w.heap.size w (allP xs count)) := by
  unfold I64 at h64
  have hln := hz.1
  have hright := right_any A n c xs w B hz hB hbig
  have NO : Hid (¬ (rightL xs = true ∧ 1 ≤ count) → ∀ w', Below w.heap.size w w' → Gives fI 1 3 w.heap.size w (allP xs count) (.returned (.slice none 0 0)) w') := Lib.hid (fun h w' hb => ⟨_, rfl, by unfold allP; rw [if_neg h]; exact Os.nil, hb⟩)
  cases hr : rightL xs with
  | false =>
    rw [hr] at hright
    have NO2 := Lib.hid (NO.out (by rw [hr]; simp))
    clear hz NO hr
    go_enter Try.func32, Try.ntmps32
    go_wp2_with (go_at_call 26; refine hright.mono ?_; rintro e w' ⟨rfl, hb'⟩)
    go_ret
    exact NO2.out _ hb'
  | true =>
    rw [hr] at hright
    by_cases hc : count < 1
    · have NO2 := Lib.hid (NO.out (by omega))
      clear hz NO hr
      go_enter Try.func32, Try.ntmps32
      go_wp2_with (go_at_call 26; refine hright.mono ?_; rintro e w' ⟨rfl, hb'⟩)
      go_ret
      exact NO2.out _ hb'
    · have hc1 : 1 ≤ count := by omega
      have h64n : n ≤ 64 := by have := rightL_len hr; omega
      have YES : Hid (allP xs count = upTo xs count (65 - count).toNat) := Lib.hid (by unfold allP; rw [if_pos ⟨hr, hc1⟩])
      have HF := Lib.hid (fun (w' : World) (hb : Below w.heap.size w w') (k : Nat) (hk : (k : Int) ≤ 64 - count) => free_any A n c xs k count w' B (hz.below (hb.mono hB)) (Nat.le_trans hB hb.size) (by omega) (by omega) (by omega) (by omega) (by omega))
      have HUS := Lib.hid (upTo_succ xs count)
      have HUL := Lib.hid (upTo_len xs count)
      have HU0 : Hid (upTo xs count 0 = []) := Lib.hid rfl
      generalize upTo xs count = u at *
      generalize allP xs count = al at *
      obtain ⟨fb, hfb⟩ : ∃ f : Nat → Bool, f = fun (k : Nat) => freeB xs k count := ⟨_, rfl⟩
      have HF2 : Hid (∀ (w' : World) (hb : Below w.heap.size w w') (k : Nat) (hk : (k : Int) ≤ 64 - count), Calls Try.prog 46 #[.slice A n c, .int .i64 k, .int .i64 count] w' fun e w'' => e = .returned (.bool (fb k)) ∧ Below w'.heap.size w' w'') := Lib.hid (by rw [hfb]; exact HF.out)
      have HUS2 : Hid (∀ k, u (k + 1) = u k ++ if fb k = true then [(k : Int)] else []) := Lib.hid (by rw [hfb]; exact HUS.out)
      clear hz NO hr hfb HF HUS
      go_enter Try.func32, Try.ntmps32
      go_wp2_with (go_at_call 26; refine hright.mono ?_; rintro e w1 ⟨rfl, hb1⟩)
      have HB1 := Lib.hid hb1
      clear hb1 hright
      go_loopw [5, 6] (fun v i wr => ∃ k : Nat, k ≤ (65 - count).toNat ∧ i = .int .i64 k ∧ Hid (Os fI 1 3 wr w.heap.size v (u k)) ∧ Hid (Below w.heap.size w wr)) (fun _ i _ => 65 - (intOf i).toNat)
      case atStart => exact ⟨0, by omega, rfl, Lib.hid (by rw [HU0.out]; exact Os.nil), HB1⟩
      case round =>
        obtain ⟨k, hk, rfl, HO, HB⟩ := hrel
        have hlen := HUL.out k
        have hsz := HB.out.size
        by_cases hlt : (k : Int) ≤ 64 - count
        · have hcall := HF2.out wr HB.out k hlt
          have hkb : (k : Int) < 65 - count := by omega
          have HU := Lib.hid (HUS2.out k)
          have hcw : (64 : Int) - count ≤ 63 := by omega
          cases hq : fb k with
          | false =>
            rw [hq] at hcall
            have HU2 : Hid (u (k + 1) = u k) := Lib.hid (by rw [HU.out, hq]; simp)
            clear hq
            go_wp2_with (go_at_call 46; refine hcall.mono ?_; rintro e w2 ⟨rfl, hb2⟩)
            go_roundw
            case rel => exact ⟨k + 1, by omega, by go_num, Lib.hid (by rw [HU2.out]; exact HO.out.below hb2 (Nat.le_refl _)), Lib.hid (HB.out.trans (hb2.mono hsz))⟩
            case measure => simp [intOf]; omega
          | true =>
            rw [hq] at hcall
            have HU2 : Hid (u (k + 1) = u k ++ [(k : Int)]) := Lib.hid (by rw [HU.out, hq]; simp)
            clear hq
            go_wp2_with (first
              | (go_at_call 46; refine hcall.mono ?_; rintro e w2 ⟨rfl, hb2⟩)
              | (at_builtin; refine append_I rfl _ _ rfl w.heap.size u5 (u k) w2 k w2.heap.size rfl rfl rfl (HO.out.below hb2 (Nat.le_refl _)) (Nat.le_trans hsz hb2.size) (by omega) ?_; intro g' c' w' ho hb3 hbg hcc hm))
            go_roundw
            case rel => exact ⟨k + 1, by omega, by go_num, Lib.hid (by rw [HU2.out]; exact ho), Lib.hid ((HB.out.trans (hb2.mono hsz)).trans hb3)⟩
            case measure => simp [intOf]; omega
        · have hke : k = (65 - count).toNat := by omega
          have hcw : (64 : Int) - count ≤ 63 := by omega
          have HU : Hid (u k = al) := Lib.hid (by rw [YES.out, hke])
          have hlt2 : 64 - count < (k : Int) := by omega
          go_wp2
          go_ret
          exact ⟨_, rfl, by rw [← HU.out]; exact HO.out, HB.out⟩
end Go.Proofs.Ytnpmbjplmollkaa
