/- Several texts in one: Rgh, Rgk. -/
import Derived.Test.YtglnnplijienbaaM27
/- region.turn, Turn, Seal, Guard. -/
namespace Go.Proofs.Ytglnnplijienbaa
open Go.ChangeShapes Go.WideShapes Go.ChangeAt Go.RowKit Go.Joins
set_option linter.unusedVariables false
def FunA (g : Nat) (cb : Array Value) (f : Att → Att) (base : Nat) (w : World) : Prop :=
  ∀ (W : World) (a : Att), Below base w W → Calls Try.prog g (#[.agg #[.int .i64 a.r, .int .i64 a.k, .bool a.g, .bool a.s]] ++ cb) W fun e w' => e = .returned (.agg #[.int .i64 (f a).r, .int .i64 (f a).k, .bool (f a).g, .bool (f a).s]) ∧ Below W.heap.size W w'
theorem grown_setCell {w : World} {g o : Nat} {u : Value} : w.grownBy (w.setCell ⟨g, o, none⟩ u) (some g) :=
  ⟨rfl, rfl, rfl, by simp, fun k hk hne => by simp only [World.setCell, Array.getElem?_modify]; rw [if_neg (fun e => hne (by rw [e]))]⟩
theorem Duo.set1 {w0 w : World} {vo : Value} {o i : List Rgn} {g n c k : Nat} (h : Duo w0 w vo (.slice (some ⟨g, 0, none⟩) n c) o i) {x y : Rgn} {u : Value} (j : Nat) (hi : i[k]? = some x) (hj : (fR y)[j]? = some u) (hx : ∀ m v, m ≠ j → (fR y)[m]? = some v → (fR x)[m]? = some v) : Duo w0 (w.setCell ⟨g, k * 6 + j, none⟩ u) vo (.slice (some ⟨g, 0, none⟩) n c) o (i.set k y) :=
  ⟨h.below.setCell (p := ⟨g, k * 6 + j, none⟩) h.ins.blk_lt_.2.1 _, h.out.frame (u := .slice (some ⟨g, 0, none⟩) n c) grown_setCell h.apart, h.ins.set_cell fR_len (by decide) j hi hj hx, h.apart⟩
theorem Duo.store {w0 w : World} {vo : Value} {o i : List Rgn} {g n c k : Nat} (h : Duo w0 w vo (.slice (some ⟨g, 0, none⟩) n c) o i) {x : Rgn} (a : Att) (hi : i[k]? = some x) :
    Duo w0 ((((w.setCell ⟨g, k * 6 + 2, none⟩ (.int .i64 a.r)).setCell ⟨g, k * 6 + 3, none⟩ (.int .i64 a.k)).setCell ⟨g, k * 6 + 4, none⟩ (.bool a.g)).setCell ⟨g, k * 6 + 5, none⟩ (.bool a.s)) vo (.slice (some ⟨g, 0, none⟩) n c) o (i.set k ⟨x.f, x.t, a⟩) := by
  have hl := (List.getElem?_eq_some_iff.1 hi).1
  have h1 := h.set1 (y := ⟨x.f, x.t, ⟨a.r, x.a.k, x.a.g, x.a.s⟩⟩) 2 hi rfl (fun m v hm hv => by
    match m, hm, hv with
    | 0, _, hv => exact hv
    | 1, _, hv => exact hv
    | 3, _, hv => exact hv
    | 4, _, hv => exact hv
    | 5, _, hv => exact hv
    | (m + 6), _, hv => simp [fR] at hv)
  have h2 := h1.set1 (x := ⟨x.f, x.t, ⟨a.r, x.a.k, x.a.g, x.a.s⟩⟩) (y := ⟨x.f, x.t, ⟨a.r, a.k, x.a.g, x.a.s⟩⟩) (k := k) 3 (by rw [List.getElem?_set_self hl]) rfl (fun m v hm hv => by
    match m, hm, hv with
    | 0, _, hv => exact hv
    | 1, _, hv => exact hv
    | 2, _, hv => exact hv
    | 4, _, hv => exact hv
    | 5, _, hv => exact hv
    | (m + 6), _, hv => simp [fR] at hv)
  have h3 := h2.set1 (x := ⟨x.f, x.t, ⟨a.r, a.k, x.a.g, x.a.s⟩⟩) (y := ⟨x.f, x.t, ⟨a.r, a.k, a.g, x.a.s⟩⟩) (k := k) 4 (by rw [List.getElem?_set_self (by simpa using hl)]) rfl (fun m v hm hv => by
    match m, hm, hv with
    | 0, _, hv => exact hv
    | 1, _, hv => exact hv
    | 2, _, hv => exact hv
    | 3, _, hv => exact hv
    | 5, _, hv => exact hv
    | (m + 6), _, hv => simp [fR] at hv)
  have h4 := h3.set1 (x := ⟨x.f, x.t, ⟨a.r, a.k, a.g, x.a.s⟩⟩) (y := ⟨x.f, x.t, a⟩) (k := k) 5 (by rw [List.getElem?_set_self (by simpa using hl)]) rfl (fun m v hm hv => by
    match m, hm, hv with
    | 0, _, hv => exact hv
    | 1, _, hv => exact hv
    | 2, _, hv => exact hv
    | 3, _, hv => exact hv
    | 4, _, hv => exact hv
    | (m + 6), _, hv => simp [fR] at hv)
  simpa only [List.set_set] using h4
theorem os_rw {T : TypeId} {w : World} {base n c : Nat} {A : Option Addr} {xs : List Rgn} (h : Os fR 6 T w base (.slice A n c) xs) : Rw fR 6 w w.heap.size A n xs := by
  obtain ⟨A', c', e, _, _, hr⟩ := h.row fR_len
  injection e with e1 e2 e3
  subst e1 e2 e3; exact hr
def mix (f : Att → Att) (il : List Rgn) (k : Nat) : List Rgn := (il.take k).map (turnR f) ++ il.drop k
theorem mix_get {f : Att → Att} {il : List Rgn} {k : Nat} {y : Rgn} (h : il[k]? = some y) : (mix f il k)[k]? = some y := by
  have hl := (List.getElem?_eq_some_iff.1 h).1
  unfold mix
  rw [List.getElem?_append_right (by simp; omega), List.getElem?_drop]
  simp only [List.length_map, List.length_take]
  rw [show k + (k - min k il.length) = k by omega]; exact h
theorem mix_set {f : Att → Att} {il : List Rgn} {k : Nat} {y : Rgn} (h : il[k]? = some y) : (mix f il k).set k ⟨y.f, y.t, f y.a⟩ = mix f il (k + 1) := by
  have hl := (List.getElem?_eq_some_iff.1 h).1
  unfold mix
  rw [take_snocR h, List.map_append, List.append_assoc]
  rw [List.drop_eq_getElem_cons hl, (List.getElem?_eq_some_iff.1 h).2]
  rw [List.set_append_right _ _ (by simp; omega)]
  simp only [List.length_map, List.length_take]
  rw [show k - min k il.length = 0 by omega]; rfl
theorem appends_R {ops : Array Oper} {rest : List Oper} {o : Oper} {a : Act} {Q : Exit → Act → World → Prop} (hgd : o.guard = none) (s x : Operand) (ho : o.op = .call { callee := .builtin .append, args := #[s, x], argTypes := #[25, 25] })
    (base : Nat) (v : Value) (t : List Rgn) (W : World) (B : Nat) (ad : Addr) (m c : Nat) (ys : List Rgn) (hs : a.eval s = v) (hx : a.eval x = .slice (some ad) m c) (hos : Os fR 6 40 W base v t) (hr : Rw fR 6 W B (some ad) m ys) (hb : base ≤ W.heap.size) (hlen : t.length + m ≤ 1000000)
    (hK : ∀ A' c' w', Os fR 6 40 w' base (.slice A' (t.length + m) c') (t ++ ys) → Below base W w' → wpList Try.prog ops Q rest (a.put o.dst (.slice A' (t.length + m) c')) w') :
    wpList Try.prog ops Q (o :: rest) a W :=
  append_many Try.underlying25 info_R rfl (by decide) fR_len fR_one1 hgd s x ho base v t W B ad m c ys hs hx hos hr hb (by unfold maxLen; omega) (by omega) (fun A' c' w' h1 h2 _ _ => hK A' c' w' h1 h2)

set_option maxHeartbeats 4000000 in
set_option maxRecDepth 100000 in
theorem turn_any (g : Nat) (cb : Array Value) (eg : ∀ args w, (callFunc g args).run Try.prog w = .ok (.enter g args) w) (f : Att → Att) (A : Option Addr) (n c : Nat) (xs : List Rgn) (a b : Int) (w : World) (B base : Nat) (hz : Rw fR 6 w B A n xs) (hB : B ≤ w.heap.size) (hbase : base ≤ w.heap.size) (hbig : n ≤ 140737488355328)
    (hf : FunA g cb f base w) : Calls Try.prog 61 #[.slice A n c, .int .i64 a, .int .i64 b, .func (.func g) #[] cb] w (TR (turnL xs a b f) (turnE xs a b) w) := by
  have hright := right_any A n c xs w B hz hB hbig
  have NO : Hid (∀ E : Int, turnE xs a b = E → E ≠ 0 → ∀ w', Below w.heap.size w w' → TR (turnL xs a b f) (turnE xs a b) w (.returned (.tuple #[.slice none 0 0, .int .i64 E])) w') := Lib.hid (fun E h h0 w' hb => by
    unfold turnL; rw [h, if_neg h0]; exact TR.nil hb)
  cases hr : rightL xs with
  | false =>
    rw [hr] at hright
    have NO2 := Lib.hid (NO.out 1 (by unfold turnE; rw [if_pos hr]) (by decide))
    clear hz NO hr
    go_enter Try.func61, Try.ntmps61
    go_wp2_with (go_at_call 10; refine hright.mono ?_; rintro e w1 ⟨rfl, hb1⟩)
    go_ret2
    exact NO2.out _ hb1
  | true =>
    rw [hr] at hright
    have hspan := span_any a b
    cases hs : spanB a b with
    | false =>
      rw [hs] at hspan
      have NO2 := Lib.hid (NO.out 2 (by unfold turnE; rw [if_neg (by rw [hr]; simp), if_pos hs]) (by decide))
      clear hz NO hr hs
      go_enter Try.func61, Try.ntmps61
      go_wp2_with (first
        | (go_at_call 10; refine hright.mono ?_; rintro e w1 ⟨rfl, hb1⟩)
        | (go_at_call 58; refine (hspan w1).mono ?_; rintro e w2 ⟨rfl, hw2⟩; rw [hw2]; clear hw2))
      go_ret2
      exact NO2.out _ hb1
    | true =>
      rw [hs] at hspan
      obtain ⟨s1, s2, s3⟩ := span_iff.1 hs
      have hgi := good_in (right_good hr) (a := a) (b := b)
      have hgt := good_turn (f := f) (right_good hr) (a := a) (b := b) (by omega)
      have hol : (outL a b xs).length ≤ 128 := by have := outL_len a b xs; have := rightL_len hr; omega
      have hil : (inL a b xs).length ≤ 64 := by have := inL_len a b xs; have := rightL_len hr; omega
      have hn64 : n ≤ 64 := by rw [← hz.1]; exact rightL_len hr
      have HC := Lib.hid (fun w1 (h1 : Below w.heap.size w w1) => cut_any A n c xs a b w1 B (hz.below (h1.mono hB)) (Nat.le_trans hB h1.size) (by omega))
      have HJ := Lib.hid (fun v w2 base (h : Os fR 6 40 w2 base v (outL a b xs ++ (inL a b xs).map (turnR f))) (hb : base ≤ w2.heap.size) => joined_norm v _ w2 base h hgt (by simp; omega) hb)
      have NO3 : Hid (tot (inL a b xs) < b - a → ∀ w', Below w.heap.size w w' → TR (turnL xs a b f) (turnE xs a b) w (.returned (.tuple #[.slice none 0 0, .int .i64 3])) w') := Lib.hid (fun h => NO.out 3 (by unfold turnE; rw [if_neg (by rw [hr]; simp), if_neg (by rw [hs]; simp), if_pos h]) (by decide))
      have YES : Hid (¬ tot (inL a b xs) < b - a → turnE xs a b = 0 ∧ turnL xs a b f = norm (outL a b xs ++ (inL a b xs).map (turnR f))) := Lib.hid (fun h => by
        have hE : turnE xs a b = 0 := by unfold turnE; rw [if_neg (by rw [hr]; simp), if_neg (by rw [hs]; simp), if_neg h]
        exact ⟨hE, by unfold turnL; rw [if_pos hE]⟩)
      generalize turnL xs a b f = tl at *
      generalize turnE xs a b = tE at *
      generalize norm (outL a b xs ++ (inL a b xs).map (turnR f)) = nl at *
      generalize outL a b xs = ol at *
      generalize inL a b xs = il at *
      have HX := Lib.hid (fun (i : Nat) (hi : i < il.length) => (⟨il[i]'(by omega), List.getElem?_eq_getElem _⟩ : ∃ x, il[i]? = some x))
      have HOK := Lib.hid (fun k x (h : il[k]? = some x) => hgi.ok x (List.mem_of_getElem? h))
      have HMG := Lib.hid (fun k y (h : il[k]? = some y) => mix_get (f := f) h)
      have HMS := Lib.hid (fun k y (h : il[k]? = some y) => mix_set (f := f) h)
      have HM0 : Hid (mix f il 0 = il) := Lib.hid rfl
      have HML : Hid (∀ k, (mix f il k).length = il.length) := Lib.hid (fun k => by unfold mix; simp; omega)
      have HMN : Hid (mix f il il.length = il.map (turnR f)) := Lib.hid (by unfold mix; simp)
      have HI0 : Hid (tot il ≠ 0 → 0 < il.length) := Lib.hid (fun h => by cases il with | nil => exact absurd rfl h | cons _ _ => simp)
      obtain ⟨tk, htk⟩ : ∃ f : Nat → Int, f = fun k => tot (il.take k) := ⟨_, rfl⟩
      have T0 : Hid (tk 0 = 0) := Lib.hid (by rw [htk]; rfl)
      have TS : Hid (∀ k x, il[k]? = some x → tk (k + 1) = tk k + (x.t - x.f)) := Lib.hid (by rw [htk]; exact fun k x h => (congrArg tot (take_snocR h)).trans (tot_snoc _ x))
      have TL : Hid (∀ k, k ≤ il.length → 0 ≤ tk k ∧ tk k ≤ 4096) := Lib.hid (by
        rw [htk]; intro k hk
        have := tot_le (il.take k) fun x hx => hgi.ok x (List.mem_of_mem_take hx)
        rw [List.length_take] at this; simp only; omega)
      have TN : Hid (tk il.length = tot il) := Lib.hid (by rw [htk]; simp only; rw [List.take_length])
      generalize mix f il = mx at *
      generalize il.map (turnR f) = im at *
      generalize tot il = ti at *
      generalize hln : il.length = ln at *
      have HIL := Lib.hid hln
      clear hz NO hr hs htk hgi hgt hln
      go_enter Try.func61, Try.ntmps61
      go_wp2_with (first
        | (go_at_call 10; refine hright.mono ?_; rintro e w1 ⟨rfl, hb1⟩)
        | (go_at_call 58; refine (hspan w1).mono ?_; rintro e w2 ⟨rfl, hw2⟩; rw [hw2]; clear hw2)
        | (go_at_call 59; refine (HC.out w1 hb1).mono ?_; rintro e w2 ⟨vo, vi, rfl, ho, hi, hap, hb2⟩; obtain ⟨Ai, ci, hvi, hz1, hz2⟩ := hi.form; clear hz1 hz2; rw [HIL.out] at hvi; subst hvi))
      have HB1 := Lib.hid hb1
      have HD0 : Hid (Duo w1 w2 vo (.slice Ai ln ci) ol il) := Lib.hid ⟨hb2, ho, hi, hap⟩
      have hs1 := hb1.size
      clear hb1 hb2 ho hi hap hright
      go_loopw [12, 13, 30] (fun v12 v13 i wr => ∃ k : Nat, k ≤ ln ∧ i = .int .i64 k ∧ v12 = .int .i64 (tk k) ∧ Hid (Duo w1 wr vo (.slice Ai ln ci) ol (mx k))) (fun _ _ i _ => ln - (intOf i).toNat)
      case atStart => exact ⟨0, by omega, rfl, by rw [T0.out], Lib.hid (by rw [HM0.out]; exact HD0.out)⟩
      case round =>
        clear HD0
        obtain ⟨k, hk, rfl, rfl, HD⟩ := hrel
        have hsz := HD.out.below.size
        by_cases hlt : k < ln
        · obtain ⟨gi, rfl⟩ := os_ne HD.out.ins (by rw [HML.out]; omega)
          obtain ⟨y, hy⟩ := HX.out k hlt
          have hmg := HMG.out k y hy
          have hcs := HD.out.ins.cells fR_len hmg
          have yc0 : wr.cell? ⟨gi, k * 6, none⟩ = some (.int .i64 y.f) := (hcs 0 _ rfl).1
          have yc1 : wr.cell? ⟨gi, k * 6 + 1, none⟩ = some (.int .i64 y.t) := (hcs 1 _ rfl).1
          have yc2 : wr.cell? ⟨gi, k * 6 + 2, none⟩ = some (.int .i64 y.a.r) := (hcs 2 _ rfl).1
          have yc3 : wr.cell? ⟨gi, k * 6 + 3, none⟩ = some (.int .i64 y.a.k) := (hcs 3 _ rfl).1
          have yc4 : wr.cell? ⟨gi, k * 6 + 4, none⟩ = some (.bool y.a.g) := (hcs 4 _ rfl).1
          have yc5 : wr.cell? ⟨gi, k * 6 + 5, none⟩ = some (.bool y.a.s) := (hcs 5 _ rfl).1
          have yf2 : wr.frozen? ⟨gi, k * 6 + 2, none⟩ = false := (hcs 2 _ rfl).2
          have yf3 : wr.frozen? ⟨gi, k * 6 + 3, none⟩ = false := (hcs 3 _ rfl).2
          have yf4 : wr.frozen? ⟨gi, k * 6 + 4, none⟩ = false := (hcs 4 _ rfl).2
          have yf5 : wr.frozen? ⟨gi, k * 6 + 5, none⟩ = false := (hcs 5 _ rfl).2
          have hgl := HD.out.ins.blk_lt_.1
          have HT := Lib.hid (TS.out k y hy)
          have HM1 : Hid ((mx k).set k ⟨y.f, y.t, f y.a⟩ = mx (k + 1)) := Lib.hid (HMS.out k y hy)
          have HMG1 := Lib.hid hmg
          obtain ⟨q1, q2, q3⟩ := HOK.out k y hy
          obtain ⟨t1, t2⟩ := TL.out k hk
          have m4 : wrap64 (y.t - y.f) = y.t - y.f := by unfold wrap64; omega
          have m5 : wrap64 (tk k + (y.t - y.f)) = tk k + (y.t - y.f) := by unfold wrap64; omega
          have m6 : IntKind.i64.wrap (y.t - y.f) = y.t - y.f := by rw [IntKind.wrap_i64]; omega
          have m7 : IntKind.i64.wrap (tk k + (y.t - y.f)) = tk k + (y.t - y.f) := by rw [IntKind.wrap_i64]; omega
          have hk0 : (0 : Int) ≤ (k : Int) := by omega
          have hk1 : (k : Int) < (ln : Int) := by omega
          have hcall := fun (W : World) (h : Below wr.heap.size wr W) => hf W y.a ((((HB1.out.mono hbase).trans (HD.out.below.mono (Nat.le_trans hbase hs1))).trans (h.mono (Nat.le_trans (Nat.le_trans hbase hs1) hsz))))
          have HCALL := Lib.hid hcall
          clear hcs hy hmg hcall
          go_wp2
          go_quiet (fail)
          have HQ := Lib.hid (HCALL.out _ (below_drewN wr.heap.size wr nq))
          go_wp2_with (go_at_fn g; refine HQ.out.mono ?_; rintro e w2 ⟨rfl, hb2⟩; have zc2 : w2.cell? ⟨gi, k * 6 + 2, none⟩ = some (.int .i64 y.a.r) := (hb2.cell (p := ⟨gi, k * 6 + 2, none⟩) hgl).trans yc2; have zf2 : w2.frozen? ⟨gi, k * 6 + 2, none⟩ = false := (hb2.frozen (p := ⟨gi, k * 6 + 2, none⟩) hgl).trans yf2; have zc3 : w2.cell? ⟨gi, k * 6 + 3, none⟩ = some (.int .i64 y.a.k) := (hb2.cell (p := ⟨gi, k * 6 + 3, none⟩) hgl).trans yc3; have zf3 : w2.frozen? ⟨gi, k * 6 + 3, none⟩ = false := (hb2.frozen (p := ⟨gi, k * 6 + 3, none⟩) hgl).trans yf3; have zc4 : w2.cell? ⟨gi, k * 6 + 4, none⟩ = some (.bool y.a.g) := (hb2.cell (p := ⟨gi, k * 6 + 4, none⟩) hgl).trans yc4; have zf4 : w2.frozen? ⟨gi, k * 6 + 4, none⟩ = false := (hb2.frozen (p := ⟨gi, k * 6 + 4, none⟩) hgl).trans yf4; have zc5 : w2.cell? ⟨gi, k * 6 + 5, none⟩ = some (.bool y.a.s) := (hb2.cell (p := ⟨gi, k * 6 + 5, none⟩) hgl).trans yc5; have zf5 : w2.frozen? ⟨gi, k * 6 + 5, none⟩ = false := (hb2.frozen (p := ⟨gi, k * 6 + 5, none⟩) hgl).trans yf5)
          go_roundw
          case rel => exact ⟨k + 1, by omega, by go_num, by rw [HT.out], Lib.hid (by rw [← HM1.out]; exact ((HD.out.on ((below_drewN wr.heap.size wr nq).trans (hb2.mono (below_drewN wr.heap.size wr nq).size))).store (f y.a) HMG1.out))⟩
          case measure => simp [intOf]; omega
        · have hkn : k = ln := by omega
          subst hkn
          obtain ⟨A3, c3, rfl, hz1, hz2⟩ := HD.out.out.form
          clear hz1 hz2
          obtain ⟨t1, t2⟩ := TL.out k hk
          have m5 : wrap64 (b - a) = b - a := by unfold wrap64; omega
          by_cases hlt2 : tk k < b - a
          · have NO4 := Lib.hid (NO3.out (by rw [← TN.out]; exact hlt2) wr (HB1.out.trans (HD.out.below.mono hs1)))
            go_wp2
            go_ret2
            exact NO4.out
          · obtain ⟨e1, e2⟩ := YES.out (by have := TN.out; omega)
            subst e1 e2
            have hk0 := HI0.out (by have := TN.out; omega)
            have hge : b - a ≤ tk k := by omega
            obtain ⟨gi, rfl⟩ := os_ne HD.out.ins (by rw [HML.out]; exact hk0)
            have HR := Lib.hid (os_rw HD.out.ins)
            rw [HMN.out] at HR
            have HO := Lib.hid HD.out.out
            have hoi : ol.length + k ≤ 1000000 := by omega
            clear hk0
            go_wp2_with (first
              | (at_builtin; refine appends_R rfl _ _ rfl w1.heap.size (.slice A3 ol.length c3) ol wr wr.heap.size ⟨gi, 0, none⟩ k ci im rfl rfl HO.out HR.out hsz hoi ?_; intro A' c' w3 ho3 hb3)
              | (go_at_call 60; refine (HJ.out _ w3 w1.heap.size ho3 (Nat.le_trans hsz hb3.size)).mono ?_; rintro e w4 ⟨v4, rfl, ho4, hb4⟩))
            go_ret2
            exact ⟨_, rfl, ho4.rebase (Nat.le_trans (Nat.le_trans hs1 hsz) hb3.size), HB1.out.trans ((HD.out.below.trans (hb3.trans hb4)).mono hs1)⟩
end Go.Proofs.Ytglnnplijienbaa

/- region.Turn, Seal. -/
namespace Go.Proofs.Ytglnnplijienbaa
open Go.ChangeShapes Go.WideShapes Go.ChangeAt Go.RowKit Go.Joins
set_option linter.unusedVariables false
theorem seal1_fun (w : World) (base : Nat) : FunA 62 #[] (fun a => ⟨a.r, a.k, a.g, true⟩) base w := by
  intro W a hW
  go_enter Try.func62, Try.ntmps62
  go_wp2
  try simp only [Exit.inBlock, Exit.then]
  refine bodyPost_ret (v := .agg #[.int .i64 a.r, .int .i64 a.k, .bool a.g, .bool true]) (by simp [results, Try.results62, go_sem]) rfl ⟨rfl, ?_⟩
  exact ((Below.refl _ _).alloc (Nat.le_refl _) _).alloc (by simp) _
theorem TR.on {l : List Rgn} {E : Int} {w w1 : World} {e : Ending} {w' : World} (h : TR l E w1 e w') (hb : Below w.heap.size w w1) : TR l E w e w' := by
  obtain ⟨v, he, ho, hb2⟩ := h
  exact ⟨v, he, ho.rebase hb.size, hb.trans (hb2.mono hb.size)⟩
set_option maxHeartbeats 2000000 in
theorem Seal_any (A : Option Addr) (n c : Nat) (xs : List Rgn) (a b : Int) (w : World) (B : Nat) (hz : Rw fR 6 w B A n xs) (hB : B ≤ w.heap.size) (hbig : n ≤ 140737488355328) :
    Calls Try.prog 43 #[.slice A n c, .int .i64 a, .int .i64 b] w (TR (turnL xs a b fun a => ⟨a.r, a.k, a.g, true⟩) (turnE xs a b) w) := by
  have hcall := turn_any _ _ (enters_of Try.func62 (by kernel_rfl) rfl) _ A n c xs a b w B w.heap.size hz hB (Nat.le_refl _) hbig (seal1_fun w w.heap.size)
  generalize turnL xs a b (fun a => ⟨a.r, a.k, a.g, true⟩) = tl at *
  generalize turnE xs a b = tE at *
  clear hz
  go_enter Try.func43, Try.ntmps43
  go_wp2_with (go_at_call 61; refine hcall.mono ?_; rintro e w1 ⟨v1, rfl, ho1, hb1⟩)
  go_ret2
  exact ⟨_, rfl, ho1, hb1⟩
end Go.Proofs.Ytglnnplijienbaa
