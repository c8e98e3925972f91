/- Several texts in one: Rgb, Rgc, Rgd. -/
import Derived.Test.YtglnnplijienbaaM18
import Derived.Test.YtglnnplijienbaaM1
import Derived.Test.YtglnnplijienbaaM12
import Derived.OwnWalk
/- region.cut. -/
namespace Go.Proofs.Ytglnnplijienbaa
open Go.ChangeShapes Go.WideShapes Go.ChangeAt Go.RowKit Go.Joins Go.Sort
set_option linter.unusedVariables false
attribute [local go_sem] Oper.quiet Oper.quietAt Oper.quietUpon
/-- A special operation that gives a row of the call's own. -/
def Sp.os {α : Type} (f : α → List Value) (sz : Nat) (T : TypeId) (base at_ : Nat) (xs : List α) : Sp :=
  ⟨at_, fun v => ∃ g c, v = .slice (some ⟨g, 0, none⟩) xs.length c, fun v w => Os f sz T w base v xs, ⟨_, 0, 0, rfl⟩, fun _ _ _ h hb => h.below hb (Nat.le_refl _)⟩
theorem append_R {ops : Array Oper} {rest : List Oper} {o : Oper} {a : Act} {Q : Exit → Act → World → Prop} (hgd : o.guard = none) (s x : Operand) (ho : o.op = .call { callee := .builtin .append, args := #[s, x], argTypes := #[25, 25] })
    (base : Nat) (v : Value) (t : List Rgn) (W : World) (c : Rgn) (gx : Nat) (hs : a.eval s = v) (hx : a.eval x = .slice (some ⟨gx, 0, none⟩) 1 1) (hgx : gx = W.heap.size) (hos : Os fR 6 40 W base v t) (hb : base ≤ W.heap.size) (hlen : t.length + 1 ≤ 3518437208883)
    (hK : ∀ g' c' w', Os fR 6 40 w' base (.slice (some ⟨g', 0, none⟩) (t.length + 1) c') (t ++ [c]) → W.grownBy w' v.ownBlock → (some g' = v.ownBlock ∨ W.heap.size ≤ g') → base ≤ g' → t.length + 1 ≤ c' → c' ≤ maxLen → wpList Try.prog ops Q rest (a.put o.dst (.slice (some ⟨g', 0, none⟩) (t.length + 1) c')) w') :
    wpList Try.prog ops Q (o :: rest) a (W.alloc (.cells #[.int .i64 c.f, .int .i64 c.t, .int .i64 c.a.r, .int .i64 c.a.k, .bool c.a.g, .bool c.a.s] 40)) :=
  append_sep Try.underlying25 info_R rfl (by decide) fR_len fR_one1 hgd s x ho base v t W c gx hs hx hgx hos hb (by unfold maxLen; omega) (by omega) hK
def TwoR (o i : List Rgn) (w : World) (e : Ending) (w' : World) : Prop := ∃ vo vi, e = .returned (.tuple #[vo, vi]) ∧ Os fR 6 40 w' w.heap.size vo o ∧ Os fR 6 40 w' w.heap.size vi i ∧ Apart vo vi ∧ Below w.heap.size w w'
def partL (a b : Int) (x : Rgn) : List Rgn := [⟨x.f, min x.t a, x.a⟩, ⟨max x.f b, x.t, x.a⟩]
def someR (x : Rgn) : List Rgn := if x.f < x.t then [x] else []
theorem outP_parts (a b : Int) (x : Rgn) : outP a b x = (partL a b x).flatMap someR := by simp [outP, partL, someR]
theorem inP_some (a b : Int) (x : Rgn) : inP a b x = someR ⟨max x.f a, min x.t b, x.a⟩ := rfl
theorem someR_yes {x : Rgn} (h : x.f < x.t) : someR x = [x] := if_pos h
theorem someR_no {x : Rgn} (h : ¬ x.f < x.t) : someR x = [] := if_neg h
theorem flat_some_len : ∀ l : List Rgn, (l.flatMap someR).length ≤ l.length
  | [] => by simp
  | x :: l => by
    have := flat_some_len l
    rw [List.flatMap_cons, List.length_append, List.length_cons]
    by_cases h : x.f < x.t
    · rw [someR_yes h, List.length_singleton]; omega
    · rw [someR_no h, List.length_nil]; omega
theorem outL_len (a b : Int) (l : List Rgn) : (outL a b l).length ≤ 2 * l.length := by
  induction l with
  | nil => simp [outL]
  | cons x l ih => simp only [outL, List.flatMap_cons, List.length_append, List.length_cons] at *; have := outP_len a b x; omega
theorem inL_len (a b : Int) (l : List Rgn) : (inL a b l).length ≤ l.length := by
  induction l with
  | nil => simp [inL]
  | cons x l ih => simp only [inL, List.flatMap_cons, List.length_append, List.length_cons] at *; have := inP_len a b x; omega
/-- All that is known in the loop: two rows apart. -/
structure Duo (w0 w : World) (vo vi : Value) (o i : List Rgn) : Prop where
  below : Below w0.heap.size w0 w
  out : Os fR 6 40 w w0.heap.size vo o
  ins : Os fR 6 40 w w0.heap.size vi i
  apart : Apart vo vi
theorem Duo.on {w0 w w' : World} {vo vi : Value} {o i : List Rgn} (h : Duo w0 w vo vi o i) (hb : Below w.heap.size w w') : Duo w0 w' vo vi o i :=
  ⟨h.below.trans (hb.mono h.below.size), h.out.below hb (Nat.le_refl _), h.ins.below hb (Nat.le_refl _), h.apart⟩
theorem grown_below2 {w w' : World} {v : Value} {B : Nat} (h : w.grownBy w' v.ownBlock) (hv : ∀ k, v.ownBlock = some k → B ≤ k) (hB : B ≤ w.heap.size) : Below B w w' :=
  ⟨h.os, h.tape, h.output, h.size, fun k hk => h.block k (by omega) (fun e => by have := hv k e.symm; omega)⟩
theorem Duo.grow_o {w0 w w' : World} {vo vi : Value} {o i o' : List Rgn} {g n c : Nat} (h : Duo w0 w vo vi o i) (hg : w.grownBy w' vo.ownBlock) (ho : Os fR 6 40 w' w0.heap.size (.slice (some ⟨g, 0, none⟩) n c) o') (hgg : some g = vo.ownBlock ∨ w.heap.size ≤ g) : Duo w0 w' (.slice (some ⟨g, 0, none⟩) n c) vi o' i :=
  ⟨h.below.trans (grown_below2 hg (fun k hk => (h.out.blk_lt2 k hk).2) h.below.size), ho, h.ins.frame hg h.apart.symm, (h.apart.symm.grown hgg (fun k hk => (h.ins.blk_lt2 k hk).1)).symm⟩
theorem Duo.grow_i {w0 w w' : World} {vo vi : Value} {o i i' : List Rgn} {g n c : Nat} (h : Duo w0 w vo vi o i) (hg : w.grownBy w' vi.ownBlock) (hi : Os fR 6 40 w' w0.heap.size (.slice (some ⟨g, 0, none⟩) n c) i') (hgg : some g = vi.ownBlock ∨ w.heap.size ≤ g) : Duo w0 w' vo (.slice (some ⟨g, 0, none⟩) n c) o i' :=
  ⟨h.below.trans (grown_below2 hg (fun k hk => (h.ins.blk_lt2 k hk).2) h.below.size), h.out.frame hg h.apart, hi, h.apart.grown hgg (fun k hk => (h.out.blk_lt2 k hk).1)⟩
theorem os_made {α : Type} {f : α → List Value} {sz : Nat} {T : TypeId} {w : World} {base : Nat} (hf : ∀ x, (f x).length = sz) (xs : List α) (n : Nat) (hn : n = xs.length) (hm : xs.length ≤ 1000) (hb : base ≤ w.heap.size) : Os f sz T (w.alloc (.cells (xs.flatMap f).toArray T)) base (.slice (some ⟨w.heap.size, 0, none⟩) n n) xs := by
  subst hn
  refine Os.mk (cur := (xs.flatMap f).toArray) hb (by simp only [World.alloc, Array.getElem?_push_size]) (Nat.le_refl _) (by unfold maxLen; omega) (by simp [flat_len hf]) hf ?_
  rw [List.toList_toArray, List.take_of_length_le (by rw [flat_len hf]; exact Nat.le_refl _)]
/-- .. and the region and its two parts beside them. -/
structure Trio (w0 : World) (gx : Nat) (x : Rgn) (p : List Rgn) (w : World) (vo vi : Value) (o i : List Rgn) : Prop where
  duo : Duo w0 w vo vi o i
  cpy : Os fR 6 40 w gx (.slice (some ⟨gx, 0, none⟩) 1 1) [x]
  parts : Os fR 6 40 w gx (.slice (some ⟨gx + 1, 0, none⟩) 2 2) p
  off : ∀ k, vo.ownBlock = some k → k ≠ gx ∧ k ≠ gx + 1
theorem Trio.on {w0 w w' : World} {vo vi : Value} {o i : List Rgn} {gx : Nat} {x : Rgn} {p : List Rgn} (h : Trio w0 gx x p w vo vi o i) (hb : Below w.heap.size w w') : Trio w0 gx x p w' vo vi o i :=
  ⟨h.duo.on hb, h.cpy.below hb (Nat.le_refl _), h.parts.below hb (Nat.le_refl _), h.off⟩
theorem Trio.grow {w0 w w' : World} {vo vi : Value} {o i o' : List Rgn} {g n c : Nat} {gx : Nat} {x : Rgn} {p : List Rgn} (h : Trio w0 gx x p w vo vi o i) (hg : w.grownBy w' vo.ownBlock) (ho : Os fR 6 40 w' w0.heap.size (.slice (some ⟨g, 0, none⟩) n c) o') (hgg : some g = vo.ownBlock ∨ w.heap.size ≤ g) : Trio w0 gx x p w' (.slice (some ⟨g, 0, none⟩) n c) vi o' i :=
  ⟨h.duo.grow_o hg ho hgg, h.cpy.frame hg (.inr (fun e => (h.off gx e.symm).1 rfl)), h.parts.frame hg (.inr (fun e => (h.off (gx + 1) e.symm).2 rfl)), fun k hk => by
    simp [Value.ownBlock] at hk
    subst hk
    rcases hgg with e | e
    · exact h.off _ e.symm
    · have := h.parts.blk_lt_.1; have := h.cpy.blk_lt_.1; omega⟩
theorem Duo.start {w0 w : World} {vo vi : Value} {o i : List Rgn} (h : Duo w0 w vo vi o i) (x y z : Rgn) : Trio w0 w.heap.size x [y, z] ((w.alloc (.cells (fR x).toArray 40)).alloc (.cells (fR y ++ fR z).toArray 40)) vo vi o i := by
  have h1 : Below w.heap.size w (w.alloc (.cells (fR x).toArray 40)) := (Below.refl _ _).alloc (Nat.le_refl _) _
  have hs : (w.alloc (.cells (fR x).toArray 40)).heap.size = w.heap.size + 1 := by simp
  have h2 : Below (w.alloc (.cells (fR x).toArray 40)).heap.size (w.alloc (.cells (fR x).toArray 40)) ((w.alloc (.cells (fR x).toArray 40)).alloc (.cells (fR y ++ fR z).toArray 40)) := (Below.refl _ _).alloc (Nat.le_refl _) _
  have a1 := os_made (T := 40) (w := w) (base := w.heap.size) fR_len [x] 1 rfl (by simp) (Nat.le_refl _)
  have a2 := os_made (T := 40) (w := w.alloc (.cells (fR x).toArray 40)) (base := w.heap.size) fR_len [y, z] 2 rfl (by simp) (by omega)
  rw [hs] at a2
  refine ⟨(h.on h1).on h2, Os.below (B := (w.alloc (.cells (fR x).toArray 40)).heap.size) ?_ h2 (Nat.le_refl _), ?_, fun k hk => ?_⟩
  · simpa using a1
  · simpa using a2
  · have := (h.out.blk_lt2 k hk).1; omega

set_option maxHeartbeats 4000000 in
set_option maxRecDepth 100000 in
theorem cut_any (A : Option Addr) (n c : Nat) (xs : List Rgn) (a b : Int) (w : World) (B : Nat) (hz : Rw fR 6 w B A n xs) (hB : B ≤ w.heap.size) (hbig : n ≤ 1000000) :
    Calls Try.prog 59 #[.slice A n c, .int .i64 a, .int .i64 b] w (TwoR (outL a b xs) (inL a b xs) w) := by
  have hln := hz.1
  have HX := Lib.hid (fun (i : Nat) (hi : i < n) => (⟨xs[i]'(by omega), List.getElem?_eq_getElem _⟩ : ∃ x, xs[i]? = some x))
  have HLN := Lib.hid hln
  have HZ := Lib.hid hz
  have HO := Lib.hid (fun k (x : Rgn) (h : xs[k]? = some x) => (congrArg (outL a b) (take_snocR h)).trans (outL_snoc a b (xs.take k) x))
  have HI := Lib.hid (fun k (x : Rgn) (h : xs[k]? = some x) => (congrArg (inL a b) (take_snocR h)).trans (inL_snoc a b (xs.take k) x))
  have HOL := Lib.hid (fun (k : Nat) (h : k ≤ n) => (show (outL a b (xs.take k)).length ≤ 2 * n from Nat.le_trans (outL_len a b _) (by rw [List.length_take]; omega)))
  have HIL := Lib.hid (fun (k : Nat) (h : k ≤ n) => (show (inL a b (xs.take k)).length ≤ n from Nat.le_trans (inL_len a b _) (by rw [List.length_take]; omega)))
  have HOT : Hid (outL a b (xs.take n) = outL a b xs) := Lib.hid (by rw [List.take_of_length_le (by omega)])
  have HIT : Hid (inL a b (xs.take n) = inL a b xs) := Lib.hid (by rw [List.take_of_length_le (by omega)])
  have HA : Hid (0 < n → ∃ b off, A = some ⟨b, off, none⟩ ∧ b < B) := Lib.hid (fun h => HZ.out.open h)
  obtain ⟨fo, hfo⟩ : ∃ f : Nat → List Rgn, f = fun k => outL a b (xs.take k) := ⟨_, rfl⟩
  obtain ⟨fi, hfi⟩ : ∃ f : Nat → List Rgn, f = fun k => inL a b (xs.take k) := ⟨_, rfl⟩
  have F0 : Hid (fo 0 = [] ∧ fi 0 = []) := Lib.hid (by rw [hfo, hfi]; exact ⟨rfl, rfl⟩)
  have FO : Hid (∀ k x, xs[k]? = some x → fo (k + 1) = fo k ++ outP a b x) := Lib.hid (by rw [hfo]; exact HO.out)
  have FI : Hid (∀ k x, xs[k]? = some x → fi (k + 1) = fi k ++ inP a b x) := Lib.hid (by rw [hfi]; exact HI.out)
  have FOL : Hid (∀ k, k ≤ n → (fo k).length ≤ 2 * n) := Lib.hid (by rw [hfo]; exact HOL.out)
  have FIL : Hid (∀ k, k ≤ n → (fi k).length ≤ n) := Lib.hid (by rw [hfi]; exact HIL.out)
  have FT : Hid (fo n = outL a b xs ∧ fi n = inL a b xs) := Lib.hid (by rw [hfo, hfi]; exact ⟨HOT.out, HIT.out⟩)
  generalize outL a b xs = oL at *
  generalize inL a b xs = iL at *
  clear hfo hfi HO HI HOL HIL HOT HIT hz hln
  go_enter Try.func59, Try.ntmps59
  go_wp2
  go_loopw [6, 7, 15] (fun vo vi i wr => ∃ k : Nat, k ≤ n ∧ i = .int .i64 k ∧ Hid (Duo w wr vo vi (fo k) (fi k))) (fun _ _ i _ => n - (intOf i).toNat)
  case atStart => exact ⟨0, by omega, rfl, Lib.hid ⟨Below.refl _ _, by rw [F0.out.1]; exact Os.nil, by rw [F0.out.2]; exact Os.nil, .inl rfl⟩⟩
  case round =>
    obtain ⟨k, hk, rfl, HD⟩ := hrel
    by_cases hlt : k < n
    · obtain ⟨x, hx⟩ := HX.out k hlt
      obtain ⟨b', off, hAe, hb'⟩ := HA.out (by omega)
      subst hAe
      have hsz := HD.out.below.size
      have hcs := (HZ.out.below (HD.out.below.mono hB)).at_ fR_len hx
      have xc0 : wr.cell? ⟨b', off + k * 6, none⟩ = some (.int .i64 x.f) := hcs 0 _ rfl
      have xc1 : wr.cell? ⟨b', off + k * 6 + 1, none⟩ = some (.int .i64 x.t) := hcs 1 _ rfl
      have xc2 : wr.cell? ⟨b', off + k * 6 + 2, none⟩ = some (.int .i64 x.a.r) := hcs 2 _ rfl
      have xc3 : wr.cell? ⟨b', off + k * 6 + 3, none⟩ = some (.int .i64 x.a.k) := hcs 3 _ rfl
      have xc4 : wr.cell? ⟨b', off + k * 6 + 4, none⟩ = some (.bool x.a.g) := hcs 4 _ rfl
      have xc5 : wr.cell? ⟨b', off + k * 6 + 5, none⟩ = some (.bool x.a.s) := hcs 5 _ rfl
      have HX0 := Lib.hid hx
      clear hcs hx
      go_wp2
      have HT0 := Lib.hid (HD.out.start x ⟨x.f, min x.t a, x.a⟩ ⟨max x.f b, x.t, x.a⟩)
      have HOX : Hid (fo (k + 1) = fo k ++ (partL a b x).flatMap someR) := Lib.hid (by rw [← outP_parts]; exact FO.out k x HX0.out)
      have HIX : Hid (fi (k + 1) = fi k ++ someR ⟨max x.f a, min x.t b, x.a⟩) := Lib.hid (by rw [← inP_some]; exact FI.out k x HX0.out)
      have hlo := FOL.out k (by omega)
      have hli := FIL.out k (by omega)
      have hgx : w.heap.size ≤ wr.heap.size := hsz
      clear HD HX0 xc0 xc1 xc2 xc3 xc4 xc5
      generalize HGx : wr.heap.size = gx at *
      obtain ⟨wo, hwo⟩ : ∃ wo, wo = wr := ⟨_, rfl⟩
      subst hwo
      go_loopw [6, 39] (fun vo i wq => ∃ j : Nat, j ≤ 2 ∧ i = .int .i64 j ∧ Hid (Trio w gx x (partL a b x) wq vo u7 (fo k ++ ((partL a b x).take j).flatMap someR) (fi k))) (fun _ i _ => 2 - (intOf i).toNat)
      case atStart => exact ⟨0, by omega, rfl, Lib.hid (by have := HT0.out; rw [List.take_zero, List.flatMap_nil, List.append_nil]; exact this)⟩
      case round =>
        clear HT0
        obtain ⟨j, hj, rfl, HT⟩ := hrel
        have hwr := HT.out.duo.below.size
        have hgl := HT.out.parts.blk_lt_.1
        by_cases hj2 : j < 2
        · obtain ⟨y, hy⟩ : ∃ y, (partL a b x)[j]? = some y := ⟨_, List.getElem?_eq_getElem (by simpa [partL] using hj2)⟩
          have hcs := HT.out.parts.cells fR_len hy
          have yc0 : wr.cell? ⟨gx + 1, j * 6, none⟩ = some (.int .i64 y.f) := (hcs 0 _ rfl).1
          have yc1 : wr.cell? ⟨gx + 1, j * 6 + 1, none⟩ = some (.int .i64 y.t) := (hcs 1 _ rfl).1
          have yc2 : wr.cell? ⟨gx + 1, j * 6 + 2, none⟩ = some (.int .i64 y.a.r) := (hcs 2 _ rfl).1
          have yc3 : wr.cell? ⟨gx + 1, j * 6 + 3, none⟩ = some (.int .i64 y.a.k) := (hcs 3 _ rfl).1
          have yc4 : wr.cell? ⟨gx + 1, j * 6 + 4, none⟩ = some (.bool y.a.g) := (hcs 4 _ rfl).1
          have yc5 : wr.cell? ⟨gx + 1, j * 6 + 5, none⟩ = some (.bool y.a.s) := (hcs 5 _ rfl).1
          have HTS : Hid (((partL a b x).take (j + 1)).flatMap someR = ((partL a b x).take j).flatMap someR ++ someR y) := Lib.hid (by rw [take_snocR hy, List.flatMap_append]; simp)
          have hpl : (((partL a b x).take j).flatMap someR).length ≤ 2 := Nat.le_trans (flat_some_len _) (by rw [List.length_take]; omega)
          clear hcs hy
          generalize ((partL a b x).take j).flatMap someR = qs at *
          have HT1 := Lib.hid (HT.out.on ((Below.refl wr.heap.size wr).alloc (Nat.le_refl _) (.cells #[.int .i64 y.f, .int .i64 y.t, .int .i64 y.a.r, .int .i64 y.a.k, .bool y.a.g, .bool y.a.s] 40)))
          have hj0 : (0 : Int) ≤ (j : Int) := by omega
          have hj1 : (j : Int) < 2 := by omega
          clear HT
          by_cases hlt2 : y.f < y.t
          · have HSY := Lib.hid (someR_yes hlt2)
            go_wp2_with (at_builtin; refine append_R rfl _ _ rfl w.heap.size u6 (fo k ++ qs) (wr.alloc (.cells #[.int .i64 y.f, .int .i64 y.t, .int .i64 y.a.r, .int .i64 y.a.k, .bool y.a.g, .bool y.a.s] 40)) y (wr.heap.size + 1) rfl rfl (by simp) HT1.out.duo.out (by simp; omega) (by rw [List.length_append]; omega) ?_)
            intro g' c' w' ho hg hgg hbg hc hm
            have HT2 := Lib.hid (HT1.out.grow hg ho (hgg.imp id fun h => by simpa using h))
            clear hg ho hgg HT1 yc0 yc1 yc2 yc3 yc4 yc5
            go_wp2
            go_roundw
            case rel => exact ⟨j + 1, by omega, by go_num, Lib.hid (by rw [HTS.out, HSY.out]; exact HT2.out)⟩
            case measure => simp [intOf]; omega
          · have HSY := Lib.hid (someR_no hlt2)
            have hle2 : y.t ≤ y.f := by omega
            go_wp2
            go_roundw
            case rel => exact ⟨j + 1, by omega, by go_num, Lib.hid (by rw [HTS.out, HSY.out, List.append_nil]; exact HT1.out)⟩
            case measure => simp [intOf]; omega
        · have hj3 : j = 2 := by omega
          subst hj3
          have HD2 : Hid (Duo w wr u6 u7 (fo (k + 1)) (fi k)) := Lib.hid (by rw [HOX.out]; exact HT.out.duo)
          have hcs := HT.out.cpy.cells (i := 0) fR_len rfl
          have kc0 : wr.cell? ⟨gx, 0, none⟩ = some (.int .i64 x.f) := by have := (hcs 0 _ rfl).1; rwa [Nat.zero_mul, Nat.zero_add] at this
          have kc1 : wr.cell? ⟨gx, 1, none⟩ = some (.int .i64 x.t) := by have := (hcs 1 _ rfl).1; rwa [Nat.zero_mul, Nat.zero_add] at this
          have kc2 : wr.cell? ⟨gx, 2, none⟩ = some (.int .i64 x.a.r) := by have := (hcs 2 _ rfl).1; rwa [Nat.zero_mul, Nat.zero_add] at this
          have kc3 : wr.cell? ⟨gx, 3, none⟩ = some (.int .i64 x.a.k) := by have := (hcs 3 _ rfl).1; rwa [Nat.zero_mul, Nat.zero_add] at this
          have kc4 : wr.cell? ⟨gx, 4, none⟩ = some (.bool x.a.g) := by have := (hcs 4 _ rfl).1; rwa [Nat.zero_mul, Nat.zero_add] at this
          have kc5 : wr.cell? ⟨gx, 5, none⟩ = some (.bool x.a.s) := by have := (hcs 5 _ rfl).1; rwa [Nat.zero_mul, Nat.zero_add] at this
          have hgx2 := HT.out.cpy.blk_lt_.1
          clear hcs HT
          have HD3 := Lib.hid (HD2.out.on ((Below.refl wr.heap.size wr).alloc (Nat.le_refl _) (.cells #[.int .i64 (max x.f a), .int .i64 (min x.t b), .int .i64 x.a.r, .int .i64 x.a.k, .bool x.a.g, .bool x.a.s] 40)))
          clear HD2
          by_cases hlt3 : max x.f a < min x.t b
          · have HSZ := Lib.hid (someR_yes (x := ⟨max x.f a, min x.t b, x.a⟩) hlt3)
            go_wp2_with (at_builtin; refine append_R rfl _ _ rfl w.heap.size u7 (fi k) (wr.alloc (.cells #[.int .i64 (max x.f a), .int .i64 (min x.t b), .int .i64 x.a.r, .int .i64 x.a.k, .bool x.a.g, .bool x.a.s] 40)) ⟨max x.f a, min x.t b, x.a⟩ (wr.heap.size + 1) rfl rfl (by simp) HD3.out.ins (by simp; omega) (by omega) ?_)
            intro g' c' w' ho hg hgg hbg hc hm
            have HD4 := Lib.hid (HD3.out.grow_i hg ho (hgg.imp id fun h => by simpa using h))
            clear hg ho hgg HD3 kc0 kc1 kc2 kc3 kc4 kc5
            go_wp2
            go_roundw
            case rel => exact ⟨k + 1, by omega, by go_num, Lib.hid (by rw [HIX.out, HSZ.out]; exact HD4.out)⟩
            case measure => simp [intOf]; omega
          · have HSZ := Lib.hid (someR_no (x := ⟨max x.f a, min x.t b, x.a⟩) hlt3)
            have hle3 : min x.t b ≤ max x.f a := by omega
            go_wp2
            go_roundw
            case rel => exact ⟨k + 1, by omega, by go_num, Lib.hid (by rw [HIX.out, HSZ.out, List.append_nil]; exact HD3.out)⟩
            case measure => simp [intOf]; omega
    · have hkn : n = k := by omega
      subst hkn
      have HD2 := HD.out
      rw [FT.out.1, FT.out.2] at HD2
      clear HD
      go_wp2
      go_ret2
      exact ⟨_, _, rfl, HD2.out, HD2.ins, HD2.apart, HD2.below⟩
end Go.Proofs.Ytglnnplijienbaa

/- region.Some; place.free, All, Choose. -/
namespace Go.Proofs.Ytglnnplijienbaa
open Go.ChangeShapes Go.WideShapes Go.ChangeAt Go.RowKit Go.Joins
set_option linter.unusedVariables false
def AnsA (g : Nat) (p : Att → Bool) : Prop := ∀ (W : World) (x : Att), Calls Try.prog g #[.agg #[.int .i64 x.r, .int .i64 x.k, .bool x.g, .bool x.s]] W fun e w' => e = .returned (.bool (p x)) ∧ Below W.heap.size W w'
theorem some_pred (g : Nat) (eg : ∀ args w, (callFunc g args).run Try.prog w = .ok (.enter g args) w) (p : Att → Bool) (hg : AnsA g p) (w : World) (b base : Nat) (hb : b < base) (hbase : base ≤ w.heap.size) (hc : w.cell? ⟨b, 0, none⟩ = some (.func (.func g) #[] #[])) :
    PredR 64 #[.pointer (some ⟨b, 0, none⟩)] (fun x => p x.a) base w := by
  intro W x hW
  have h1 : W.cell? ⟨b, 0, none⟩ = some (.func (.func g) #[] #[]) := (hW.cell (p := ⟨b, 0, none⟩) hb).trans hc
  have hlt : b < W.heap.size := by have := hW.size; omega
  have hcall := hg (W.alloc (.cells #[.int .i64 x.f, .int .i64 x.t, .int .i64 x.a.r, .int .i64 x.a.k, .bool x.a.g, .bool x.a.s] 40)) x.a
  clear hW hc
  go_enter Try.func64, Try.ntmps64
  go_wp2_with (go_at_fn g; refine hcall.mono ?_; rintro e w' ⟨rfl, hb'⟩)
  go_ret
  exact ⟨ret_b rfl, ((Below.refl _ _).alloc (Nat.le_refl _) _).trans (hb'.mono (by simp))⟩
set_option maxHeartbeats 1000000 in
theorem some_any (g : Nat) (eg : ∀ args w, (callFunc g args).run Try.prog w = .ok (.enter g args) w) (p : Att → Bool) (hg : AnsA g p) (A : Option Addr) (n c : Nat) (xs : List Rgn) (a b : Int) (w : World) (B : Nat) (hz : Rw fR 6 w B A n xs) (hB : B ≤ w.heap.size) (hbig : n ≤ 1000000) :
    Calls Try.prog 44 #[.slice A n c, .int .i64 a, .int .i64 b, .func (.func g) #[] #[]] w fun e w' => e = .returned (.bool ((inL a b xs).any fun x => p x.a)) ∧ Below w.heap.size w w' := by
  have hln := hz.1
  have hil : (inL a b xs).length ≤ 1000000 := Nat.le_trans (inL_len a b xs) (by omega)
  have hW0 : Below w.heap.size w (w.alloc (.cells #[.func (.func g) #[] #[]] 104)) := (Below.refl _ _).alloc (Nat.le_refl _) _
  have hcut := cut_any A n c xs a b (w.alloc (.cells #[.func (.func g) #[] #[]] 104)) B (hz.below (hW0.mono hB)) (by simp; omega) hbig
  have HG := Lib.hid hg
  have HP := Lib.hid (fun w1 hs hb => some_pred g eg p hg w1 w.heap.size (w.heap.size + 1) (Nat.lt_succ_self _) hs hb)
  have hbox : (w.alloc (.cells #[.func (.func g) #[] #[]] 104)).cell? ⟨w.heap.size, 0, none⟩ = some (.func (.func g) #[] #[]) := by simp [go_sem]
  have HBX := Lib.hid hbox
  have HW0 := Lib.hid hW0
  clear hg hz hln hbox hW0
  generalize inL a b xs = il at *
  go_enter Try.func44, Try.ntmps44
  go_wp2_with (go_at_call 59; refine hcut.mono ?_; rintro e w1 ⟨vo, vi, rfl, ho, hi, hap, hb1⟩)
  simp only [World.size_alloc] at ho hi hb1
  have hs1 : w.heap.size + 1 ≤ w1.heap.size := by have := hb1.size; simpa using this
  have hP := HP.out w1 hs1 ((hb1.cell (p := ⟨w.heap.size, 0, none⟩) (Nat.lt_succ_self _)).trans HBX.out)
  obtain ⟨Ai, ci, rfl, hl1, hl2, hr⟩ := hi.row fR_len
  have hcon := containsFunc_R _ _ (enters_of Try.func64 (by kernel_rfl) rfl) (fun x => p x.a) Ai il.length ci il w1 w1.heap.size (w.heap.size + 1) hr (Nat.le_refl _) hs1 (by omega) hP
  have HW1 := Lib.hid (HW0.out.trans (hb1.mono (by omega)))
  clear hP hr ho hi hap hb1
  go_wp2_with (go_at_call 63; refine hcon.mono ?_; rintro e w2 ⟨rfl, hb2⟩)
  go_ret
  exact ⟨ret_b rfl, HW1.out.trans (hb2.mono (by omega))⟩
theorem yes_ans : AnsA 78 (fun _ => true) := by
  intro W x
  go_enter Try.func78, Try.ntmps78
  go_wp2
  go_ret
  exact ⟨ret_b rfl, (Below.refl _ _).alloc (Nat.le_refl _) _⟩
def freeB (xs : List Rgn) (at_ count : Int) : Bool := (inL (max (at_ - 1) 0) (min (at_ + count + 1) 64) xs).isEmpty
theorem any_true {α : Type} : ∀ l : List α, (l.any fun _ => true) = !l.isEmpty
  | [] => rfl
  | _ :: _ => by simp
theorem free_any (A : Option Addr) (n c : Nat) (xs : List Rgn) (at_ count : Int) (w : World) (B : Nat) (hz : Rw fR 6 w B A n xs) (hB : B ≤ w.heap.size) (hbig : n ≤ 1000000) (h0 : 0 ≤ at_) (h1 : at_ ≤ 64) (h2 : 0 ≤ count) (h3 : count ≤ 64) :
    Calls Try.prog 73 #[.slice A n c, .int .i64 at_, .int .i64 count] w fun e w' => e = .returned (.bool (freeB xs at_ count)) ∧ Below w.heap.size w w' := by
  have hs := some_any _ (enters_of Try.func78 (by kernel_rfl) rfl) _ yes_ans A n c xs (max (at_ - 1) 0) (min (at_ + count + 1) 64) w B hz hB hbig
  have HF : Hid (freeB xs at_ count = !((inL (max (at_ - 1) 0) (min (at_ + count + 1) 64) xs).any fun _ => true)) := Lib.hid (by rw [any_true, Bool.not_not]; rfl)
  generalize ((inL (max (at_ - 1) 0) (min (at_ + count + 1) 64) xs).any fun _ => true) = r at *
  clear hz
  go_enter Try.func73, Try.ntmps73
  go_wp2_with (go_at_call 44; refine hs.mono ?_; rintro e w' ⟨rfl, hb'⟩)
  go_ret
  exact ⟨ret_b (by rw [HF.out]), hb'⟩
def fI (i : Int) : List Value := [.int .i64 i]
theorem fI_len (x : Int) : (fI x).length = 1 := rfl
theorem fI_one1 (x : Int) : ∀ u ∈ fI x, u.oneCell' = true := by intro u hu; simp [fI] at hu; subst hu; rfl
theorem intinfo : (Try.prog.info? 3).map (fun i => (i.zero, i.size, i.bytes)) = some (some (.int .i64 0), 1, 8) := by kernel_rfl
theorem append_I {ops : Array Oper} {rest : List Oper} {o : Oper} {a : Act} {Q : Exit → Act → World → Prop} (hgd : o.guard = none) (s x : Operand) (ho : o.op = .call { callee := .builtin .append, args := #[s, x], argTypes := #[51, 51] })
    (base : Nat) (v : Value) (t : List Int) (W : World) (c : Int) (gx : Nat) (hs : a.eval s = v) (hx : a.eval x = .slice (some ⟨gx, 0, none⟩) 1 1) (hgx : gx = W.heap.size) (hos : Os fI 1 3 W base v t) (hb : base ≤ W.heap.size) (hlen : t.length + 1 ≤ 1000000)
    (hK : ∀ g' c' w', Os fI 1 3 w' base (.slice (some ⟨g', 0, none⟩) (t.length + 1) c') (t ++ [c]) → Below base W w' → base ≤ g' → t.length + 1 ≤ c' → c' ≤ maxLen → wpList Try.prog ops Q rest (a.put o.dst (.slice (some ⟨g', 0, none⟩) (t.length + 1) c')) w') :
    wpList Try.prog ops Q (o :: rest) a (W.alloc (.cells #[.int .i64 c] 3)) :=
  append_one Try.underlying51 intinfo rfl (by decide) fI_len fI_one1 hgd s x ho base v t W c gx hs hx hgx hos hb (by unfold maxLen; omega) (by omega) hK
def upTo (xs : List Rgn) (count : Int) (k : Nat) : List Int := ((List.range k).map Int.ofNat).filter (fun p => freeB xs p count)
theorem upTo_succ (xs : List Rgn) (count : Int) (k : Nat) : upTo xs count (k + 1) = upTo xs count k ++ if freeB xs k count = true then [(k : Int)] else [] := by
  unfold upTo
  rw [List.range_succ, List.map_append, List.filter_append]
  congr 1
  simp only [List.map_cons, List.map_nil, List.filter_cons, List.filter_nil]
  rfl
theorem upTo_len (xs : List Rgn) (count : Int) (k : Nat) : (upTo xs count k).length ≤ k := Nat.le_trans (List.length_filter_le _ _) (by simp)
def allP (xs : List Rgn) (count : Int) : List Int := if rightL xs = true ∧ 1 ≤ count then upTo xs count (65 - count).toNat else []
theorem allP_len (xs : List Rgn) (count : Int) : (allP xs count).length ≤ 64 := by
  unfold allP; split
  · rename_i h; have := upTo_len xs count (65 - count).toNat; omega
  · simp
theorem right_len : ∀ (l : List Rgn) (q : Option Rgn) (b : Int), rightG q l = true → (∀ p, q = some p → b ≤ p.t) → (q = none → b ≤ 0) → l.length + b ≤ 64 ∨ l = []
  | [], _, _, _, _, _ => .inr rfl
  | x :: l, q, b, h, hq, hn => by
    unfold rightG at h
    simp only [Bool.and_eq_true] at h
    obtain ⟨⟨h1, h2⟩, h3⟩ := h
    unfold okR at h1
    simp only [Bool.and_eq_true, decide_eq_true_eq] at h1
    have hb : b ≤ x.f := by
      cases q with
      | none => have := hn rfl; omega
      | some p =>
        have := hq p rfl
        simp [nextOk] at h2
        omega
    rcases right_len l (some x) x.t h3 (fun p hp => by cases hp; exact Int.le_refl _) (fun h => by cases h) with h | h
    · left; simp only [List.length_cons]; omega
    · left; subst h; simp; omega
theorem rightL_len {l : List Rgn} (h : rightL l = true) : l.length ≤ 64 := by
  rcases right_len l none 0 h (fun p hp => by cases hp) (fun _ => Int.le_refl _) with h | h
  · omega
  · subst h; simp
set_option maxHeartbeats 2000000 in
theorem all_any (A : Option Addr) (n c : Nat) (xs : List Rgn) (count : Int) (w : World) (B : Nat) (hz : Rw fR 6 w B A n xs) (hB : B ≤ w.heap.size) (hbig : n ≤ 140737488355328) (h64 : I64 count) :
    Calls Try.prog 57 #[.slice A n c, .int .i64 count] w (Gives fI 1 3 w.heap.size w (allP xs count)) := by
  unfold I64 at h64
  have hln := hz.1
  have hright := right_any A n c xs w B hz hB hbig
  have NO : Hid (¬ (rightL xs = true ∧ 1 ≤ count) → ∀ w', Below w.heap.size w w' → Gives fI 1 3 w.heap.size w (allP xs count) (.returned (.slice none 0 0)) w') := Lib.hid (fun h w' hb => ⟨_, rfl, by unfold allP; rw [if_neg h]; exact Os.nil, hb⟩)
  cases hr : rightL xs with
  | false =>
    rw [hr] at hright
    have NO2 := Lib.hid (NO.out (by rw [hr]; simp))
    clear hz NO hr
    go_enter Try.func57, Try.ntmps57
    go_wp2_with (go_at_call 10; refine hright.mono ?_; rintro e w' ⟨rfl, hb'⟩)
    go_ret
    exact NO2.out _ hb'
  | true =>
    rw [hr] at hright
    by_cases hc : count < 1
    · have NO2 := Lib.hid (NO.out (by omega))
      clear hz NO hr
      go_enter Try.func57, Try.ntmps57
      go_wp2_with (go_at_call 10; refine hright.mono ?_; rintro e w' ⟨rfl, hb'⟩)
      go_ret
      exact NO2.out _ hb'
    · have hc1 : 1 ≤ count := by omega
      have h64n : n ≤ 64 := by have := rightL_len hr; omega
      have YES : Hid (allP xs count = upTo xs count (65 - count).toNat) := Lib.hid (by unfold allP; rw [if_pos ⟨hr, hc1⟩])
      have HF := Lib.hid (fun (w' : World) (hb : Below w.heap.size w w') (k : Nat) (hk : (k : Int) ≤ 64 - count) => free_any A n c xs k count w' B (hz.below (hb.mono hB)) (Nat.le_trans hB hb.size) (by omega) (by omega) (by omega) (by omega) (by omega))
      have HUS := Lib.hid (upTo_succ xs count)
      have HUL := Lib.hid (upTo_len xs count)
      have HU0 : Hid (upTo xs count 0 = []) := Lib.hid rfl
      generalize upTo xs count = u at *
      generalize allP xs count = al at *
      obtain ⟨fb, hfb⟩ : ∃ f : Nat → Bool, f = fun (k : Nat) => freeB xs k count := ⟨_, rfl⟩
      have HF2 : Hid (∀ (w' : World) (hb : Below w.heap.size w w') (k : Nat) (hk : (k : Int) ≤ 64 - count), Calls Try.prog 73 #[.slice A n c, .int .i64 k, .int .i64 count] w' fun e w'' => e = .returned (.bool (fb k)) ∧ Below w'.heap.size w' w'') := Lib.hid (by rw [hfb]; exact HF.out)
      have HUS2 : Hid (∀ k, u (k + 1) = u k ++ if fb k = true then [(k : Int)] else []) := Lib.hid (by rw [hfb]; exact HUS.out)
      clear hz NO hr hfb HF HUS
      go_enter Try.func57, Try.ntmps57
      go_wp2_with (go_at_call 10; refine hright.mono ?_; rintro e w1 ⟨rfl, hb1⟩)
      have HB1 := Lib.hid hb1
      clear hb1 hright
      go_loopw [5, 6] (fun v i wr => ∃ k : Nat, k ≤ (65 - count).toNat ∧ i = .int .i64 k ∧ Hid (Os fI 1 3 wr w.heap.size v (u k)) ∧ Hid (Below w.heap.size w wr)) (fun _ i _ => 65 - (intOf i).toNat)
      case atStart => exact ⟨0, by omega, rfl, Lib.hid (by rw [HU0.out]; exact Os.nil), HB1⟩
      case round =>
        obtain ⟨k, hk, rfl, HO, HB⟩ := hrel
        have hlen := HUL.out k
        have hsz := HB.out.size
        by_cases hlt : (k : Int) ≤ 64 - count
        · have hcall := HF2.out wr HB.out k hlt
          have hkb : (k : Int) < 65 - count := by omega
          have HU := Lib.hid (HUS2.out k)
          have hcw : (64 : Int) - count ≤ 63 := by omega
          cases hq : fb k with
          | false =>
            rw [hq] at hcall
            have HU2 : Hid (u (k + 1) = u k) := Lib.hid (by rw [HU.out, hq]; simp)
            clear hq
            go_wp2_with (go_at_call 73; refine hcall.mono ?_; rintro e w2 ⟨rfl, hb2⟩)
            go_roundw
            case rel => exact ⟨k + 1, by omega, by go_num, Lib.hid (by rw [HU2.out]; exact HO.out.below hb2 (Nat.le_refl _)), Lib.hid (HB.out.trans (hb2.mono hsz))⟩
            case measure => simp [intOf]; omega
          | true =>
            rw [hq] at hcall
            have HU2 : Hid (u (k + 1) = u k ++ [(k : Int)]) := Lib.hid (by rw [HU.out, hq]; simp)
            clear hq
            go_wp2_with (first
              | (go_at_call 73; refine hcall.mono ?_; rintro e w2 ⟨rfl, hb2⟩)
              | (at_builtin; refine append_I rfl _ _ rfl w.heap.size u5 (u k) w2 k w2.heap.size rfl rfl rfl (HO.out.below hb2 (Nat.le_refl _)) (Nat.le_trans hsz hb2.size) (by omega) ?_; intro g' c' w' ho hb3 hbg hcc hm))
            go_roundw
            case rel => exact ⟨k + 1, by omega, by go_num, Lib.hid (by rw [HU2.out]; exact ho), Lib.hid ((HB.out.trans (hb2.mono hsz)).trans hb3)⟩
            case measure => simp [intOf]; omega
        · have hke : k = (65 - count).toNat := by omega
          have hcw : (64 : Int) - count ≤ 63 := by omega
          have HU : Hid (u k = al) := Lib.hid (by rw [YES.out, hke])
          have hlt2 : 64 - count < (k : Int) := by omega
          go_wp2
          go_ret
          exact ⟨_, rfl, by rw [← HU.out]; exact HO.out, HB.out⟩
end Go.Proofs.Ytglnnplijienbaa

/- place.Choose. -/
namespace Go.Proofs.Ytglnnplijienbaa
open Go.ChangeShapes Go.WideShapes Go.ChangeAt Go.RowKit Go.Joins
set_option linter.unusedVariables false
def idxC (al : List Int) (draw : Int) : Int := (draw.tmod al.length + al.length).tmod al.length
def chE (xs : List Rgn) (count : Int) : Int := if rightL xs = false then 1 else if count < 1 ∨ 64 < count then 2 else if allP xs count = [] then 4 else 0
def chN (xs : List Rgn) (count draw : Int) : Int := if chE xs count = 0 then (allP xs count).getD (idxC (allP xs count) draw).toNat 0 else 0
def Two (a b : Int) (w : World) (e : Ending) (w' : World) : Prop := e = .returned (.tuple #[.int .i64 a, .int .i64 b]) ∧ Below w.heap.size w w'
set_option maxHeartbeats 2000000 in
set_option maxRecDepth 100000 in
theorem choose_any (A : Option Addr) (n c : Nat) (xs : List Rgn) (count draw : Int) (w : World) (B : Nat) (hz : Rw fR 6 w B A n xs) (hB : B ≤ w.heap.size) (hbig : n ≤ 140737488355328) (h64 : I64 count) (hd64 : I64 draw) :
    Calls Try.prog 40 #[.slice A n c, .int .i64 count, .int .i64 draw] w (Two (chN xs count draw) (chE xs count) w) := by
  have hright := right_any A n c xs w B hz hB hbig
  have NO : Hid (∀ E : Int, chE xs count = E → E ≠ 0 → ∀ w', Below w.heap.size w w' → Two (chN xs count draw) (chE xs count) w (.returned (.tuple #[.int .i64 0, .int .i64 E])) w') := Lib.hid (fun E h h0 w' hb => by
    unfold chN; rw [h, if_neg h0]; exact ⟨rfl, hb⟩)
  cases hr : rightL xs with
  | false =>
    rw [hr] at hright
    have NO2 := Lib.hid (NO.out 1 (by unfold chE; rw [if_pos hr]) (by decide))
    clear hz NO hr
    go_enter Try.func40, Try.ntmps40
    go_wp2_with (go_at_call 10; refine hright.mono ?_; rintro e w' ⟨rfl, hb'⟩)
    go_ret2
    exact NO2.out _ hb'
  | true =>
    rw [hr] at hright
    by_cases hc : count < 1
    · have NO2 := Lib.hid (NO.out 2 (by unfold chE; rw [if_neg (by rw [hr]; simp), if_pos (.inl hc)]) (by decide))
      clear hz NO hr
      go_enter Try.func40, Try.ntmps40
      go_wp2_with (go_at_call 10; refine hright.mono ?_; rintro e w' ⟨rfl, hb'⟩)
      go_ret2
      exact NO2.out _ hb'
    · have hc1 : 1 ≤ count := by omega
      by_cases hc2 : 64 < count
      · have NO2 := Lib.hid (NO.out 2 (by unfold chE; rw [if_neg (by rw [hr]; simp), if_pos (.inr hc2)]) (by decide))
        clear hz NO hr
        go_enter Try.func40, Try.ntmps40
        go_wp2_with (go_at_call 10; refine hright.mono ?_; rintro e w' ⟨rfl, hb'⟩)
        go_ret2
        exact NO2.out _ hb'
      · have hc3 : count ≤ 64 := by omega
        have hall := fun (w' : World) (hb : Below w.heap.size w w') => all_any A n c xs count w' B (hz.below (hb.mono hB)) (Nat.le_trans hB hb.size) hbig h64
        have HALL := Lib.hid hall
        have hal := allP_len xs count
        by_cases he : allP xs count = []
        · have NO2 := Lib.hid (NO.out 4 (by unfold chE; rw [if_neg (by rw [hr]; simp), if_neg (by omega), if_pos he]) (by decide))
          rw [he] at HALL
          clear hz NO hr hall he hal
          go_enter Try.func40, Try.ntmps40
          go_wp2_with (go_at_call 10; refine hright.mono ?_; rintro e w' ⟨rfl, hb'⟩)
          have hcall := HALL.out w' hb'
          have HB := Lib.hid hb'
          clear hb' HALL
          go_wp2_with (go_at_call 57; refine hcall.mono ?_; rintro e w2 ⟨v, rfl, ho, hb2⟩; obtain ⟨A2, c2, rfl, _, _, _⟩ := ho.row fI_len)
          go_ret2
          exact NO2.out _ (HB.out.trans (hb2.mono HB.out.size))
        · have hE : chE xs count = 0 := by unfold chE; rw [if_neg (by rw [hr]; simp), if_neg (by omega), if_neg he]
          have hN : chN xs count draw = (allP xs count).getD (idxC (allP xs count) draw).toNat 0 := by unfold chN; rw [if_pos hE]
          rw [hE, hN]
          clear NO hE hN hr
          generalize allP xs count = al at *
          have hl0 : 0 < al.length := List.length_pos_iff.2 he
          have hi0 : 0 ≤ idxC al draw := by unfold idxC; exact Int.tmod_nonneg _ (by have := Int.lt_tmod_of_pos draw (b := al.length) (by omega); omega)
          have hi1 : idxC al draw < al.length := by unfold idxC; exact Int.tmod_lt_of_pos _ (by omega)
          have hq1 : -(al.length : Int) < draw.tmod al.length := Int.lt_tmod_of_pos draw (by omega)
          have hq2 : draw.tmod al.length < al.length := Int.tmod_lt_of_pos draw (by omega)
          have hI : (draw.tmod al.length + al.length).tmod al.length = idxC al draw := rfl
          generalize idxC al draw = k at *
          obtain ⟨m, rfl⟩ := Int.eq_ofNat_of_zero_le hi0
          have hm : m < al.length := by omega
          have HGET : Hid (al.getD (Int.toNat m) 0 = al[m]) := Lib.hid (by simp [List.getD, hm])
          have HM : Hid (al[m]? = some al[m]) := Lib.hid (List.getElem?_eq_getElem hm)
          have hne : (al.length : Int) ≠ 0 := by omega
          have hnb : ((al.length : Int) == 0) = false := by simpa using hne
          generalize al[m] = z at *
          generalize al.getD (Int.toNat m) 0 = gd at *
          have hw : wrap64 (draw.tmod al.length + al.length) = draw.tmod al.length + al.length := by unfold wrap64; omega
          have hm0 : (0 : Int) ≤ (m : Int) := by omega
          have hm1 : (m : Int) < (al.length : Int) := by omega
          clear hq1 hq2
          clear hz hall he hi0 hi1
          go_enter Try.func40, Try.ntmps40
          go_wp2_with (go_at_call 10; refine hright.mono ?_; rintro e w' ⟨rfl, hb'⟩)
          have hcall := HALL.out w' hb'
          have HB := Lib.hid hb'
          clear hb' HALL
          go_wp2_with (go_at_call 57; refine hcall.mono ?_; rintro e w2 ⟨v, rfl, ho, hb2⟩; obtain ⟨A2, c2, rfl, _, _, hrw⟩ := ho.row fI_len)
          obtain ⟨bb, off, rfl, hbb⟩ := hrw.open hl0
          generalize al.length = ln at *
          have hcell : w2.cell? ⟨bb, off + m, none⟩ = some (.int .i64 z) := by have := hrw.at_ fI_len HM.out 0 _ rfl; rwa [Nat.mul_one, Nat.add_zero] at this
          have HB2 := Lib.hid hb2
          clear ho hb2 hrw HM hl0 hne hnb hal
          go_wp2
          go_simp
          go_wp2
          go_ret2
          rw [HGET.out]
          exact ⟨rfl, HB.out.trans (HB2.out.mono HB.out.size)⟩
end Go.Proofs.Ytglnnplijienbaa
