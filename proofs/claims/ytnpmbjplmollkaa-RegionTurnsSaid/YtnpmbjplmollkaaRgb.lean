/- region.cut. -/
import Derived.Test.YtnpmbjplmollkaaRga
import Derived.Test.YtnpmbjplmollkaaRegU
namespace Go.Proofs.Ytnpmbjplmollkaa
open Go.ChangeShapes Go.WideShapes Go.ChangeAt Go.RowKit Go.Joins Go.Sort
set_option linter.unusedVariables false
attribute [local go_sem] Oper.quiet Oper.quietAt Oper.quietUpon
/-- A special operation that gives a row of the call's own. -/
def Sp.os {α : Type} (f : α → List Value) (sz : Nat) (T : TypeId) (base at_ : Nat) (xs : List α) : Sp :=
  ⟨at_, fun v => ∃ g c, v = .slice (some ⟨g, 0, none⟩) xs.length c, fun v w => Os f sz T w base v xs, ⟨_, 0, 0, rfl⟩, fun _ _ _ h hb => h.below hb (Nat.le_refl _)⟩
theorem append_R {ops : Array Oper} {rest : List Oper} {o : Oper} {a : Act} {Q : Exit → Act → World → Prop} (hgd : o.guard = none) (s x : Operand) (ho : o.op = .call { callee := .builtin .append, args := #[s, x], argTypes := #[22, 22] })
    (base : Nat) (v : Value) (t : List Rgn) (W : World) (c : Rgn) (gx : Nat) (hs : a.eval s = v) (hx : a.eval x = .slice (some ⟨gx, 0, none⟩) 1 1) (hgx : gx = W.heap.size) (hos : Os fR 6 26 W base v t) (hb : base ≤ W.heap.size) (hlen : t.length + 1 ≤ 3518437208883)
    (hK : ∀ g' c' w', Os fR 6 26 w' base (.slice (some ⟨g', 0, none⟩) (t.length + 1) c') (t ++ [c]) → W.grownBy w' v.ownBlock → (some g' = v.ownBlock ∨ W.heap.size ≤ g') → base ≤ g' → t.length + 1 ≤ c' → c' ≤ maxLen → wpList Try.prog ops Q rest (a.put o.dst (.slice (some ⟨g', 0, none⟩) (t.length + 1) c')) w') :
    wpList Try.prog ops Q (o :: rest) a (W.alloc (.cells #[.int .i64 c.f, .int .i64 c.t, .int .i64 c.a.r, .int .i64 c.a.k, .bool c.a.g, .bool c.a.s] 26)) :=
  append_sep Try.underlying22 info_R rfl (by decide) fR_len fR_one1 hgd s x ho base v t W c gx hs hx hgx hos hb (by unfold maxLen; omega) (by omega) hK
def TwoR (o i : List Rgn) (w : World) (e : Ending) (w' : World) : Prop := ∃ vo vi, e = .returned (.tuple #[vo, vi]) ∧ Os fR 6 26 w' w.heap.size vo o ∧ Os fR 6 26 w' w.heap.size vi i ∧ Apart vo vi ∧ Below w.heap.size w w'
def partL (a b : Int) (x : Rgn) : List Rgn := [⟨x.f, min x.t a, x.a⟩, ⟨max x.f b, x.t, x.a⟩]
def someR (x : Rgn) : List Rgn := if x.f < x.t then [x] else []
theorem outP_parts (a b : Int) (x : Rgn) : outP a b x = (partL a b x).flatMap someR := by simp [outP, partL, someR]
theorem inP_some (a b : Int) (x : Rgn) : inP a b x = someR ⟨max x.f a, min x.t b, x.a⟩ := rfl
theorem someR_yes {x : Rgn} (h : x.f < x.t) : someR x = [x] := if_pos h
theorem someR_no {x : Rgn} (h : ¬ x.f < x.t) : someR x = [] := if_neg h
theorem flat_some_len : ∀ l : List Rgn, (l.flatMap someR).length ≤ l.length
  | [] => by simp
  | x :: l => by
    have := flat_some_len l
    rw [List.flatMap_cons, List.length_append, List.length_cons]
    by_cases h : x.f < x.t
    · rw [someR_yes h, List.length_singleton]; omega
    · rw [someR_no h, List.length_nil]; omega
theorem outL_len (a b : Int) (l : List Rgn) : (outL a b l).length ≤ 2 * l.length := by
  induction l with
  | nil => simp [outL]
  | cons x l ih => simp only [outL, List.flatMap_cons, List.length_append, List.length_cons] at *; have := outP_len a b x; omega
theorem inL_len (a b : Int) (l : List Rgn) : (inL a b l).length ≤ l.length := by
  induction l with
  | nil => simp [inL]
  | cons x l ih => simp only [inL, List.flatMap_cons, List.length_append, List.length_cons] at *; have := inP_len a b x; omega
/-- All that is known in the loop: two rows apart. -/
structure Duo (w0 w : World) (vo vi : Value) (o i : List Rgn) : Prop where
  below : Below w0.heap.size w0 w
  out : Os fR 6 26 w w0.heap.size vo o
  ins : Os fR 6 26 w w0.heap.size vi i
  apart : Apart vo vi
theorem Duo.on {w0 w w' : World} {vo vi : Value} {o i : List Rgn} (h : Duo w0 w vo vi o i) (hb : Below w.heap.size w w') : Duo w0 w' vo vi o i :=
  ⟨h.below.trans (hb.mono h.below.size), h.out.below hb (Nat.le_refl _), h.ins.below hb (Nat.le_refl _), h.apart⟩
theorem grown_below2 {w w' : World} {v : Value} {B : Nat} (h : w.grownBy w' v.ownBlock) (hv : ∀ k, v.ownBlock = some k → B ≤ k) (hB : B ≤ w.heap.size) : Below B w w' :=
  ⟨h.os, h.tape, h.output, h.size, fun k hk => h.block k (by omega) (fun e => by have := hv k e.symm; omega)⟩
theorem Duo.grow_o {w0 w w' : World} {vo vi : Value} {o i o' : List Rgn} {g n c : Nat} (h : Duo w0 w vo vi o i) (hg : w.grownBy w' vo.ownBlock) (ho : Os fR 6 26 w' w0.heap.size (.slice (some ⟨g, 0, none⟩) n c) o') (hgg : some g = vo.ownBlock ∨ w.heap.size ≤ g) : Duo w0 w' (.slice (some ⟨g, 0, none⟩) n c) vi o' i :=
  ⟨h.below.trans (grown_below2 hg (fun k hk => (h.out.blk_lt2 k hk).2) h.below.size), ho, h.ins.frame hg h.apart.symm, (h.apart.symm.grown hgg (fun k hk => (h.ins.blk_lt2 k hk).1)).symm⟩
theorem Duo.grow_i {w0 w w' : World} {vo vi : Value} {o i i' : List Rgn} {g n c : Nat} (h : Duo w0 w vo vi o i) (hg : w.grownBy w' vi.ownBlock) (hi : Os fR 6 26 w' w0.heap.size (.slice (some ⟨g, 0, none⟩) n c) i') (hgg : some g = vi.ownBlock ∨ w.heap.size ≤ g) : Duo w0 w' vo (.slice (some ⟨g, 0, none⟩) n c) o i' :=
  ⟨h.below.trans (grown_below2 hg (fun k hk => (h.ins.blk_lt2 k hk).2) h.below.size), h.out.frame hg h.apart, hi, h.apart.grown hgg (fun k hk => (h.out.blk_lt2 k hk).1)⟩
theorem os_made {α : Type} {f : α → List Value} {sz : Nat} {T : TypeId} {w : World} {base : Nat} (hf : ∀ x, (f x).length = sz) (xs : List α) (n : Nat) (hn : n = xs.length) (hm : xs.length ≤ 1000) (hb : base ≤ w.heap.size) : Os f sz T (w.alloc (.cells (xs.flatMap f).toArray T)) base (.slice (some ⟨w.heap.size, 0, none⟩) n n) xs := by
  subst hn
  refine Os.mk (cur := (xs.flatMap f).toArray) hb (by simp only [World.alloc, Array.getElem?_push_size]) (Nat.le_refl _) (by unfold maxLen; omega) (by simp [flat_len hf]) hf ?_
  rw [List.toList_toArray, List.take_of_length_le (by rw [flat_len hf]; exact Nat.le_refl _)]
/-- .. and the region and its two parts beside them. -/
structure Trio (w0 : World) (gx : Nat) (x : Rgn) (p : List Rgn) (w : World) (vo vi : Value) (o i : List Rgn) : Prop where
  duo : Duo w0 w vo vi o i
  cpy : Os fR 6 26 w gx (.slice (some ⟨gx, 0, none⟩) 1 1) [x]
  parts : Os fR 6 26 w gx (.slice (some ⟨gx + 1, 0, none⟩) 2 2) p
  off : ∀ k, vo.ownBlock = some k → k ≠ gx ∧ k ≠ gx + 1
theorem Trio.on {w0 w w' : World} {vo vi : Value} {o i : List Rgn} {gx : Nat} {x : Rgn} {p : List Rgn} (h : Trio w0 gx x p w vo vi o i) (hb : Below w.heap.size w w') : Trio w0 gx x p w' vo vi o i :=
  ⟨h.duo.on hb, h.cpy.below hb (Nat.le_refl _), h.parts.below hb (Nat.le_refl _), h.off⟩
theorem Trio.grow {w0 w w' : World} {vo vi : Value} {o i o' : List Rgn} {g n c : Nat} {gx : Nat} {x : Rgn} {p : List Rgn} (h : Trio w0 gx x p w vo vi o i) (hg : w.grownBy w' vo.ownBlock) (ho : Os fR 6 26 w' w0.heap.size (.slice (some ⟨g, 0, none⟩) n c) o') (hgg : some g = vo.ownBlock ∨ w.heap.size ≤ g) : Trio w0 gx x p w' (.slice (some ⟨g, 0, none⟩) n c) vi o' i :=
  ⟨h.duo.grow_o hg ho hgg, h.cpy.frame hg (.inr (fun e => (h.off gx e.symm).1 rfl)), h.parts.frame hg (.inr (fun e => (h.off (gx + 1) e.symm).2 rfl)), fun k hk => by
    simp [Value.ownBlock] at hk
    subst hk
    rcases hgg with e | e
    · exact h.off _ e.symm
    · have := h.parts.blk_lt_.1; have := h.cpy.blk_lt_.1; omega⟩
theorem Duo.start {w0 w : World} {vo vi : Value} {o i : List Rgn} (h : Duo w0 w vo vi o i) (x y z : Rgn) : Trio w0 w.heap.size x [y, z] ((w.alloc (.cells (fR x).toArray 26)).alloc (.cells (fR y ++ fR z).toArray 26)) vo vi o i := by
  have h1 : Below w.heap.size w (w.alloc (.cells (fR x).toArray 26)) := (Below.refl _ _).alloc (Nat.le_refl _) _
  have hs : (w.alloc (.cells (fR x).toArray 26)).heap.size = w.heap.size + 1 := by simp
  have h2 : Below (w.alloc (.cells (fR x).toArray 26)).heap.size (w.alloc (.cells (fR x).toArray 26)) ((w.alloc (.cells (fR x).toArray 26)).alloc (.cells (fR y ++ fR z).toArray 26)) := (Below.refl _ _).alloc (Nat.le_refl _) _
  have a1 := os_made (T := 26) (w := w) (base := w.heap.size) fR_len [x] 1 rfl (by simp) (Nat.le_refl _)
  have a2 := os_made (T := 26) (w := w.alloc (.cells (fR x).toArray 26)) (base := w.heap.size) fR_len [y, z] 2 rfl (by simp) (by omega)
  rw [hs] at a2
  refine ⟨(h.on h1).on h2, Os.below (B := (w.alloc (.cells (fR x).toArray 26)).heap.size) ?_ h2 (Nat.le_refl _), ?_, fun k hk => ?_⟩
  · simpa using a1
  · simpa using a2
  · have := (h.out.blk_lt2 k hk).1; omega

set_option maxHeartbeats 4000000 in
set_option maxRecDepth 100000 in
theorem cut_any (A : Option Addr) (n c : Nat) (xs : List Rgn) (a b : Int) (w : World) (B : Nat) (hz : Rw fR 6 w B A n xs) (hB : B ≤ w.heap.size) (hbig : n ≤ 1000000) :
    Calls Try.prog 37 #[.slice A n c, .int .i64 a, .int .i64 b] w (TwoR (outL a b xs) (inL a b xs) w) := by
  have hln := hz.1
  have HX := Lib.hid (fun (i : Nat) (hi : i < n) => (⟨xs[i]'(by omega), List.getElem?_eq_getElem _⟩ : ∃ x, xs[i]? = some x))
  have HLN := Lib.hid hln
  have HZ := Lib.hid hz
  have HO := Lib.hid (fun k (x : Rgn) (h : xs[k]? = some x) => (congrArg (outL a b) (take_snocR h)).trans (outL_snoc a b (xs.take k) x))
  have HI := Lib.hid (fun k (x : Rgn) (h : xs[k]? = some x) => (congrArg (inL a b) (take_snocR h)).trans (inL_snoc a b (xs.take k) x))
  have HOL := Lib.hid (fun (k : Nat) (h : k ≤ n) => (show (outL a b (xs.take k)).length ≤ 2 * n from Nat.le_trans (outL_len a b _) (by rw [List.length_take]; omega)))
  have HIL := Lib.hid (fun (k : Nat) (h : k ≤ n) => (show (inL a b (xs.take k)).length ≤ n from Nat.le_trans (inL_len a b _) (by rw [List.length_take]; omega)))
  have HOT : Hid (outL a b (xs.take n) = outL a b xs) := Lib.hid (by rw [List.take_of_length_le (by omega)])
  have HIT : Hid (inL a b (xs.take n) = inL a b xs) := Lib.hid (by rw [List.take_of_length_le (by omega)])
  have HA : Hid (0 < n → ∃ b off, A = some ⟨b, off, none⟩ ∧ b < B) := Lib.hid (fun h => HZ.out.open h)
  obtain ⟨fo, hfo⟩ : ∃ f : Nat → List Rgn, f = fun k => outL a b (xs.take k) := ⟨_, rfl⟩
  obtain ⟨fi, hfi⟩ : ∃ f : Nat → List Rgn, f = fun k => inL a b (xs.take k) := ⟨_, rfl⟩
  have F0 : Hid (fo 0 = [] ∧ fi 0 = []) := Lib.hid (by rw [hfo, hfi]; exact ⟨rfl, rfl⟩)
  have FO : Hid (∀ k x, xs[k]? = some x → fo (k + 1) = fo k ++ outP a b x) := Lib.hid (by rw [hfo]; exact HO.out)
  have FI : Hid (∀ k x, xs[k]? = some x → fi (k + 1) = fi k ++ inP a b x) := Lib.hid (by rw [hfi]; exact HI.out)
  have FOL : Hid (∀ k, k ≤ n → (fo k).length ≤ 2 * n) := Lib.hid (by rw [hfo]; exact HOL.out)
  have FIL : Hid (∀ k, k ≤ n → (fi k).length ≤ n) := Lib.hid (by rw [hfi]; exact HIL.out)
  have FT : Hid (fo n = outL a b xs ∧ fi n = inL a b xs) := Lib.hid (by rw [hfo, hfi]; exact ⟨HOT.out, HIT.out⟩)
  generalize outL a b xs = oL at *
  generalize inL a b xs = iL at *
  clear hfo hfi HO HI HOL HIL HOT HIT hz hln
  go_enter Try.func37, Try.ntmps37
  go_wp2
  go_loopw [6, 7, 15] (fun vo vi i wr => ∃ k : Nat, k ≤ n ∧ i = .int .i64 k ∧ Hid (Duo w wr vo vi (fo k) (fi k))) (fun _ _ i _ => n - (intOf i).toNat)
  case atStart => exact ⟨0, by omega, rfl, Lib.hid ⟨Below.refl _ _, by rw [F0.out.1]; exact Os.nil, by rw [F0.out.2]; exact Os.nil, .inl rfl⟩⟩
  case round =>
    obtain ⟨k, hk, rfl, HD⟩ := hrel
    by_cases hlt : k < n
    · obtain ⟨x, hx⟩ := HX.out k hlt
      obtain ⟨b', off, hAe, hb'⟩ := HA.out (by omega)
      subst hAe
      have hsz := HD.out.below.size
      have hcs := (HZ.out.below (HD.out.below.mono hB)).at_ fR_len hx
      have xc0 : wr.cell? ⟨b', off + k * 6, none⟩ = some (.int .i64 x.f) := hcs 0 _ rfl
      have xc1 : wr.cell? ⟨b', off + k * 6 + 1, none⟩ = some (.int .i64 x.t) := hcs 1 _ rfl
      have xc2 : wr.cell? ⟨b', off + k * 6 + 2, none⟩ = some (.int .i64 x.a.r) := hcs 2 _ rfl
      have xc3 : wr.cell? ⟨b', off + k * 6 + 3, none⟩ = some (.int .i64 x.a.k) := hcs 3 _ rfl
      have xc4 : wr.cell? ⟨b', off + k * 6 + 4, none⟩ = some (.bool x.a.g) := hcs 4 _ rfl
      have xc5 : wr.cell? ⟨b', off + k * 6 + 5, none⟩ = some (.bool x.a.s) := hcs 5 _ rfl
      have HX0 := Lib.hid hx
      clear hcs hx
      go_wp2
      have HT0 := Lib.hid (HD.out.start x ⟨x.f, min x.t a, x.a⟩ ⟨max x.f b, x.t, x.a⟩)
      have HOX : Hid (fo (k + 1) = fo k ++ (partL a b x).flatMap someR) := Lib.hid (by rw [← outP_parts]; exact FO.out k x HX0.out)
      have HIX : Hid (fi (k + 1) = fi k ++ someR ⟨max x.f a, min x.t b, x.a⟩) := Lib.hid (by rw [← inP_some]; exact FI.out k x HX0.out)
      have hlo := FOL.out k (by omega)
      have hli := FIL.out k (by omega)
      have hgx : w.heap.size ≤ wr.heap.size := hsz
      clear HD HX0 xc0 xc1 xc2 xc3 xc4 xc5
      generalize HGx : wr.heap.size = gx at *
      obtain ⟨wo, hwo⟩ : ∃ wo, wo = wr := ⟨_, rfl⟩
      subst hwo
      go_loopw [6, 39] (fun vo i wq => ∃ j : Nat, j ≤ 2 ∧ i = .int .i64 j ∧ Hid (Trio w gx x (partL a b x) wq vo u7 (fo k ++ ((partL a b x).take j).flatMap someR) (fi k))) (fun _ i _ => 2 - (intOf i).toNat)
      case atStart => exact ⟨0, by omega, rfl, Lib.hid (by have := HT0.out; rw [List.take_zero, List.flatMap_nil, List.append_nil]; exact this)⟩
      case round =>
        clear HT0
        obtain ⟨j, hj, rfl, HT⟩ := hrel
        have hwr := HT.out.duo.below.size
        have hgl := HT.out.parts.blk_lt_.1
        by_cases hj2 : j < 2
        · obtain ⟨y, hy⟩ : ∃ y, (partL a b x)[j]? = some y := ⟨_, List.getElem?_eq_getElem (by simpa [partL] using hj2)⟩
          have hcs := HT.out.parts.cells fR_len hy
          have yc0 : wr.cell? ⟨gx + 1, j * 6, none⟩ = some (.int .i64 y.f) := (hcs 0 _ rfl).1
          have yc1 : wr.cell? ⟨gx + 1, j * 6 + 1, none⟩ = some (.int .i64 y.t) := (hcs 1 _ rfl).1
          have yc2 : wr.cell? ⟨gx + 1, j * 6 + 2, none⟩ = some (.int .i64 y.a.r) := (hcs 2 _ rfl).1
          have yc3 : wr.cell? ⟨gx + 1, j * 6 + 3, none⟩ = some (.int .i64 y.a.k) := (hcs 3 _ rfl).1
          have yc4 : wr.cell? ⟨gx + 1, j * 6 + 4, none⟩ = some (.bool y.a.g) := (hcs 4 _ rfl).1
          have yc5 : wr.cell? ⟨gx + 1, j * 6 + 5, none⟩ = some (.bool y.a.s) := (hcs 5 _ rfl).1
          have HTS : Hid (((partL a b x).take (j + 1)).flatMap someR = ((partL a b x).take j).flatMap someR ++ someR y) := Lib.hid (by rw [take_snocR hy, List.flatMap_append]; simp)
          have hpl : (((partL a b x).take j).flatMap someR).length ≤ 2 := Nat.le_trans (flat_some_len _) (by rw [List.length_take]; omega)
          clear hcs hy
          generalize ((partL a b x).take j).flatMap someR = qs at *
          have HT1 := Lib.hid (HT.out.on ((Below.refl wr.heap.size wr).alloc (Nat.le_refl _) (.cells #[.int .i64 y.f, .int .i64 y.t, .int .i64 y.a.r, .int .i64 y.a.k, .bool y.a.g, .bool y.a.s] 26)))
          have hj0 : (0 : Int) ≤ (j : Int) := by omega
          have hj1 : (j : Int) < 2 := by omega
          clear HT
          by_cases hlt2 : y.f < y.t
          · have HSY := Lib.hid (someR_yes hlt2)
            go_wp2_with (at_builtin; refine append_R rfl _ _ rfl w.heap.size u6 (fo k ++ qs) (wr.alloc (.cells #[.int .i64 y.f, .int .i64 y.t, .int .i64 y.a.r, .int .i64 y.a.k, .bool y.a.g, .bool y.a.s] 26)) y (wr.heap.size + 1) rfl rfl (by simp) HT1.out.duo.out (by simp; omega) (by rw [List.length_append]; omega) ?_)
            intro g' c' w' ho hg hgg hbg hc hm
            have HT2 := Lib.hid (HT1.out.grow hg ho (hgg.imp id fun h => by simpa using h))
            clear hg ho hgg HT1 yc0 yc1 yc2 yc3 yc4 yc5
            go_wp2
            go_roundw
            case rel => exact ⟨j + 1, by omega, by go_num, Lib.hid (by rw [HTS.out, HSY.out]; exact HT2.out)⟩
            case measure => simp [intOf]; omega
          · have HSY := Lib.hid (someR_no hlt2)
            have hle2 : y.t ≤ y.f := by omega
            go_wp2
            go_roundw
            case rel => exact ⟨j + 1, by omega, by go_num, Lib.hid (by rw [HTS.out, HSY.out, List.append_nil]; exact HT1.out)⟩
            case measure => simp [intOf]; omega
        · have hj3 : j = 2 := by omega
          subst hj3
          have HD2 : Hid (Duo w wr u6 u7 (fo (k + 1)) (fi k)) := Lib.hid (by rw [HOX.out]; exact HT.out.duo)
          have hcs := HT.out.cpy.cells (i := 0) fR_len rfl
          have kc0 : wr.cell? ⟨gx, 0, none⟩ = some (.int .i64 x.f) := by have := (hcs 0 _ rfl).1; rwa [Nat.zero_mul, Nat.zero_add] at this
          have kc1 : wr.cell? ⟨gx, 1, none⟩ = some (.int .i64 x.t) := by have := (hcs 1 _ rfl).1; rwa [Nat.zero_mul, Nat.zero_add] at this
          have kc2 : wr.cell? ⟨gx, 2, none⟩ = some (.int .i64 x.a.r) := by have := (hcs 2 _ rfl).1; rwa [Nat.zero_mul, Nat.zero_add] at this
          have kc3 : wr.cell? ⟨gx, 3, none⟩ = some (.int .i64 x.a.k) := by have := (hcs 3 _ rfl).1; rwa [Nat.zero_mul, Nat.zero_add] at this
          have kc4 : wr.cell? ⟨gx, 4, none⟩ = some (.bool x.a.g) := by have := (hcs 4 _ rfl).1; rwa [Nat.zero_mul, Nat.zero_add] at this
          have kc5 : wr.cell? ⟨gx, 5, none⟩ = some (.bool x.a.s) := by have := (hcs 5 _ rfl).1; rwa [Nat.zero_mul, Nat.zero_add] at this
          have hgx2 := HT.out.cpy.blk_lt_.1
          clear hcs HT
          have HD3 := Lib.hid (HD2.out.on ((Below.refl wr.heap.size wr).alloc (Nat.le_refl _) (.cells #[.int .i64 (max x.f a), .int .i64 (min x.t b), .int .i64 x.a.r, .int .i64 x.a.k, .bool x.a.g, .bool x.a.s] 26)))
          clear HD2
          by_cases hlt3 : max x.f a < min x.t b
          · have HSZ := Lib.hid (someR_yes (x := ⟨max x.f a, min x.t b, x.a⟩) hlt3)
            go_wp2_with (at_builtin; refine append_R rfl _ _ rfl w.heap.size u7 (fi k) (wr.alloc (.cells #[.int .i64 (max x.f a), .int .i64 (min x.t b), .int .i64 x.a.r, .int .i64 x.a.k, .bool x.a.g, .bool x.a.s] 26)) ⟨max x.f a, min x.t b, x.a⟩ (wr.heap.size + 1) rfl rfl (by simp) HD3.out.ins (by simp; omega) (by omega) ?_)
            intro g' c' w' ho hg hgg hbg hc hm
            have HD4 := Lib.hid (HD3.out.grow_i hg ho (hgg.imp id fun h => by simpa using h))
            clear hg ho hgg HD3 kc0 kc1 kc2 kc3 kc4 kc5
            go_wp2
            go_roundw
            case rel => exact ⟨k + 1, by omega, by go_num, Lib.hid (by rw [HIX.out, HSZ.out]; exact HD4.out)⟩
            case measure => simp [intOf]; omega
          · have HSZ := Lib.hid (someR_no (x := ⟨max x.f a, min x.t b, x.a⟩) hlt3)
            have hle3 : min x.t b ≤ max x.f a := by omega
            go_wp2
            go_roundw
            case rel => exact ⟨k + 1, by omega, by go_num, Lib.hid (by rw [HIX.out, HSZ.out, List.append_nil]; exact HD3.out)⟩
            case measure => simp [intOf]; omega
    · have hkn : n = k := by omega
      subst hkn
      have HD2 := HD.out
      rw [FT.out.1, FT.out.2] at HD2
      clear HD
      go_wp2
      go_ret2
      exact ⟨_, _, rfl, HD2.out, HD2.ins, HD2.apart, HD2.below⟩
end Go.Proofs.Ytnpmbjplmollkaa
