/- slices at api.Cached: Clone, IndexFunc, ContainsFunc, DeleteFunc, Equal. -/
import Derived.Shelf.Abstract
import Derived.Test.YtfhcjainhpjdfaaSu
import Derived.Test.YtfhcjainhpjdfaaCacE
namespace Go.Proofs.Ytfhcjainhpjdfaa
open Go.ChangeShapes Go.WideShapes Go.ChangeAt Go.RowKit Go.Joins
set_option linter.unusedVariables false

theorem eq_nil_C (w : World) (a : Option Addr) (n c n' c' : Nat) : (binOp .eql 22 (.slice a n c) (.slice none n' c')).run Try.prog w = .ok (.bool a.isNone) w := Lib.run_eql_slice_nil w _ _ a n c n' c' Try.underlying22

set_option maxHeartbeats 2000000 in
theorem clone_C (A : Option Addr) (n c : Nat) (xs : List Cac) (w : World) (B : Nat) (hz : Rw fC 4 w B A n xs) (_ : B ≤ w.heap.size) (hbig : n ≤ 4398046511104) :
    Calls Try.prog 18 #[.slice A n c] w fun e w' => ∃ v, e = .returned v ∧ Os fC 4 27 w' w.heap.size v xs ∧ Below w.heap.size w w' := by
  have q := eq_nil_C
  have hln := hz.1
  subst hln
  cases A with
  | none =>
    have h0 : xs = [] := by
      rcases Nat.eq_zero_or_pos xs.length with h | h
      · exact List.eq_nil_of_length_eq_zero h
      · obtain ⟨_, _, e, _⟩ := hz.2.2 h; cases e
    subst h0
    clear hz
    go_enter Try.func18, Try.ntmps18
    go_wp2
    go_ret
    exact ⟨_, rfl, Os.nil, Below.refl _ _⟩
  | some x =>
    obtain ⟨i0, hi, hz0, hz1, hz2⟩ := info_parts info_C
    obtain ⟨hl, hcell⟩ := Rw.cells fC_len (by decide) hz
    have HC := Lib.hid hcell
    have HL := Lib.hid hl
    clear hcell hl hz
    go_enter Try.func18, Try.ntmps18
    go_wp2_with (at_builtin; refine wpList_append_own _ rfl _ _ 22 rfl w.heap.size 27 i0 (.agg #[.int .i64 0, .int .i64 0, .int .i64 0, .int .i64 0]) 4 32 Try.underlying22 hi hz0 hz1 hz2 rfl (by decide) _ _ _ rfl (World.ownsRow_made w #[] 0 (Nat.le_refl _) (Nat.zero_le _) rfl) x xs.length c (xs.flatMap fC) rfl ?qc1 ?qc2 ?qc3 ?qc4 ?qc5 ?qc6 ?_)
    case qc1 => exact HL.out
    case qc2 =>
      intro j u hj
      exact Lib.cell?_alloc_some _ (HC.out j u hj)
    case qc3 => exact fC_one xs
    case qc4 => unfold maxLen; omega
    case qc5 => omega
    case qc6 => simp
    intro v' w1 hown hgrow hnil
    go_wp2
    go_ret
    exact ⟨v', rfl, by simpa [Os] using hown, ((Below.refl _ w).alloc (Nat.le_refl _) _).grown hgrow (by simp) (by intro k hk; simp [Value.ownBlock] at hk; omega)⟩


/-- What is asked of a predicate: it answers p in every world in which all that lay below 'base' lies unturned. -/
def PredC (g : Nat) (lb : Array Value) (p : Cac → Bool) (base : Nat) (w : World) : Prop :=
  ∀ (W : World) (x : Cac), Below base w W → Calls Try.prog g (#[.agg #[.int .i64 x.p, .int .i64 x.g, .int .i64 x.k, .int .i64 x.n]] ++ lb) W fun e w' => e = .returned (.bool (p x)) ∧ Below W.heap.size W w'
theorem PredC.on {g : Nat} {lb : Array Value} {p : Cac → Bool} {base : Nat} {w W : World} (h : PredC g lb p base w) (hb : Below base w W) : PredC g lb p base W := fun V x hv => h V x (hb.trans hv)
def idxOf {α : Type} (p : α → Bool) (xs : List α) : Int := if xs.findIdx p < xs.length then (xs.findIdx p : Int) else -1
set_option maxHeartbeats 2000000 in
theorem indexFunc_C (g : Nat) (lb : Array Value) (eg : ∀ args w, (callFunc g args).run Try.prog w = .ok (.enter g args) w) (p : Cac → Bool) (A : Option Addr) (n c : Nat) (xs : List Cac) (w : World) (B base : Nat) (hz : Rw fC 4 w B A n xs) (hB : B ≤ w.heap.size) (hbase : base ≤ w.heap.size) (hbig : n ≤ 140737488355328)
    (hp : PredC g lb p base w) : Calls Try.prog 34 #[.slice A n c, .func (.func g) #[] lb] w fun e w' => e = .returned (.int .i64 (idxOf p xs)) ∧ Below w.heap.size w w' := by
  have hln := hz.1
  have H1 := Lib.hid (fun (i : Nat) (x : Cac) (h : xs[i]? = some x) (hi : i < xs.findIdx p) => (by
    have hl := (List.getElem?_eq_some_iff.1 h).1
    have := List.not_of_lt_findIdx hi
    rw [(List.getElem?_eq_some_iff.1 h).2] at this
    simpa using this : p x = false))
  have H2 := Lib.hid (fun (x : Cac) (h : xs[xs.findIdx p]? = some x) => (by
    have hl := (List.getElem?_eq_some_iff.1 h).1
    have := List.findIdx_getElem (w := hl)
    rw [(List.getElem?_eq_some_iff.1 h).2] at this
    exact this : p x = true))
  have hfl : xs.findIdx p ≤ n := by rw [← hln]; exact List.findIdx_le_length
  have HI : Hid (idxOf p xs = if xs.findIdx p < n then (xs.findIdx p : Int) else -1) := Lib.hid (by unfold idxOf; rw [hln])
  have HX := Lib.hid (fun (i : Nat) (hi : i < n) => (⟨xs[i]'(by omega), List.getElem?_eq_getElem _⟩ : ∃ x, xs[i]? = some x))
  generalize xs.findIdx p = m at *
  have HZ := Lib.hid hz
  have HP := Lib.hid hp
  clear hz hp hln
  rcases Nat.eq_zero_or_pos n with h0 | h0
  · subst h0
    go_enter Try.func34, Try.ntmps34
    go_wp2
    go_loop [5, 8] (fun _ i => i = .int .i64 0) (fun _ i => 1 - (intOf i).toNat)
    case atStart => exact rfl
    case round =>
      subst hrel
      go_wp2
      go_ret
      exact ⟨ret_i (by rw [HI.out, if_neg (by omega)]), Below.refl _ _⟩
  · obtain ⟨b, off, rfl, hb⟩ := HZ.out.open h0
    go_enter Try.func34, Try.ntmps34
    go_wp2
    go_loopw [5, 8] (fun _ i wr => ∃ k : Nat, k ≤ m ∧ i = .int .i64 k ∧ Hid (Below w.heap.size w wr)) (fun _ i _ => n - (intOf i).toNat)
    case atStart => exact ⟨0, by omega, rfl, Lib.hid (Below.refl _ _)⟩
    case round =>
      obtain ⟨k, hk, rfl, HB⟩ := hrel
      by_cases hlt : k < n
      · obtain ⟨x, hx⟩ := HX.out k hlt
        have hc := (HZ.out.below (HB.out.mono hB)).at_ fC_len hx
        have c0 : wr.cell? ⟨b, off + k * 4, none⟩ = some (.int .i64 x.p) := hc 0 _ rfl
        have c1 : wr.cell? ⟨b, off + k * 4 + 1, none⟩ = some (.int .i64 x.g) := hc 1 _ rfl
        have c2 : wr.cell? ⟨b, off + k * 4 + 2, none⟩ = some (.int .i64 x.k) := hc 2 _ rfl
        have c3 : wr.cell? ⟨b, off + k * 4 + 3, none⟩ = some (.int .i64 x.n) := hc 3 _ rfl
        have hcall := HP.out wr x (HB.out.mono hbase)
        by_cases hm : k < m
        · have hpx := H1.out k x hx hm
          rw [hpx] at hcall
          have HX2 := Lib.hid hx
          clear hx hc hpx
          go_wp2_with (go_at_fn g; refine hcall.mono ?_; rintro e w' ⟨rfl, hb'⟩)
          go_roundw
          case rel => exact ⟨k + 1, by omega, by go_num, Lib.hid (HB.out.trans (hb'.mono HB.out.size))⟩
          case measure => simp [intOf]; omega
        · have hkm : k = m := by omega
          subst hkm
          have hpx := H2.out x hx
          rw [hpx] at hcall
          have HX2 := Lib.hid hx
          clear hx hc hpx
          go_wp2_with (go_at_fn g; refine hcall.mono ?_; rintro e w' ⟨rfl, hb'⟩)
          go_ret
          exact ⟨ret_i (by rw [HI.out, if_pos hlt]), HB.out.trans (hb'.mono HB.out.size)⟩
      · have hkm : k = m := by omega
        subst hkm
        go_wp2
        go_ret
        exact ⟨ret_i (by rw [HI.out, if_neg hlt]), HB.out⟩

theorem idxOf_nonneg {α : Type} (p : α → Bool) (xs : List α) : (decide (0 ≤ idxOf p xs)) = xs.any p := by
  unfold idxOf
  rw [Bool.eq_iff_iff, decide_eq_true_eq, List.any_eq_true]
  split
  · rename_i h
    exact ⟨fun _ => List.findIdx_lt_length.1 h, fun _ => by omega⟩
  · rename_i h
    exact ⟨fun h2 => by omega, fun h2 => absurd (List.findIdx_lt_length.2 h2) h⟩
set_option maxHeartbeats 2000000 in
theorem containsFunc_C (g : Nat) (lb : Array Value) (eg : ∀ args w, (callFunc g args).run Try.prog w = .ok (.enter g args) w) (p : Cac → Bool) (A : Option Addr) (n c : Nat) (xs : List Cac) (w : World) (B base : Nat) (hz : Rw fC 4 w B A n xs) (hB : B ≤ w.heap.size) (hbase : base ≤ w.heap.size) (hbig : n ≤ 140737488355328)
    (hp : PredC g lb p base w) : Calls Try.prog 16 #[.slice A n c, .func (.func g) #[] lb] w fun e w' => e = .returned (.bool (xs.any p)) ∧ Below w.heap.size w w' := by
  have hcall := indexFunc_C g lb eg p A n c xs w B base hz hB hbase hbig hp
  have HI := Lib.hid (idxOf_nonneg p xs)
  clear hz hp
  generalize idxOf p xs = i at *
  go_enter Try.func16, Try.ntmps16
  go_wp2_with (go_at_call 34; refine hcall.mono ?_; rintro e w' ⟨rfl, hb'⟩)
  all_goals
    go_ret
    exact ⟨ret_b (by rw [← HI.out]), hb'⟩


set_option maxHeartbeats 4000000 in
set_option maxRecDepth 100000 in
theorem deleteFunc_C (g : Nat) (lb : Array Value) (eg : ∀ args w, (callFunc g args).run Try.prog w = .ok (.enter g args) w) (p : Cac → Bool) (v : Value) (xs : List Cac) (w : World) (base : Nat) (ho : Os fC 4 27 w base v xs) (hbase : base ≤ w.heap.size) (hbig : xs.length ≤ 140737488355328)
    (hp : PredC g lb p base w) : Calls Try.prog 14 #[v, .func (.func g) #[] lb] w (Gives fC 4 27 base w (xs.filter fun x => !p x)) := by
  have HIX := Lib.hid (fun A c (hz : Rw fC 4 w w.heap.size A xs.length xs) => indexFunc_C g lb eg p A xs.length c xs w w.heap.size base hz (Nat.le_refl _) hbase hbig hp)
  have HP := Lib.hid hp
  clear hp
  rcases ho with ⟨h1, ⟨rfl, h0⟩ | ⟨gb, cap, cur, rfl, hg, hh, hn, hm, hz, hx⟩⟩
  · obtain rfl := List.eq_nil_of_length_eq_zero h0
    have hcall := HIX.out none 0 Rw.nil
    clear HIX h1 h0
    go_enter Try.func14, Try.ntmps14
    go_wp2_with (go_at_call 34; refine hcall.mono ?_; rintro e w' ⟨rfl, hb'⟩)
    go_ret
    exact ⟨_, rfl, Os.nil, hb'.mono hbase⟩
  · have ho : Os fC 4 27 w base (.slice (some ⟨gb, 0, none⟩) xs.length cap) xs := ⟨h1, .inr ⟨gb, cap, cur, rfl, hg, hh, hn, hm, hz, hx⟩⟩
    have hgl := blk_lt hh
    clear h1 hh hz hx
    obtain ⟨A0, c0, e0, _, _, hr⟩ := ho.row fC_len
    injection e0 with e1 e2 e3
    subst e1 e3
    clear e2
    have hcall := HIX.out _ cap hr
    clear HIX hr
    by_cases hlt : xs.findIdx p < xs.length
    · have HIO : Hid (idxOf p xs = ((xs.findIdx p : Nat) : Int)) := Lib.hid (by unfold idxOf; rw [if_pos hlt])
      rw [HIO.out] at hcall
      have HD := Lib.hid (DelInv.start (List.getElem?_eq_getElem hlt))
      have HX := Lib.hid (fun (i : Nat) (hi : i < xs.length) => (⟨xs[i]'(by omega), List.getElem?_eq_getElem _⟩ : ∃ x, xs[i]? = some x))
      have HO := Lib.hid ho
      clear ho HIO
      generalize xs.findIdx p = m at *
      have hne : (((m : Nat) : Int) == -1) = false := by simp
      go_enter Try.func14, Try.ntmps14
      go_wp2_with (go_at_call 34; refine hcall.mono ?_; rintro e w1 ⟨rfl, hb1⟩)
      go_loopw [5, 6] (fun i j wr => ∃ (ki kj : Nat) (ys : List Cac), i = .int .i64 ki ∧ j = .int .i64 kj ∧ ki < kj ∧ kj ≤ xs.length ∧ Hid (DelInv p xs ki kj ys) ∧ Hid (Os fC 4 27 wr base (.slice (some ⟨gb, 0, none⟩) xs.length cap) ys) ∧ Hid (Below base w wr) ∧ gb < wr.heap.size) (fun _ j _ => xs.length - (intOf j).toNat)
      case atStart => exact ⟨m, m + 1, xs, rfl, by go_num, by omega, by omega, HD, Lib.hid (HO.out.below hb1 (Nat.le_refl _)), Lib.hid (hb1.mono hbase), by have := hb1.size; omega⟩
      case round =>
        obtain ⟨ki, kj, ys, rfl, rfl, hij, hjn, HJ, HOr, HB, hgr⟩ := hrel
        by_cases hlt2 : kj < xs.length
        · obtain ⟨x, hx⟩ := HX.out kj hlt2
          have hy := HJ.out.at_ hx
          have hcs := HOr.out.cells fC_len hy
          have c0 : wr.cell? ⟨gb, kj * 4, none⟩ = some (.int .i64 x.p) := (hcs 0 _ rfl).1
          have c1 : wr.cell? ⟨gb, kj * 4 + 1, none⟩ = some (.int .i64 x.g) := (hcs 1 _ rfl).1
          have c2 : wr.cell? ⟨gb, kj * 4 + 2, none⟩ = some (.int .i64 x.k) := (hcs 2 _ rfl).1
          have c3 : wr.cell? ⟨gb, kj * 4 + 3, none⟩ = some (.int .i64 x.n) := (hcs 3 _ rfl).1
          obtain ⟨old, hold⟩ : ∃ y, ys[ki]? = some y := ⟨ys[ki]'(by have := HJ.out.len; omega), List.getElem?_eq_getElem _⟩
          have HXX := Lib.hid hx
          have HYY := Lib.hid hold
          clear hx hy hcs hold
          have hbw := HB.out.size
          go_wp2_with fail
          refine (HP.out _ x (HB.out.alloc (by omega) _)).mono ?_
          rintro e w2 ⟨rfl, hb2⟩
          have hW := ((Below.refl wr.heap.size wr).alloc (Nat.le_refl _) (.cells #[.int .i64 x.p, .int .i64 x.g, .int .i64 x.k, .int .i64 x.n] 27)).trans (hb2.mono (by simp))
          have HO2 := Lib.hid (HOr.out.below hW (Nat.le_refl _))
          have HB2 := Lib.hid (HB.out.trans (hW.mono (by omega)))
          obtain ⟨hbc, hbf⟩ := bcell hb2
          have hsz2 : wr.heap.size < w2.heap.size := by have := hb2.size; simp at this; omega
          cases hq : p x with
          | true =>
            have HQ := Lib.hid hq
            clear hq
            go_wp2
            go_roundw
            case rel => exact ⟨ki, kj + 1, ys, rfl, by go_num, by omega, by omega, Lib.hid (HJ.out.skip HXX.out HQ.out), HO2, HB2, by omega⟩
            case measure => simp [intOf]; omega
          | false =>
            have HQ := Lib.hid hq
            clear hq
            have hco := HO2.out.cells fC_len HYY.out
            have o0 : w2.cell? ⟨gb, ki * 4, none⟩ = some (.int .i64 old.p) := (hco 0 _ rfl).1
            have f0 : w2.frozen? ⟨gb, ki * 4, none⟩ = false := (hco 0 _ rfl).2
            have o1 : w2.cell? ⟨gb, ki * 4 + 1, none⟩ = some (.int .i64 old.g) := (hco 1 _ rfl).1
            have f1 : w2.frozen? ⟨gb, ki * 4 + 1, none⟩ = false := (hco 1 _ rfl).2
            have o2 : w2.cell? ⟨gb, ki * 4 + 2, none⟩ = some (.int .i64 old.k) := (hco 2 _ rfl).1
            have f2 : w2.frozen? ⟨gb, ki * 4 + 2, none⟩ = false := (hco 2 _ rfl).2
            have o3 : w2.cell? ⟨gb, ki * 4 + 3, none⟩ = some (.int .i64 old.n) := (hco 3 _ rfl).1
            have f3 : w2.frozen? ⟨gb, ki * 4 + 3, none⟩ = false := (hco 3 _ rfl).2
            clear hco
            have hkn : ki < xs.length := by omega
            have b0 : w2.cell? ⟨wr.heap.size, 0, none⟩ = some (.int .i64 x.p) := by rw [hbc _ _ (by simp)]; simp [go_sem]
            have b1 : w2.cell? ⟨wr.heap.size, 1, none⟩ = some (.int .i64 x.g) := by rw [hbc _ _ (by simp)]; simp [go_sem]
            have b2 : w2.cell? ⟨wr.heap.size, 2, none⟩ = some (.int .i64 x.k) := by rw [hbc _ _ (by simp)]; simp [go_sem]
            have b3 : w2.cell? ⟨wr.heap.size, 3, none⟩ = some (.int .i64 x.n) := by rw [hbc _ _ (by simp)]; simp [go_sem]
            clear hbc hbf hb2
            go_wp2
            go_roundw
            case rel =>
              have HS := HO2.out.set fC_len (by decide) (i := ki) (by have := HJ.out.len; omega) x
              exact ⟨ki + 1, kj + 1, ys.set ki x, by go_num, by go_num, by omega, by omega, Lib.hid (HJ.out.keep HXX.out HQ.out), Lib.hid HS, Lib.hid (below_setCells hg (fC x) (ki * 4) _ HB2.out), (by simp; omega)⟩
            case measure => simp [intOf]; omega
        · have hjn2 : kj = xs.length := by omega
          have hin : ki < xs.length := by omega
          have hic : ki < cap := by omega
          obtain ⟨w', hcl, hw1, hw2, hw3⟩ := HOr.out.clear (c' := cap - ki) fC_len (by decide) Try.underlying22 Try.zeroValue27 (by decide) (by decide) hin
          have HW := Lib.hid hw2
          have HW3 := Lib.hid hw3
          clear hw1 hw2 hw3
          go_wp2
          go_ret
          have HJ2 := HJ.out
          rw [hjn2] at HJ2
          exact ⟨_, rfl, by rw [← HJ2.done]; exact HW3.out, HW.out _ _ hg HB.out⟩
    · have HIO : Hid (idxOf p xs = -1) := Lib.hid (by unfold idxOf; rw [if_neg hlt])
      rw [HIO.out] at hcall
      have HF := Lib.hid (filter_none hlt)
      have HO := Lib.hid ho
      clear ho HIO hlt
      go_enter Try.func14, Try.ntmps14
      go_wp2_with (go_at_call 34; refine hcall.mono ?_; rintro e w' ⟨rfl, hb'⟩)
      go_ret
      exact ⟨_, rfl, by rw [HF.out]; exact HO.out.below hb' (Nat.le_refl _), hb'.mono hbase⟩


set_option maxHeartbeats 2000000 in
set_option maxRecDepth 100000 in
theorem equal_C (A1 A2 : Option Addr) (n1 c1 n2 c2 : Nat) (xs ys : List Cac) (w : World) (B : Nat) (h1 : Rw fC 4 w B A1 n1 xs) (h2 : Rw fC 4 w B A2 n2 ys) (hB : B ≤ w.heap.size) (m1 : n1 ≤ 140737488355328) (m2 : n2 ≤ 140737488355328) :
    Calls Try.prog 10 #[.slice A1 n1 c1, .slice A2 n2 c2] w fun e w' => e = .returned (.bool (sameL eqC xs ys)) ∧ Below w.heap.size w w' := by
  have l1 := h1.1
  have l2 := h2.1
  by_cases hn : n1 = n2
  · subst hn
    have HA := Lib.hid (sameL_all eqC xs ys (by omega))
    have HN := Lib.hid (sameL_ne eqC xs ys)
    have HX := Lib.hid (fun (i : Nat) (hi : i < n1) => (⟨xs[i]'(by omega), List.getElem?_eq_getElem _⟩ : ∃ x, xs[i]? = some x))
    have HY := Lib.hid (fun (i : Nat) (hi : i < n1) => (⟨ys[i]'(by omega), List.getElem?_eq_getElem _⟩ : ∃ y, ys[i]? = some y))
    have HL := Lib.hid l1
    clear l1 l2
    generalize sameL eqC xs ys = r at *
    have H1 := Lib.hid h1
    have H2 := Lib.hid h2
    clear h1 h2
    rcases Nat.eq_zero_or_pos n1 with h0 | h0
    · subst h0
      have hx : ((0 : Int) != 0) = false := rfl
      go_enter Try.func10, Try.ntmps10
      go_wp2
      go_loop [13] (fun i => i = .int .i64 0) (fun i => 1 - (intOf i).toNat)
      case atStart => exact rfl
      case round =>
        subst hrel
        go_wp2
        go_ret
        exact ⟨ret_b (HA.out fun k x y hk _ _ => by have := HL.out; omega).symm, Below.refl _ _⟩
    · obtain ⟨b1, o1, rfl, _⟩ := H1.out.open h0
      obtain ⟨b2, o2, rfl, _⟩ := H2.out.open h0
      go_enter Try.func10, Try.ntmps10
      go_wp2
      go_loopw [13] (fun i wr => ∃ k : Nat, k ≤ n1 ∧ i = .int .i64 k ∧ Hid (Below w.heap.size w wr) ∧ Hid (∀ j x y, j < k → xs[j]? = some x → ys[j]? = some y → eqC x y = true)) (fun i _ => n1 - (intOf i).toNat)
      case atStart => exact ⟨0, by omega, rfl, Lib.hid (Below.refl _ _), Lib.hid (fun j x y hj => absurd hj (Nat.not_lt_zero _))⟩
      case round =>
        obtain ⟨k, hk, rfl, HB, HS⟩ := hrel
        by_cases hlt : k < n1
        · obtain ⟨x, hx⟩ := HX.out k hlt
          obtain ⟨y, hy⟩ := HY.out k hlt
          have hcx := (H1.out.below (HB.out.mono hB)).at_ fC_len hx
          have hcy := (H2.out.below (HB.out.mono hB)).at_ fC_len hy
          have x0 : wr.cell? ⟨b1, o1 + k * 4, none⟩ = some (.int .i64 x.p) := hcx 0 _ rfl
          have x1 : wr.cell? ⟨b1, o1 + k * 4 + 1, none⟩ = some (.int .i64 x.g) := hcx 1 _ rfl
          have x2 : wr.cell? ⟨b1, o1 + k * 4 + 2, none⟩ = some (.int .i64 x.k) := hcx 2 _ rfl
          have x3 : wr.cell? ⟨b1, o1 + k * 4 + 3, none⟩ = some (.int .i64 x.n) := hcx 3 _ rfl
          have y0 : wr.cell? ⟨b2, o2 + k * 4, none⟩ = some (.int .i64 y.p) := hcy 0 _ rfl
          have y1 : wr.cell? ⟨b2, o2 + k * 4 + 1, none⟩ = some (.int .i64 y.g) := hcy 1 _ rfl
          have y2 : wr.cell? ⟨b2, o2 + k * 4 + 2, none⟩ = some (.int .i64 y.k) := hcy 2 _ rfl
          have y3 : wr.cell? ⟨b2, o2 + k * 4 + 3, none⟩ = some (.int .i64 y.n) := hcy 3 _ rfl
          have hk0 : (0 : Int) ≤ (k : Int) := by omega
          have hkn : (k : Int) < (n1 : Int) := by omega
          have HXX := Lib.hid hx
          have HYY := Lib.hid hy
          clear hx hy hcx hcy
          have heq : ∀ w, (Op.equalIn 10000 27 (.agg #[.int .i64 x.p, .int .i64 x.g, .int .i64 x.k, .int .i64 x.n]) (.agg #[.int .i64 y.p, .int .i64 y.g, .int .i64 y.k, .int .i64 y.n])).run Try.prog w = .ok (eqC x y) w := run_eqCd 9997 x y
          cases hq : eqC x y with
          | true =>
            rw [hq] at heq
            have HQ := Lib.hid hq
            clear hq
            go_wp2
            go_quiet (fail)
            go_wp2
            go_roundw
            case rel =>
              refine ⟨k + 1, by omega, by go_num, Lib.hid (HB.out.trans (below_drewN _ _ _)), Lib.hid (fun j x' y' hj h1 h2 => ?_)⟩
              by_cases e : j = k
              · subst e
                rw [HXX.out] at h1
                rw [HYY.out] at h2
                cases h1; cases h2; exact HQ.out
              · exact HS.out j x' y' (by omega) h1 h2
            case measure => simp [intOf]; omega
          | false =>
            rw [hq] at heq
            have HQ := Lib.hid hq
            clear hq
            go_wp2
            go_quiet (fail)
            go_wp2
            go_ret
            exact ⟨ret_b (HN.out k x y HXX.out HYY.out HQ.out).symm, HB.out.trans (below_drewN _ _ _)⟩
        · have hkm : k = n1 := by omega
          subst hkm
          go_wp2
          go_ret
          exact ⟨ret_b (HA.out fun j x y hj h1 h2 => HS.out j x y (by have := HL.out; omega) h1 h2).symm, HB.out⟩
  · have HR := Lib.hid (sameL_len eqC xs ys (by omega))
    have hne : ((n1 : Int) != n2) = true := by rw [bne_iff_ne]; omega
    clear h1 h2 l1 l2
    generalize sameL eqC xs ys = r at *
    go_enter Try.func10, Try.ntmps10
    go_wp2
    go_ret
    exact ⟨ret_b HR.out.symm, Below.refl _ _⟩

end Go.Proofs.Ytfhcjainhpjdfaa
