/- The reference: BGive. -/
import Derived.Test.YtnbhchfpfbbngaaBdx
namespace Go.Proofs.Ytnbhchfpfbbngaa
open Go.ChangeShapes Go.WideShapes Go.ChangeAt Go.RowKit Go.Joins Go.Sort
set_option linter.unusedVariables false
set_option linter.unusedSimpArgs false
def GivesVG (w : World) (r : List Blk × Int) (e : Ending) (w' : World) : Prop := ∃ v, e = .returned (.tuple #[v, .int .i64 r.2]) ∧ Bv w' v r.1 ∧ Below w.heap.size w w'
theorem one_made (b : Blk) (w : World) : Bv (w.alloc (.cells #[.int .i64 b.a, .int .i64 b.o] 30)) (.slice (some ⟨w.heap.size, 0, none⟩) 1 1) [b] :=
  ⟨_, 1, 1, rfl, ⟨rfl, by decide, fun _ => ⟨w.heap.size, 0, rfl, by simp, fun i x hx j v hv => by
    have hi : i = 0 := by have := (List.getElem?_eq_some_iff.1 hx).1; simpa using this
    subst hi
    simp at hx; subst hx
    have := alloc_cells (vs := fB b) (W := w) (T := 30) j v hv
    rw [addr_add, Nat.zero_add] at this
    have e : 0 + 0 * 2 + j = j := by omega
    rw [e]; exact this⟩⟩, by omega⟩
theorem bf_one {b : Blk} : BfP [b] ↔ okB b = true := by simp [BfP]
theorem covB_one (b : Blk) (n : Nat) : covB [b] n = inBB b n := by simp [covB]
theorem meets_hit {l : List Blk} {b : Blk} {n : Nat} (h1 : inBB b n = true) (h2 : covB l n = true) : meets l b = true := by
  cases h : meets l b with
  | true => rfl
  | false => exact absurd (covB_iff.1 h2) (meets_cov.1 h n (inBB_iff.1 h1))
theorem meets_miss {l : List Blk} {b : Blk} (hb : okB b = true) (h : ∀ n, n < 64 → (inBB b n && covB l n) = false) : meets l b = false := by
  refine meets_cov.2 fun n hn hc => ?_
  obtain ⟨h1, h2, _⟩ := okB_cases hb
  have hn0 : 0 ≤ n ∧ n < 64 := by unfold inB at hn; omega
  have := h n.toNat (by omega)
  have e : ((n.toNat : Nat) : Int) = n := by omega
  rw [Bool.and_eq_false_iff, ← Bool.not_eq_true, ← Bool.not_eq_true, inBB_iff, covB_iff, e] at this
  rcases this with h | h
  · exact h hn
  · exact h hc
set_option maxHeartbeats 8000000 in
set_option maxRecDepth 100000 in
theorem bgive_v {w : World} {v : Value} {xs : List Blk} (h : Bv w v xs) (b : Blk) : Calls Try.prog 18 #[v, .agg #[.int .i64 b.a, .int .i64 b.o]] w (GivesVG w (giveS xs b)) := by
  have HW0 := Lib.hid ((Below.refl w.heap.size w).alloc (Nat.le_refl _) (.cells #[.int .i64 b.a, .int .i64 b.o] 30))
  have hbr := bright_v (h.below HW0.out)
  have HV := Lib.hid h
  have HBB := Lib.hid (fun (W : World) (g : Nat) (fl : Nat → Bool) (h : Fr W g fl) => bblocks_v h)
  have HTS := Lib.hid (giveS_eq xs b)
  cases hr : rightB xs with
  | false =>
    rw [hr] at hbr
    have HRES : Hid (giveS xs b = ([], 1)) := Lib.hid (by rw [HTS.out, hr]; rfl)
    clear HTS h hr
    generalize giveS xs b = rs at *
    go_enter Try.func18, Try.ntmps18
    go_wp2_with (go_at_call 19; refine hbr.mono ?_; rintro e w1 ⟨rfl, hb1⟩)
    have KB1 := Lib.hid (HW0.out.trans (hb1.mono (by simp)))
    clear hb1 hbr
    go_ret2
    exact ⟨_, by rw [HRES.out]; rfl, by rw [HRES.out]; exact Bv.nil, KB1.out⟩
  | true =>
    rw [hr] at hbr
    have HRP := Lib.hid (right_rp hr)
    have HF1 := Lib.hid (fun (W : World) => bfree_v (one_made b W))
    have HF2 := Lib.hid (fun (W : World) (hb : Below w.heap.size w W) => bfree_v (HV.out.below hb))
    cases hok : okB b with
    | false =>
      have HRES : Hid (giveS xs b = ([], 2)) := Lib.hid (by rw [HTS.out, hr, hok]; rfl)
      have HF1' : Hid (∀ W : World, Calls Try.prog 38 #[.slice (some ⟨W.heap.size, 0, none⟩) 1 1] (W.alloc (.cells #[.int .i64 b.a, .int .i64 b.o] 30)) fun e w' => e = .returned (.tuple #[.slice none 0 0, .bool false]) ∧ Below W.heap.size W w') := Lib.hid (fun W => (HF1.out W).mono fun e w' h => by
        rcases h with ⟨h, _⟩ | ⟨_, h1, h2⟩
        · rw [bf_one, hok] at h; cases h
        · exact ⟨h1, ((Below.refl _ _).alloc (Nat.le_refl _) _).trans (h2.mono (by simp))⟩)
      clear HTS h hr hok HF1 HF2
      generalize giveS xs b = rs at *
      go_enter Try.func18, Try.ntmps18
      go_wp2_with (first
        | (go_at_call 38; refine (HF1'.out w1).mono ?_; rintro e w2 ⟨rfl, hb2⟩)
        | (go_at_call 19
           refine hbr.mono ?_
           rintro e w1 ⟨rfl, hb1⟩
           have KB1 := Lib.hid (HW0.out.trans (hb1.mono (by simp)))
           have d0 : w1.cell? ⟨w.heap.size, 0, none⟩ = some (.int .i64 b.a) := by rw [hb1.cell (p := ⟨w.heap.size, 0, none⟩) (by simp)]; simp [go_sem]
           have d1 : w1.cell? ⟨w.heap.size, 1, none⟩ = some (.int .i64 b.o) := by rw [hb1.cell (p := ⟨w.heap.size, 1, none⟩) (by simp)]; simp [go_sem]
           clear hb1 hbr))
      have KB2 := Lib.hid (KB1.out.trans (hb2.mono KB1.out.size))
      clear hb2 d0 d1
      go_ret2
      exact ⟨_, by rw [HRES.out]; rfl, by rw [HRES.out]; exact Bv.nil, KB2.out⟩
    | true =>
      have HT2 : Hid (meets xs b = true → giveS xs b = ([], 7)) := Lib.hid (fun h2 => by rw [HTS.out, hr, hok, h2]; rfl)
      have HT3 : Hid (meets xs b = false → giveS xs b = (giveC xs b, 0)) := Lib.hid (fun h2 => by rw [HTS.out, hr, hok, h2]; rfl)
      have HOK := Lib.hid hok
      have HF1' : Hid (∀ W : World, Calls Try.prog 38 #[.slice (some ⟨W.heap.size, 0, none⟩) 1 1] (W.alloc (.cells #[.int .i64 b.a, .int .i64 b.o] 30)) fun e w' => ∃ g, e = .returned (.tuple #[.slice (some ⟨g, 0, none⟩) 64 64, .bool true]) ∧ W.heap.size ≤ g ∧ Fr w' g (inBB b) ∧ Below W.heap.size W w') := Lib.hid (fun W => (HF1.out W).mono fun e w' h => by
        rcases h with ⟨_, g, h1, h2, h3, h4⟩ | ⟨h, _⟩
        · exact ⟨g, h1, by simp at h2; omega, h3.congr fun i _ => covB_one b i, ((Below.refl _ _).alloc (Nat.le_refl _) _).trans (h4.mono (by simp))⟩
        · exact absurd (bf_one.2 HOK.out) h)
      have HF2' : Hid (∀ W : World, Below w.heap.size w W → Calls Try.prog 38 #[v] W fun e w' => ∃ g, e = .returned (.tuple #[.slice (some ⟨g, 0, none⟩) 64 64, .bool true]) ∧ W.heap.size ≤ g ∧ Fr w' g (covB xs) ∧ Below W.heap.size W w') := Lib.hid (fun W hb => (HF2.out W hb).mono fun e w' h => by
        rcases h with ⟨_, h⟩ | ⟨h, _⟩
        · exact h
        · exact absurd ⟨HRP.out.1, HRP.out.2.1⟩ h)
      clear HTS h hr hok HF1 HF2
      generalize giveS xs b = rs at *
      go_enter Try.func18, Try.ntmps18
      go_wp2_with (first
        | (go_at_call 38; with_reducible refine (HF1'.out w1).mono ?_
           rintro e w2 ⟨g1, rfl, hg1, hf1, hb2⟩
           have G1 := Lib.hid hf1
           have KB2 := Lib.hid (KB1.out.trans (hb2.mono KB1.out.size))
           clear hf1 hg1 hb2 d0 d1)
        | (go_at_call 38; with_reducible refine (HF2'.out w2 KB2.out).mono ?_
           rintro e w3 ⟨g2, rfl, hg2, hf2, hb3⟩
           have G2 := Lib.hid hf2
           have hgl := G1.out.lt
           have G13 := Lib.hid (G1.out.below hb3 hgl)
           have KB3 := Lib.hid (KB2.out.trans (hb3.mono KB2.out.size))
           have hne : ¬ (g1 = g2) := by omega
           clear hf2 hb3)
        | (go_at_call 19
           refine hbr.mono ?_
           rintro e w1 ⟨rfl, hb1⟩
           have KB1 := Lib.hid (HW0.out.trans (hb1.mono (by simp)))
           have d0 : w1.cell? ⟨w.heap.size, 0, none⟩ = some (.int .i64 b.a) := by rw [hb1.cell (p := ⟨w.heap.size, 0, none⟩) (by simp)]; simp [go_sem]
           have d1 : w1.cell? ⟨w.heap.size, 1, none⟩ = some (.int .i64 b.o) := by rw [hb1.cell (p := ⟨w.heap.size, 1, none⟩) (by simp)]; simp [go_sem]
           clear hb1 hbr))
      have hgz2 : w.heap.size ≤ g2 := by have := KB2.out.size; omega
      have hgz1 : ¬ (g2 = g1) := fun e => hne e.symm
      clear hg2
      go_loopw [30] (fun i wr => ∃ k : Nat, k ≤ 64 ∧ i = .int .i64 k ∧ Hid (Fr wr g1 (inBB b)) ∧ Hid (Fr wr g2 (fun m => covB xs m || (decide (m < k) && inBB b m))) ∧ Hid (∀ m, m < k → (inBB b m && covB xs m) = false) ∧ Hid (Below w.heap.size w wr)) (fun i _ => 64 - (intOf i).toNat)
      case atStart => exact ⟨0, by omega, rfl, G13, Lib.hid (G2.out.congr fun i hi => by simp), Lib.hid (fun m hm => absurd hm (Nat.not_lt_zero _)), KB3⟩
      case round =>
        obtain ⟨k, hk, rfl, HG1, HG2, HN, HB⟩ := hrel
        by_cases hlt : k < 64
        · have c1 := HG1.out.at_ k hlt
          have c2 := HG2.out.at_ k hlt
          have c3 := HG2.out.free k hlt
          have hk64 : (k : Int) < 64 := by omega
          have hk0 : (0 : Int) ≤ (k : Int) := by omega
          simp only [Nat.lt_irrefl, decide_false, Bool.false_and, Bool.or_false] at c2
          have HCX := Lib.hid (fun (h1 : inBB b k = true) (h2 : covB xs k = true) => meets_hit h1 h2)
          have HBX := Lib.hid (fun (x y : Bool) (hx : inBB b k = x) (hy : covB xs k = y) (hxy : (x && y) = false) => (show ∀ m, m < k + 1 → (inBB b m && covB xs m) = false from fun m hm => by
            by_cases e : m = k
            · subst e; rw [hx, hy]; exact hxy
            · exact HN.out m (by omega)))
          have HFX := Lib.hid (fun (x y : Bool) (hx : inBB b k = x) (hy : covB xs k = y) => (HG2.out.set hlt (y || x)).congr (fl' := fun m => covB xs m || (decide (m < k + 1) && inBB b m)) fun i hi => by
            unfold upd
            by_cases e : i = k
            · subst e; rw [if_pos rfl, hx, hy, decide_eq_true (Nat.lt_succ_self _), Bool.true_and]
            · rw [if_neg e]
              show (covB xs i || (decide (i < k) && inBB b i)) = (covB xs i || (decide (i < k + 1) && inBB b i))
              rw [show decide (i < k) = decide (i < k + 1) from decide_eq_decide.2 (by omega)])
          have HG1' := Lib.hid (fun (x : Bool) => (show Fr (wr.setCell ⟨g2, k, none⟩ (.bool x)) g1 (inBB b) from ⟨fun i hi => by
              have := HG1.out.at_ i hi
              simp [go_sem, this, hne], fun i hi => by
              have := HG1.out.free i hi
              simp [go_sem, this]⟩))
          obtain ⟨x, hx⟩ : ∃ x, x = inBB b k := ⟨_, rfl⟩
          obtain ⟨y, hy⟩ : ∃ y, y = covB xs k := ⟨_, rfl⟩
          rw [← hx] at c1
          rw [← hy] at c2
          have HX := Lib.hid hx.symm
          have HY := Lib.hid hy.symm
          clear hx hy
          cases x with
          | true =>
            cases y with
            | true =>
              have HRES := Lib.hid (HT2.out (HCX.out HX.out HY.out))
              go_wp2
              go_ret2
              exact ⟨_, by rw [HRES.out]; rfl, by rw [HRES.out]; exact Bv.nil, HB.out⟩
            | false =>
              go_wp2
              go_roundw
              case rel => exact ⟨k + 1, by omega, by go_num, Lib.hid (HG1'.out _), Lib.hid (HFX.out true false HX.out HY.out), Lib.hid (HBX.out _ _ HX.out HY.out rfl), Lib.hid (HB.out.setCell (p := ⟨g2, k, none⟩) hgz2 _)⟩
              case measure => simp [intOf]; omega
          | false =>
            cases y with
            | true =>
              go_wp2
              go_roundw
              case rel => exact ⟨k + 1, by omega, by go_num, Lib.hid (HG1'.out _), Lib.hid (HFX.out false true HX.out HY.out), Lib.hid (HBX.out _ _ HX.out HY.out rfl), Lib.hid (HB.out.setCell (p := ⟨g2, k, none⟩) hgz2 _)⟩
              case measure => simp [intOf]; omega
            | false =>
              go_wp2
              go_roundw
              case rel => exact ⟨k + 1, by omega, by go_num, Lib.hid (HG1'.out _), Lib.hid (HFX.out false false HX.out HY.out), Lib.hid (HBX.out _ _ HX.out HY.out rfl), Lib.hid (HB.out.setCell (p := ⟨g2, k, none⟩) hgz2 _)⟩
              case measure => simp [intOf]; omega
        · have hk64 : k = 64 := by omega
          subst hk64
          have HRES := Lib.hid (HT3.out (meets_miss HOK.out HN.out))
          have HCE : Hid (canon (fun m => covB xs m || (decide (m < 64) && inBB b m)) = giveC xs b) := Lib.hid (canon_congr fun m hm => by simp [hm])
          have hbb := HBB.out wr g2 _ HG2.out
          rw [HCE.out] at hbb
          go_wp2_with (go_at_call 39; refine hbb.mono ?_; rintro e w4 ⟨v4, rfl, hv4, hb4⟩)
          have HV4 := Lib.hid hv4
          have HB4 := Lib.hid (HB.out.trans (hb4.mono HB.out.size))
          clear hv4 hb4 hbb
          go_ret2
          exact ⟨_, by rw [HRES.out]; rfl, by rw [HRES.out]; exact HV4.out, HB4.out⟩
end Go.Proofs.Ytnbhchfpfbbngaa
