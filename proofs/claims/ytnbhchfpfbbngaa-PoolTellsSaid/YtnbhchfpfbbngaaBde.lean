/- The reference: which frames are free. -/
import Derived.Test.YtnbhchfpfbbngaaBdm
namespace Go.Proofs.Ytnbhchfpfbbngaa
open Go.ChangeShapes Go.WideShapes Go.ChangeAt Go.RowKit Go.Joins Go.Sort
set_option linter.unusedVariables false
/-- 64 bools, in a block. -/
structure Fr (w : World) (g : Nat) (fl : Nat → Bool) : Prop where
  at_ : ∀ i, i < 64 → w.cell? ⟨g, i, none⟩ = some (.bool (fl i))
  free : ∀ i, i < 64 → w.frozen? ⟨g, i, none⟩ = false
theorem Fr.below {w w' : World} {g : Nat} {fl : Nat → Bool} (h : Fr w g fl) (hb : Below w.heap.size w w') (hg : g < w.heap.size) : Fr w' g fl :=
  ⟨fun i hi => (hb.cell (p := ⟨g, i, none⟩) hg).trans (h.at_ i hi), fun i hi => (hb.frozen (p := ⟨g, i, none⟩) hg).trans (h.free i hi)⟩
theorem Fr.congr {w : World} {g : Nat} {fl fl' : Nat → Bool} (h : Fr w g fl) (he : ∀ i, i < 64 → fl i = fl' i) : Fr w g fl' :=
  ⟨fun i hi => by rw [← he i hi]; exact h.at_ i hi, h.free⟩
theorem Fr.lt {w : World} {g : Nat} {fl : Nat → Bool} (h : Fr w g fl) : g < w.heap.size := lt_of_cell (h.at_ 0 (by omega))
def upd (fl : Nat → Bool) (j : Nat) (b : Bool) : Nat → Bool := fun i => if i = j then b else fl i
theorem Fr.set {w : World} {g : Nat} {fl : Nat → Bool} (h : Fr w g fl) {j : Nat} (hj : j < 64) (b : Bool) : Fr (w.setCell ⟨g, j, none⟩ (.bool b)) g (upd fl j b) := by
  have hc := h.at_ j hj
  refine ⟨fun i hi => ?_, fun i hi => ?_⟩
  · by_cases e : i = j
    · subst e
      simp [go_sem, hc, upd]
    · have := h.at_ i hi
      simp [go_sem, this, upd, e]
  · have := h.free i hi
    simp [go_sem, this]
def z64 : Array Value := madeCells (Value.bool false).cells (64 * 1)
theorem boolInfo2 : (Try.prog.info? 4).map (fun i => (i.zero, i.size, i.bytes)) = some (some (.bool false), 1, 1) := by kernel_rfl
theorem make_64 (w : World) : (Instr.makeSlice 60 (.int .i64 64) (.int .i64 64)).run Try.prog w = .ok (.slice (some ⟨w.heap.size, 0, none⟩) 64 64) (w.alloc (.cells z64 4)) := by
  obtain ⟨i0, hi, hz0, hz1, hz2⟩ := info_parts boolInfo2
  have hr := run_make (P := Try.prog) w 60 4 i0 (.bool false) Try.underlying60 hi hz0 .i64 .i64 ((64 : Nat) : Int) ((64 : Nat) : Int) (by omega) (by omega) (by rw [hz2]; decide) (by decide)
  simp only [Int.toNat_natCast, hz1] at hr
  exact hr
theorem z64_at (i : Nat) (hi : i < 64) : z64[i]? = some (.bool false) := by
  simp [z64, madeCells, Value.cells]
  exact ⟨i, by simp [hi], by simp [Nat.mod_one]⟩
theorem fr_new (w : World) : Fr (w.alloc (.cells z64 4)) w.heap.size (fun _ => false) :=
  ⟨fun i hi => by rw [World.cell?_alloc_at _ _ _ _ rfl]; exact z64_at i hi, fun i hi => by simp [go_sem]⟩
/-- Blocks that are blocks, rising. -/
def BfP (l : List Blk) : Prop := (∀ b ∈ l, okB b = true) ∧ l.Pairwise ltB
theorem BfP.snoc {l : List Blk} {x : Blk} (h : BfP l) (hx : okB x = true) (hl : ∀ p ∈ l, ltB p x) : BfP (l ++ [x]) :=
  ⟨fun b hb => by
    rcases List.mem_append.1 hb with hb | hb
    · exact h.1 b hb
    · rw [List.mem_singleton.1 hb]; exact hx, List.pairwise_append.2 ⟨h.2, by simp, fun p hp y hy => by rw [List.mem_singleton.1 hy]; exact hl p hp⟩⟩
theorem BfP.lt {l : List Blk} (h : BfP l) {i j : Nat} {p x : Blk} (hi : l[i]? = some p) (hj : l[j]? = some x) (hij : i < j) : ltB p x := by
  obtain ⟨h1, rfl⟩ := List.getElem?_eq_some_iff.1 hi
  obtain ⟨h2, rfl⟩ := List.getElem?_eq_some_iff.1 hj
  exact List.pairwise_iff_getElem.1 h.2 i j h1 h2 hij
theorem covB_snoc (l : List Blk) (x : Blk) (n : Nat) : covB (l ++ [x]) n = (covB l n || inBB x n) := by simp [covB]
theorem right_bf {l : List Blk} : rightB l = true ↔ BfP l ∧ canon (covB l) = l := by
  rw [right_iff]
  constructor
  · exact fun h => ⟨⟨h.1, h.2.1⟩, canon_eq h fun n hn => covB_iff.symm⟩
  · rintro ⟨_, h⟩
    rw [← h]; exact canon_rp _
/-- What is known of the first k blocks. -/
structure BfI (xs : List Blk) (k : Nat) (last : Int) : Prop where
  bf : BfP (xs.take k)
  la : if k = 0 then last = -1 else ∃ p, xs[k - 1]? = some p ∧ last = p.a
theorem BfI.low {xs : List Blk} {k : Nat} {last : Int} (h : BfI xs k last) {p : Blk} (hp : p ∈ xs.take k) : p.a ≤ last := by
  obtain ⟨i, hi⟩ := List.getElem?_of_mem hp
  have hik : i < k := by have := (List.getElem?_eq_some_iff.1 hi).1; simp at this; omega
  have hla := h.la
  rw [if_neg (by omega)] at hla
  obtain ⟨q, hq, rfl⟩ := hla
  have hq' : (xs.take k)[k - 1]? = some q := by rw [List.getElem?_take, if_pos (by omega)]; exact hq
  by_cases e : i = k - 1
  · subst e; rw [hi] at hq'; cases hq'; exact Int.le_refl _
  · have := h.bf.lt hi hq' (by omega)
    have := szO_pos p.o
    unfold ltB at *; omega
theorem BfI.bad_last {xs : List Blk} {k : Nat} {last : Int} (h : BfI xs k last) {x : Blk} (hx : xs[k]? = some x) (hl : x.a ≤ last) : ¬ BfP xs := by
  intro hb
  have hla := h.la
  split at hla
  · obtain ⟨h1, _⟩ := okB_cases (hb.1 x (List.mem_of_getElem? hx))
    omega
  · obtain ⟨p, hp, rfl⟩ := hla
    have := hb.lt hp hx (by omega)
    have := szO_pos p.o
    unfold ltB at *; omega
theorem BfI.bad_meet {xs : List Blk} {k : Nat} {last : Int} (h : BfI xs k last) {x : Blk} (hx : xs[k]? = some x) {n : Nat} (hn : inB x n) (hc : covB (xs.take k) n = true) : ¬ BfP xs := by
  intro hb
  obtain ⟨p, hp, hi⟩ := covB_iff.1 hc
  obtain ⟨i, hi2⟩ := List.getElem?_of_mem hp
  have hik : i < k := by have := (List.getElem?_eq_some_iff.1 hi2).1; simp at this; omega
  rw [List.getElem?_take, if_pos hik] at hi2
  exact ltB_not_in (hb.lt hi2 hx hik) hi hn
theorem BfI.next {xs : List Blk} {k : Nat} {last : Int} (h : BfI xs k last) {x : Blk} (hx : xs[k]? = some x) (hok : okB x = true) (hl : last < x.a) (hn : ∀ n : Nat, inB x n → covB (xs.take k) n = false) : BfI xs (k + 1) x.a := by
  have hlt := (List.getElem?_eq_some_iff.1 hx).1
  have e : xs.take (k + 1) = xs.take k ++ [x] := by rw [List.take_succ_eq_append_getElem hlt, (List.getElem?_eq_some_iff.1 hx).2]
  refine ⟨?_, by rw [if_neg (by omega)]; exact ⟨x, by simpa using hx, rfl⟩⟩
  rw [e]
  refine h.bf.snoc hok fun p hp => ?_
  have h1 := h.low hp
  have h2 : djB p x := dj_iff.2 fun m hm hi => by
    have h0 : 0 ≤ m := (cov_range h.bf.1 ⟨p, hp, hm⟩).1
    have := hn m.toNat (by rwa [show ((m.toNat : Nat) : Int) = m by omega])
    rw [← Bool.not_eq_true, covB_iff, show ((m.toNat : Nat) : Int) = m by omega] at this
    exact this ⟨p, hp, hm⟩
  have := szO_pos x.o
  rcases h2 with h2 | h2
  · exact h2
  · unfold ltB at h2; omega
theorem szO_two {k : Nat} : szO ((k : Int) + 1) = szO k * 2 := by
  rw [show (k : Int) + 1 = ((k + 1 : Nat) : Int) by omega, szO_nat, szO_nat, Nat.pow_succ]; push_cast; rfl
/-- What BFree hands back. -/
def GivesF (w : World) (xs : List Blk) (e : Ending) (w' : World) : Prop :=
  (BfP xs ∧ ∃ g, e = .returned (.tuple #[.slice (some ⟨g, 0, none⟩) 64 64, .bool true]) ∧ w.heap.size ≤ g ∧ Fr w' g (covB xs) ∧ Below w.heap.size w w') ∨ (¬ BfP xs ∧ e = .returned (.tuple #[.slice none 0 0, .bool false]) ∧ Below w.heap.size w w')
def parB (xs : List Blk) (k : Nat) (x : Blk) (j : Nat) : Nat → Bool := fun m => covB (xs.take k) m || (decide (x.a ≤ m) && decide ((m : Int) < x.a + j))

set_option maxHeartbeats 8000000 in
set_option maxRecDepth 100000 in
theorem bfree_any (A : Option Addr) (n c : Nat) (xs : List Blk) (w : World) (B : Nat) (hz : Rw fB 2 w B A n xs) (hB : B ≤ w.heap.size) (hbig : n ≤ 140737488355328) :
    Calls Try.prog 38 #[.slice A n c] w (GivesF w xs) := by
  have hm := make_64
  have HLN := Lib.hid hz.1
  have HX := Lib.hid (fun (i : Nat) (hi : i < n) => (⟨xs[i]'(by rw [hz.1]; exact hi), List.getElem?_eq_getElem _⟩ : ∃ x, xs[i]? = some x))
  have HZ := Lib.hid hz
  have HA : Hid (0 < n → ∃ b off, A = some ⟨b, off, none⟩ ∧ b < B) := Lib.hid (fun h => HZ.out.open h)
  have HF0 := Lib.hid (fr_new w)
  have HB0 := Lib.hid ((Below.refl w.heap.size w).alloc (Nat.le_refl _) (.cells z64 4))
  have hgz : w.heap.size < (w.alloc (.cells z64 4)).heap.size := by simp
  have HGZ := Lib.hid hgz
  have HI0 : Hid (BfI xs 0 (-1)) := Lib.hid ⟨⟨by simp, by simp⟩, by rw [if_pos rfl]⟩
  clear hz hgz
  go_enter Try.func38, Try.ntmps38
  go_wp2
  go_loopw [5, 13] (fun v5 i wr => ∃ (k : Nat) (last : Int), k ≤ n ∧ i = .int .i64 k ∧ v5 = .int .i64 last ∧ Hid (BfI xs k last) ∧ Hid (Fr wr w.heap.size (covB (xs.take k))) ∧ Hid (Below w.heap.size w wr)) (fun _ i _ => n - (intOf i).toNat)
  case atStart => exact ⟨0, -1, by omega, rfl, rfl, HI0, Lib.hid (HF0.out.congr fun i hi => by simp [covB]), HB0⟩
  case round =>
    obtain ⟨k, last, hk, rfl, rfl, HI, HF, HB⟩ := hrel
    have hsz := HB.out.size
    have hgw := HF.out.lt
    clear hm
    by_cases hlt : k < n
    · obtain ⟨x, hx⟩ := HX.out k hlt
      obtain ⟨b, off, hAe, hb⟩ := HA.out (by omega)
      subst hAe
      have hcs := (HZ.out.below (HB.out.mono hB)).at_ fB_len hx
      have xc0 : wr.cell? ⟨b, off + k * 2, none⟩ = some (.int .i64 x.a) := hcs 0 _ rfl
      have xc1 : wr.cell? ⟨b, off + k * 2 + 1, none⟩ = some (.int .i64 x.o) := hcs 1 _ rfl
      have HX0 := Lib.hid hx
      have HXM := Lib.hid (List.mem_of_getElem? hx)
      have HBA := Lib.hid (HB.out.alloc hsz (.cells #[.int .i64 x.a, .int .i64 x.o] 30))
      have HOK : Hid (okB x = true → 0 ≤ x.o ∧ x.o ≤ 6 ∧ 0 ≤ x.a ∧ x.a ≤ 63 ∧ x.a % szO x.o = 0) := Lib.hid (fun h => by
        obtain ⟨h1, h2, h3, h4⟩ := okB_cases h
        have := szO_pos x.o
        exact ⟨by omega, by omega, h1, by omega, h3⟩)
      clear hcs hx
      by_cases h1 : x.o < 0
      · have HBAD : Hid (¬ BfP xs) := Lib.hid (fun h => by have := HOK.out (h.1 x HXM.out); omega)
        go_wp2
        go_ret2
        exact .inr ⟨HBAD.out, rfl, HBA.out⟩
      by_cases h2 : 6 < x.o
      · have HBAD : Hid (¬ BfP xs) := Lib.hid (fun h => by have := HOK.out (h.1 x HXM.out); omega)
        go_wp2
        go_ret2
        exact .inr ⟨HBAD.out, rfl, HBA.out⟩
      by_cases h3 : x.a ≤ last
      · have HBAD : Hid (¬ BfP xs) := Lib.hid (HI.out.bad_last HX0.out h3)
        have hd : decide (x.a ≤ last) = true := decide_eq_true h3
        go_wp2
        go_ret2
        exact .inr ⟨HBAD.out, rfl, HBA.out⟩
      have hd : decide (x.a ≤ last) = false := decide_eq_false h3
      by_cases h4 : 63 < x.a
      · have HBAD : Hid (¬ BfP xs) := Lib.hid (fun h => by have := HOK.out (h.1 x HXM.out); omega)
        go_wp2
        go_ret2
        exact .inr ⟨HBAD.out, rfl, HBA.out⟩
      have hlast : -1 ≤ last := by
        have := HI.out.la
        split at this
        · omega
        · obtain ⟨p, hp, e⟩ := this
          have := (okB_cases (HI.out.bf.1 p (List.mem_of_getElem? (l := xs.take k) (i := k - 1) (by rw [List.getElem?_take, if_pos (by omega)]; exact hp)))).1
          omega
      have hx0 : 0 ≤ x.a := by omega
      obtain ⟨no, hno⟩ := Int.eq_ofNat_of_zero_le (show 0 ≤ x.o by omega)
      obtain ⟨na, hna⟩ := Int.eq_ofNat_of_zero_le hx0
      rw [hno] at xc1 h1 h2
      rw [hna] at xc0 h3 h4 hd hx0
      have HNO := Lib.hid hno
      have HNA := Lib.hid hna
      have HBA2 : Hid (Below w.heap.size w (wr.alloc (.cells #[.int .i64 na, .int .i64 no] 30))) := Lib.hid (HB.out.alloc hsz _)
      clear hno hna HBA
      obtain ⟨wo, hwo⟩ : ∃ wo, wo = wr := ⟨_, rfl⟩
      subst hwo
      have hbz : w.heap.size < wo.heap.size := hgw
      go_wp2
      go_loop [8, 38] (fun v8 i => ∃ j : Nat, j ≤ no ∧ i = .int .i64 j ∧ v8 = .int .i64 (szO j)) (fun _ i => no - (intOf i).toNat)
      case atStart => exact ⟨0, by omega, rfl, rfl⟩
      case round =>
        obtain ⟨j, hj, rfl, rfl⟩ := hrel
        obtain ⟨s1, s2⟩ := szO_le (o := (j : Int)) (by omega) (by omega)
        by_cases hjl : j < no
        · have HTW := Lib.hid (szO_two (k := j))
          generalize szO (j : Int) = s at *
          go_wp2
          go_round
          case rel => exact ⟨j + 1, by omega, by go_num, by rw [show ((j + 1 : Nat) : Int) = (j : Int) + 1 by omega, HTW.out]⟩
          case measure => simp [intOf]; omega
        · have hjn : j = no := by omega
          subst hjn
          have HSZ : Hid (szO x.o = szO (j : Int)) := Lib.hid (by rw [HNO.out])
          have hlit := szO_lit (o := (j : Int)) (by omega) (by omega)
          obtain ⟨s, hs⟩ : ∃ s, s = szO (j : Int) := ⟨_, rfl⟩
          rw [← hs] at s1 s2 hlit HSZ
          rw [← hs]
          clear hs
          have hs0 : ¬ s = 0 := by omega
          by_cases h5 : (na : Int) % s = 0
          · have hne : ((na : Int) % s != 0) = false := by rw [h5]; rfl
            have hna64 : (na : Int) + s ≤ 64 := by
              rcases hlit with ⟨_, e⟩ | ⟨_, e⟩ | ⟨_, e⟩ | ⟨_, e⟩ | ⟨_, e⟩ | ⟨_, e⟩ | ⟨_, e⟩ <;> subst e <;> omega
            have HOKX : Hid (okB x = true) := Lib.hid (by
              obtain ⟨xa, xo⟩ := x
              have e1 : xa = (na : Int) := HNA.out
              have e2 : xo = (j : Int) := HNO.out
              have e3 : szO xo = s := HSZ.out
              subst e1 e2
              exact okB_of (by omega) (by omega) (by omega) (by rw [e3]; omega) (by rw [e3]; exact h5))
            have HIN : Hid (∀ n : Nat, inB x n ↔ na ≤ n ∧ (n : Int) < na + s) := Lib.hid (fun n => by unfold inB; rw [HNA.out, HSZ.out]; omega)
            clear hlit
            go_wp2
            go_loopw [49] (fun i wr => ∃ q : Nat, (q : Int) ≤ s ∧ i = .int .i64 q ∧ Hid (Fr wr w.heap.size (parB xs k x q)) ∧ Hid (∀ i, i < q → covB (xs.take k) (na + i) = false) ∧ Hid (Below w.heap.size w wr) ∧ wo.heap.size < wr.heap.size ∧ wr.cell? ⟨wo.heap.size, 0, none⟩ = some (.int .i64 na)) (fun i _ => 64 - (intOf i).toNat)
            case atStart => exact ⟨0, by omega, rfl, Lib.hid ((HF.out.below ((Below.refl _ _).alloc (Nat.le_refl _) _) hgw).congr fun i hi => by unfold parB; rw [HNA.out]; simp; omega), Lib.hid (fun i hi => absurd hi (Nat.not_lt_zero _)), HBA2, by simp, by simp [go_sem]⟩
            case round =>
              obtain ⟨q, hq, rfl, HFq, HNq, HBq, hbq, bc0⟩ := hrel
              by_cases hql : (q : Int) < s
              · have hix : ((na : Int) + (q : Int)).toNat = na + q := by omega
                have hi64 : na + q < 64 := by omega
                have hi64' : (na : Int) + (q : Int) < 64 := by omega
                have hi0 : (0 : Int) ≤ (na : Int) + (q : Int) := by omega
                have hfc := HFq.out.at_ (na + q) hi64
                have hff := HFq.out.free (na + q) hi64
                have hpv : parB xs k x q (na + q) = covB (xs.take k) (na + q) := by unfold parB; rw [HNA.out]; simp
                rw [hpv] at hfc
                clear hpv
                have hne2 : ¬ wo.heap.size = w.heap.size := by omega
                cases hcv : covB (xs.take k) (na + q) with
                | true =>
                  rw [hcv] at hfc
                  have HBAD : Hid (¬ BfP xs) := Lib.hid (HI.out.bad_meet HX0.out ((HIN.out (na + q)).2 ⟨by omega, by omega⟩) hcv)
                  clear hcv
                  go_wp2
                  go_ret2
                  exact .inr ⟨HBAD.out, rfl, HBq.out⟩
                | false =>
                  rw [hcv] at hfc
                  have HCV := Lib.hid hcv
                  clear hcv
                  go_wp2
                  go_roundw
                  case rel => exact ⟨q + 1, by omega, by go_num, Lib.hid ((HFq.out.set hi64 true).congr fun i hi => by
                      unfold upd parB
                      rw [HNA.out]
                      by_cases e : i = na + q
                      · subst e; simp; right; omega
                      · rw [if_neg e]
                        congr 1
                        rw [Bool.eq_iff_iff]
                        simp
                        omega), Lib.hid (fun i hi => by
                      by_cases e : i = q
                      · subst e; exact HCV.out
                      · exact HNq.out i (by omega)), Lib.hid (HBq.out.setCell (Nat.le_refl _) _), by simpa using hbq, by simp [go_sem, bc0]⟩
                  case measure => simp [intOf]; omega
              · have hqs : (q : Int) = s := by omega
                have HNX : Hid (BfI xs (k + 1) na) := Lib.hid (by
                  have := HI.out.next HX0.out HOKX.out (by rw [HNA.out]; omega) (fun n hn => by
                    obtain ⟨h1, h2⟩ := (HIN.out n).1 hn
                    have := HNq.out (n - na) (by omega)
                    rwa [show na + (n - na) = n by omega] at this)
                  rw [HNA.out] at this; exact this)
                have HFX : Hid (Fr wr w.heap.size (covB (xs.take (k + 1)))) := Lib.hid (HFq.out.congr fun i hi => by
                  have hlt2 := (List.getElem?_eq_some_iff.1 HX0.out).1
                  rw [List.take_succ_eq_append_getElem hlt2, (List.getElem?_eq_some_iff.1 HX0.out).2, covB_snoc]
                  unfold parB
                  congr 1
                  rw [Bool.eq_iff_iff, inBB_iff, HIN.out, HNA.out]
                  simp
                  omega)
                have hdq : decide ((q : Int) < s) = false := decide_eq_false hql
                go_wp2
                go_roundw
                case rel => exact ⟨k + 1, na, by omega, by go_num, rfl, HNX, HFX, HBq⟩
                case measure => simp [intOf]; omega
          · have hne : ((na : Int) % s != 0) = true := by rw [bne_iff_ne]; exact h5
            have HBAD : Hid (¬ BfP xs) := Lib.hid (fun h => by
              have := (HOK.out (h.1 x HXM.out)).2.2.2.2
              rw [HNA.out, HSZ.out] at this
              exact h5 this)
            clear hlit
            go_wp2
            go_ret2
            exact .inr ⟨HBAD.out, rfl, HBA2.out⟩
    · have hkn : k = n := by omega
      subst hkn
      have HEQ : Hid (xs.take k = xs) := Lib.hid (by rw [List.take_of_length_le (by rw [HLN.out]; exact Nat.le_refl _)])
      go_wp2
      go_ret2
      exact .inl ⟨by have := HI.out.bf; rwa [HEQ.out] at this, w.heap.size, rfl, Nat.le_refl _, by have := HF.out; rwa [HEQ.out] at this, HB.out⟩
end Go.Proofs.Ytnbhchfpfbbngaa
