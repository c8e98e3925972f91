/- HPages, HRight. -/
import Derived.Test.YtnpmbjplmollkaaHpb
import Derived.Laws.ResultCell
namespace Go.Proofs.Ytnpmbjplmollkaa
open Go.ChangeShapes Go.WideShapes Go.ChangeAt Go.RowKit Go.Joins
set_option linter.unusedVariables false
/-- A block of 64 cells lies at g. -/
def RowAt (w : World) (g : Nat) : Prop := ∃ z : Array Value, w.heap[g]? = some (.cells z 60 (0, 0)) ∧ z.size = 64
theorem st60g {ops : Array Oper} {rest : List Oper} {dst : Option Tmp} {x y : Operand} {type : TypeId} {pos : String} {after : Array Edge} {a : Act} {W : World} {Q : Exit → Act → World → Prop} (g : Nat) (cs : Array Value) (hx : a.eval x = .pointer (some ⟨g, 0, none⟩)) (hy : a.eval y = .agg cs) (hg : RowAt W g) (hn : cs.size = 64) (h1 : cs.all (·.oneCell') = true)
    (h : wpList Try.prog ops Q rest (a.put dst undef) (W.setRow g cs)) : wpList Try.prog ops Q (⟨dst, .store 60 x y, type, pos, after, none⟩ :: rest) a W := by
  obtain ⟨z, hz, hs⟩ := hg
  refine wpList_plain rfl fun K hK => ?_
  unfold Oper.wp execOp
  simp only [hx, hy, Instr.storeAt, Instr.sureAddr, Sem.run_bind, Sem.run_pure, Result.andThen_ok, run_storeVar_row W g 60 60 z cs hz (by rw [info60, hn]) (by rw [hs, hn]) h1]
  exact hK _ _ h
theorem setRow_load {w : World} {g : Nat} {z cs : Array Value} (hz : w.heap[g]? = some (.cells z 60 (0, 0))) (hs : z.size = 64) (hn : cs.size = 64) : (loadVar 60 ⟨g, 0, none⟩).run Try.prog (w.setRow g cs) = .ok (.agg cs) (w.setRow g cs) :=
  run_loadVar_row _ _ _ _ cs (0, 0) _ (setRow_heap w g z cs _ _ hz) Try.underlying60 rfl (by rw [info60, hn])
structure HPs (w wr : World) (G : Nat → Option Att) : Prop where
  below : Below w.heap.size w wr
  res : RowAt wr w.heap.size
  arr : ∃ arr, wr.heap[w.heap.size + 1]? = some (.cells arr 60 (0, 0)) ∧ Pages wr (w.heap.size + 1 < ·) arr G
theorem HPs.size {w wr : World} {G : Nat → Option Att} (h : HPs w wr G) : w.heap.size + 2 ≤ wr.heap.size := by
  obtain ⟨arr, ha, _⟩ := h.arr
  have := blk_lt ha
  omega
theorem HPs.open {w wr : World} {G : Nat → Option Att} (h : HPs w wr G) : ∃ arr z, Pages wr (w.heap.size + 1 < ·) arr G ∧ z.size = 64 ∧ wr.heap[w.heap.size]? = some (.cells z 60 (0, 0)) ∧ wr.heap[w.heap.size + 1]? = some (.cells arr 60 (0, 0)) := by
  obtain ⟨arr, ha, hp⟩ := h.arr
  obtain ⟨z, hz, hs⟩ := h.res
  exact ⟨arr, z, hp, hs, hz, ha⟩
theorem HPs.on {w wr w' : World} {G : Nat → Option Att} (h : HPs w wr G) (hb : Below wr.heap.size wr w') : HPs w w' G := by
  have hsz := h.size
  obtain ⟨arr, ha, hp⟩ := h.arr
  obtain ⟨z, hz, hs⟩ := h.res
  exact ⟨h.below.trans (hb.mono h.below.size), ⟨z, (hb.block _ (by omega)).trans hz, hs⟩, arr, (hb.block _ (by omega)).trans ha, hp.on hb⟩
theorem HPs.congr {w wr : World} {G G' : Nat → Option Att} (h : HPs w wr G) (e : ∀ i, i < 64 → G i = G' i) : HPs w wr G' := by
  obtain ⟨arr, ha, hp⟩ := h.arr
  exact ⟨h.below, h.res, arr, ha, hp.congr e⟩
theorem HPs.put {w wr : World} {G : Nat → Option Att} (h : HPs w wr G) {i : Nat} (hi : i < 64) {v : Value} {o : Option Att} (hv : PtA wr (w.heap.size + 1 < ·) v o) : HPs w (wr.setCell ⟨w.heap.size + 1, i, none⟩ v) (fun j => if j = i then o else G j) := by
  obtain ⟨arr, ha, hp⟩ := h.arr
  obtain ⟨z, hz, hs⟩ := h.res
  have hoth : ∀ k, k ≠ w.heap.size + 1 → (wr.setCell ⟨w.heap.size + 1, i, none⟩ v).heap[k]? = wr.heap[k]? := fun k hk => Below.heap_setCell wr ⟨w.heap.size + 1, i, none⟩ v k hk
  refine ⟨h.below.setCell (p := ⟨w.heap.size + 1, i, none⟩) (by simp) _, ⟨z, (hoth _ (by omega)).trans hz, hs⟩, arr.setIfInBounds i v, ?_, (hp.put hi hv).frame (by simp [World.setCell]) fun k _ hk => hoth k (by omega)⟩
  simp [World.setCell, Array.getElem?_modify, ha]
theorem HPs.start (w : World) : HPs w ((w.alloc (.cells (Array.replicate 64 (.pointer none)) 60)).alloc (.cells (Array.replicate 64 (.pointer none)) 60)) (fun _ => none) := by
  have h0 : ((w.alloc (.cells (Array.replicate 64 (.pointer none)) 60)).alloc (.cells (Array.replicate 64 (.pointer none)) 60)).heap[w.heap.size + 1]? = some (.cells (Array.replicate 64 (.pointer none)) 60) := by
    have := heap_alloc_last (w.alloc (.cells (Array.replicate 64 (.pointer none)) 60)) (.cells (Array.replicate 64 (.pointer none)) 60)
    rwa [World.size_alloc] at this
  have h1 : ((w.alloc (.cells (Array.replicate 64 (.pointer none)) 60)).alloc (.cells (Array.replicate 64 (.pointer none)) 60)).heap[w.heap.size]? = some (.cells (Array.replicate 64 (.pointer none)) 60) := by
    rw [Below.heap_alloc _ _ _ (by simp)]; exact heap_alloc_last w _
  refine ⟨((Below.refl _ _).alloc (Nat.le_refl _) _).alloc (by simp) _, ⟨_, h1, by simp⟩, _, h0, by simp, fun i hi => ⟨.pointer none, by simp [hi], rfl⟩⟩
theorem HPs.cell {w wr : World} {G : Nat → Option Att} (h : HPs w wr G) {i : Nat} (hi : i < 64) : (∃ v, wr.cell? ⟨w.heap.size + 1, i, none⟩ = some v) ∧ wr.frozen? ⟨w.heap.size + 1, i, none⟩ = false := by
  obtain ⟨arr, ha, hp⟩ := h.arr
  obtain ⟨v, hv, _⟩ := hp.at_ i hi
  exact ⟨⟨v, by rw [blk_cell ha]; exact hv⟩, blk_free ha i⟩
theorem ite_next (x : Rgn) (g : Nat → Option Att) (q : Nat) (h : x.f ≤ q) (i : Nat) : (if i = q then some x.a else if x.f ≤ (i : Int) ∧ (i : Int) < q then some x.a else g i) = if x.f ≤ (i : Int) ∧ (i : Int) < ((q + 1 : Nat) : Int) then some x.a else g i := by
  by_cases e : i = q
  · subst e; rw [if_pos rfl, if_pos (by omega)]
  · rw [if_neg e]
    by_cases e2 : x.f ≤ (i : Int) ∧ (i : Int) < q
    · rw [if_pos e2, if_pos (by omega)]
    · rw [if_neg e2, if_neg (by omega)]
def PagesRet (ok : Bool) (G : Nat → Option Att) (w : World) (e : Ending) (w' : World) : Prop := ∃ arr Gx, e = .returned (.tuple #[.agg arr, .bool ok]) ∧ Pages w' (fun _ => True) arr Gx ∧ (ok = true → ∀ i, i < 64 → Gx i = G i) ∧ Below w.heap.size w w'
theorem pages_fin {w wr : World} {G G' : Nat → Option Att} {arr : Array Value} {ok : Bool} (h : HPs w wr G) (hp : Pages wr (w.heap.size + 1 < ·) arr G) (hG : ok = true → ∀ i, i < 64 → G i = G' i) : PagesRet ok G' w (.returned (.tuple #[.agg arr, .bool ok])) (wr.setRow w.heap.size arr) := by
  have hsz := h.size
  obtain ⟨z, hz, hs⟩ := h.res
  have hoth : ∀ k, k ≠ w.heap.size → (wr.setRow w.heap.size arr).heap[k]? = wr.heap[k]? := fun k hk => setRow_other wr w.heap.size k arr hk
  refine ⟨arr, G, rfl, ?_, hG, below_setRow h.below (Nat.le_refl _) _⟩
  have hss : (wr.setRow w.heap.size arr).heap.size = wr.heap.size := by simp [World.setRow]
  exact (hp.frame (Nat.le_of_eq hss.symm) fun k _ hk => hoth k (by omega)).any
set_option maxHeartbeats 8000000 in
set_option maxRecDepth 100000 in
theorem hpages_any (A : Option Addr) (n c : Nat) (xs : List Rgn) (w : World) (B : Nat) (hz : Rw fR 6 w B A n xs) (hB : B ≤ w.heap.size) (hbig : n ≤ 140737488355328) :
    Calls Try.prog 40 #[.slice A n c] w (PagesRet (ascB 0 xs) (gAt xs) w) := by
  have hln := hz.1
  have HX := Lib.hid (fun (i : Nat) (hi : i < n) => (⟨xs[i]'(by omega), List.getElem?_eq_getElem _⟩ : ∃ x, xs[i]? = some x))
  have HZ := Lib.hid hz
  have HA : Hid (0 < n → ∃ b off, A = some ⟨b, off, none⟩ ∧ b < B) := Lib.hid (fun h => HZ.out.open h)
  have HTN : Hid (xs.take n = xs) := Lib.hid (List.take_of_length_le (by omega))
  obtain ⟨lk, hlk⟩ : ∃ f : Nat → Int, f = fun k => lastFrom 0 (xs.take k) := ⟨_, rfl⟩
  have HLK : Hid (∀ k, lk k = lastFrom 0 (xs.take k)) := Lib.hid (by rw [hlk]; exact fun _ => rfl)
  have HL0 : Hid (lk 0 = 0) := Lib.hid (by rw [hlk]; rfl)
  have HOK : Hid (ascB 0 xs = ascB 0 xs) := Lib.hid rfl
  clear hz hln hlk
  go_enter Try.func40, Try.ntmps40
  go_wp2
  go_loopw [5, 7, 8, 9, 12] (fun v5 _ _ _ i wr => ∃ k : Nat, k ≤ n ∧ i = .int .i64 k ∧ v5 = .int .i64 (lk k) ∧ Hid (ascB 0 (xs.take k) = true) ∧ Hid (HPs w wr (gAt (xs.take k)))) (fun _ _ _ _ i _ => n - (intOf i).toNat)
  case atStart => exact ⟨0, by omega, rfl, by rw [HL0.out], Lib.hid rfl, Lib.hid (HPs.start w)⟩
  case round =>
    obtain ⟨k, hk, rfl, rfl, HAS, HPP⟩ := hrel
    have hsz := HPP.out.size
    have hsB : w.heap.size ≤ wr.heap.size := by omega
    by_cases hlt : k < n
    · obtain ⟨x, hx⟩ := HX.out k hlt
      obtain ⟨b, off, hAe, hbB⟩ := HA.out (by omega)
      subst hAe
      have hcs := (HZ.out.below (HPP.out.below.mono hB)).at_ fR_len hx
      have xc0 : wr.cell? ⟨b, off + k * 6, none⟩ = some (.int .i64 x.f) := hcs 0 _ rfl
      have xc1 : wr.cell? ⟨b, off + k * 6 + 1, none⟩ = some (.int .i64 x.t) := hcs 1 _ rfl
      have xc2 : wr.cell? ⟨b, off + k * 6 + 2, none⟩ = some (.int .i64 x.a.r) := hcs 2 _ rfl
      have xc3 : wr.cell? ⟨b, off + k * 6 + 3, none⟩ = some (.int .i64 x.a.k) := hcs 3 _ rfl
      have xc4 : wr.cell? ⟨b, off + k * 6 + 4, none⟩ = some (.bool x.a.g) := hcs 4 _ rfl
      have xc5 : wr.cell? ⟨b, off + k * 6 + 5, none⟩ = some (.bool x.a.s) := hcs 5 _ rfl
      have HX0 := Lib.hid hx
      have HLKk := Lib.hid (HLK.out k)
      have HL0k := Lib.hid (le_last _ _ ((ascB_iff _ _).1 HAS.out)).1
      have HN := Lib.hid (fun h => asc_next HX0.out HAS.out h)
      have HGN := Lib.hid (fun h => gAt_next HX0.out HAS.out h)
      clear hcs hx
      generalize hL : lk k = L at *
      have HLL : Hid (L = lastFrom 0 (xs.take k)) := HLKk
      clear hL HLKk
      by_cases c1 : x.f < L
      · have HBB := HLL.out
        have HBAD := Lib.hid (asc_bad HX0.out (by unfold bad; simp; omega))
        obtain ⟨arr, z, HPG, hz64, hzb, hab⟩ := HPP.out.on ((Below.refl wr.heap.size wr).alloc (Nat.le_refl _) (.cells #[.int .i64 x.f, .int .i64 x.t, .int .i64 x.a.r, .int .i64 x.a.k, .bool x.a.g, .bool x.a.s] 26)) |>.open
        have harr := HPG.size
        have HRZ : Hid (RowAt (wr.alloc (.cells #[.int .i64 x.f, .int .i64 x.t, .int .i64 x.a.r, .int .i64 x.a.k, .bool x.a.g, .bool x.a.s] 26)) w.heap.size) := Lib.hid ⟨z, hzb, hz64⟩
        have HLD : Hid ((wr.alloc (.cells #[.int .i64 x.f, .int .i64 x.t, .int .i64 x.a.r, .int .i64 x.a.k, .bool x.a.g, .bool x.a.s] 26)).rangeAt (w.heap.size + 1) 0 arr.toList) := Lib.hid (range_of hab)
        have HON := Lib.hid HPG.one
        have HLV := Lib.hid (setRow_load (w := wr.alloc (.cells #[.int .i64 x.f, .int .i64 x.t, .int .i64 x.a.r, .int .i64 x.a.k, .bool x.a.g, .bool x.a.s] 26)) hzb hz64 harr)
        have FIN : Hid (PagesRet (ascB 0 xs) (gAt xs) w (.returned (.tuple #[.agg arr, .bool false])) ((wr.alloc (.cells #[.int .i64 x.f, .int .i64 x.t, .int .i64 x.a.r, .int .i64 x.a.k, .bool x.a.g, .bool x.a.s] 26)).setRow w.heap.size arr)) := Lib.hid (by rw [HBAD.out]; exact pages_fin (HPP.out.on ((Below.refl wr.heap.size wr).alloc (Nat.le_refl _) (.cells #[.int .i64 x.f, .int .i64 x.t, .int .i64 x.a.r, .int .i64 x.a.k, .bool x.a.g, .bool x.a.s] 26))) HPG (fun h => by cases h))
        clear HPG hz64 hzb hab
        go_wp2_with (first
        | ((with_reducible (refine ld60 (w.heap.size + 1) arr ?_ ?_ harr ?_)); rfl; exact HLD.out)
        | ((with_reducible (refine st60g w.heap.size arr ?_ ?_ HRZ.out harr HON.out ?_)); rfl; rfl))
        try simp only [Exit.inBlock, Exit.then]
        refine bodyPost_ret (v := .tuple #[.agg arr, .bool false]) ?_ rfl (FIN.out)
        rw [results_cell_tmp rfl]
        simp [asAddr, Result.andThen, HLV.out]
      · by_cases c2 : x.t ≤ x.f
        · have HBB := HLL.out
          have c1b : L ≤ x.f := by omega
          have HBAD := Lib.hid (asc_bad HX0.out (by unfold bad; simp; omega))
          obtain ⟨arr, z, HPG, hz64, hzb, hab⟩ := HPP.out.on ((Below.refl wr.heap.size wr).alloc (Nat.le_refl _) (.cells #[.int .i64 x.f, .int .i64 x.t, .int .i64 x.a.r, .int .i64 x.a.k, .bool x.a.g, .bool x.a.s] 26)) |>.open
          have harr := HPG.size
          have HRZ : Hid (RowAt (wr.alloc (.cells #[.int .i64 x.f, .int .i64 x.t, .int .i64 x.a.r, .int .i64 x.a.k, .bool x.a.g, .bool x.a.s] 26)) w.heap.size) := Lib.hid ⟨z, hzb, hz64⟩
          have HLD : Hid ((wr.alloc (.cells #[.int .i64 x.f, .int .i64 x.t, .int .i64 x.a.r, .int .i64 x.a.k, .bool x.a.g, .bool x.a.s] 26)).rangeAt (w.heap.size + 1) 0 arr.toList) := Lib.hid (range_of hab)
          have HON := Lib.hid HPG.one
          have HLV := Lib.hid (setRow_load (w := wr.alloc (.cells #[.int .i64 x.f, .int .i64 x.t, .int .i64 x.a.r, .int .i64 x.a.k, .bool x.a.g, .bool x.a.s] 26)) hzb hz64 harr)
          have FIN : Hid (PagesRet (ascB 0 xs) (gAt xs) w (.returned (.tuple #[.agg arr, .bool false])) ((wr.alloc (.cells #[.int .i64 x.f, .int .i64 x.t, .int .i64 x.a.r, .int .i64 x.a.k, .bool x.a.g, .bool x.a.s] 26)).setRow w.heap.size arr)) := Lib.hid (by rw [HBAD.out]; exact pages_fin (HPP.out.on ((Below.refl wr.heap.size wr).alloc (Nat.le_refl _) (.cells #[.int .i64 x.f, .int .i64 x.t, .int .i64 x.a.r, .int .i64 x.a.k, .bool x.a.g, .bool x.a.s] 26))) HPG (fun h => by cases h))
          clear HPG hz64 hzb hab
          go_wp2_with (first
          | ((with_reducible (refine ld60 (w.heap.size + 1) arr ?_ ?_ harr ?_)); rfl; exact HLD.out)
          | ((with_reducible (refine st60g w.heap.size arr ?_ ?_ HRZ.out harr HON.out ?_)); rfl; rfl))
          try simp only [Exit.inBlock, Exit.then]
          refine bodyPost_ret (v := .tuple #[.agg arr, .bool false]) ?_ rfl (FIN.out)
          rw [results_cell_tmp rfl]
          simp [asAddr, Result.andThen, HLV.out]
        · by_cases c3 : 64 < x.t
          · have HBB := HLL.out
            have c1b : L ≤ x.f := by omega
            have c2b : x.f < x.t := by omega
            have HBAD := Lib.hid (asc_bad HX0.out (by unfold bad; simp; omega))
            obtain ⟨arr, z, HPG, hz64, hzb, hab⟩ := HPP.out.on ((Below.refl wr.heap.size wr).alloc (Nat.le_refl _) (.cells #[.int .i64 x.f, .int .i64 x.t, .int .i64 x.a.r, .int .i64 x.a.k, .bool x.a.g, .bool x.a.s] 26)) |>.open
            have harr := HPG.size
            have HRZ : Hid (RowAt (wr.alloc (.cells #[.int .i64 x.f, .int .i64 x.t, .int .i64 x.a.r, .int .i64 x.a.k, .bool x.a.g, .bool x.a.s] 26)) w.heap.size) := Lib.hid ⟨z, hzb, hz64⟩
            have HLD : Hid ((wr.alloc (.cells #[.int .i64 x.f, .int .i64 x.t, .int .i64 x.a.r, .int .i64 x.a.k, .bool x.a.g, .bool x.a.s] 26)).rangeAt (w.heap.size + 1) 0 arr.toList) := Lib.hid (range_of hab)
            have HON := Lib.hid HPG.one
            have HLV := Lib.hid (setRow_load (w := wr.alloc (.cells #[.int .i64 x.f, .int .i64 x.t, .int .i64 x.a.r, .int .i64 x.a.k, .bool x.a.g, .bool x.a.s] 26)) hzb hz64 harr)
            have FIN : Hid (PagesRet (ascB 0 xs) (gAt xs) w (.returned (.tuple #[.agg arr, .bool false])) ((wr.alloc (.cells #[.int .i64 x.f, .int .i64 x.t, .int .i64 x.a.r, .int .i64 x.a.k, .bool x.a.g, .bool x.a.s] 26)).setRow w.heap.size arr)) := Lib.hid (by rw [HBAD.out]; exact pages_fin (HPP.out.on ((Below.refl wr.heap.size wr).alloc (Nat.le_refl _) (.cells #[.int .i64 x.f, .int .i64 x.t, .int .i64 x.a.r, .int .i64 x.a.k, .bool x.a.g, .bool x.a.s] 26))) HPG (fun h => by cases h))
            clear HPG hz64 hzb hab
            go_wp2_with (first
            | ((with_reducible (refine ld60 (w.heap.size + 1) arr ?_ ?_ harr ?_)); rfl; exact HLD.out)
            | ((with_reducible (refine st60g w.heap.size arr ?_ ?_ HRZ.out harr HON.out ?_)); rfl; rfl))
            try simp only [Exit.inBlock, Exit.then]
            refine bodyPost_ret (v := .tuple #[.agg arr, .bool false]) ?_ rfl (FIN.out)
            rw [results_cell_tmp rfl]
            simp [asAddr, Result.andThen, HLV.out]
          · have c1b : L ≤ x.f := by omega
            have c2b : x.f < x.t := by omega
            have c3b : x.t ≤ 64 := by omega
            have hL0 : 0 ≤ L := by rw [HLL.out]; exact HL0k.out
            have hb0 : bad (lastFrom 0 (xs.take k)) x = false := by rw [← HLL.out]; unfold bad; simp; omega
            obtain ⟨hN1, hN2⟩ := HN.out hb0
            have HN1 := Lib.hid hN1
            have HN2 := Lib.hid hN2
            clear hN1 hN2
            have HGN2 := Lib.hid (HGN.out hb0)
            have HLK1 := Lib.hid (HLK.out (k + 1))
            have HF0 : Hid ((x.f.toNat : Int) = x.f) := Lib.hid (Int.toNat_of_nonneg (by omega))
            obtain ⟨wo, hwo⟩ : ∃ wo, wo = wr := ⟨_, rfl⟩
            subst hwo
            have HW1 := Lib.hid ((Below.refl wo.heap.size wo).alloc (Nat.le_refl _) (.cells #[.int .i64 x.f, .int .i64 x.t, .int .i64 x.a.r, .int .i64 x.a.k, .bool x.a.g, .bool x.a.s] 26))
            have HBX0 : Hid (∀ (j : Nat) (u : Value), (fR x)[j]? = some u → (wo.alloc (.cells #[.int .i64 x.f, .int .i64 x.t, .int .i64 x.a.r, .int .i64 x.a.k, .bool x.a.g, .bool x.a.s] 26)).cell? ⟨wo.heap.size, j, none⟩ = some u) := Lib.hid (fun j u hj => by
              have := alloc_cells (W := wo) (T := 26) j u hj
              rw [addr_add, Nat.zero_add] at this; exact this)
            have HBG := Lib.hid hbig
            clear hb0 HN HGN HL0k hL0 hbig
            go_wp2
            go_loopw [8, 9] (fun v8 _ wr => ∃ q : Nat, x.f ≤ q ∧ q ≤ x.t ∧ v8 = .int .i64 q ∧ wo.heap.size < wr.heap.size ∧ Hid (HPs w wr (fun i => if x.f ≤ (i : Int) ∧ (i : Int) < q then some x.a else gAt (xs.take k) i)) ∧ Hid (∀ (j : Nat) (u : Value), (fR x)[j]? = some u → wr.cell? ⟨wo.heap.size, j, none⟩ = some u)) (fun v8 _ _ => x.t.toNat - (intOf v8).toNat)
            case atStart => exact ⟨x.f.toNat, by rw [HF0.out]; exact Int.le_refl _, by rw [HF0.out]; omega, by rw [HF0.out], by simp, Lib.hid ((HPP.out.on HW1.out).congr fun i _ => by rw [if_neg (by rw [HF0.out]; omega)]), HBX0⟩
            case round =>
              obtain ⟨q, hq1, hq2, rfl, hwr, HPQ, HBX⟩ := hrel
              have bc0 : wr.cell? ⟨wo.heap.size, 0, none⟩ = some (.int .i64 x.f) := HBX.out 0 _ rfl
              have bc1 : wr.cell? ⟨wo.heap.size, 1, none⟩ = some (.int .i64 x.t) := HBX.out 1 _ rfl
              have bc2 : wr.cell? ⟨wo.heap.size, 2, none⟩ = some (.int .i64 x.a.r) := HBX.out 2 _ rfl
              have bc3 : wr.cell? ⟨wo.heap.size, 3, none⟩ = some (.int .i64 x.a.k) := HBX.out 3 _ rfl
              have bc4 : wr.cell? ⟨wo.heap.size, 4, none⟩ = some (.bool x.a.g) := HBX.out 4 _ rfl
              have bc5 : wr.cell? ⟨wo.heap.size, 5, none⟩ = some (.bool x.a.s) := HBX.out 5 _ rfl
              by_cases hq : (q : Int) < x.t
              · have hq64 : q < 64 := by omega
                have hq3 : x.f ≤ ((q + 1 : Nat) : Int) := by omega
                have hq4 : ((q + 1 : Nat) : Int) ≤ x.t := by omega
                have hms : x.t.toNat - (q + 1) < x.t.toNat - q := by omega
                have hws : ∀ v, wo.heap.size < ((wr.alloc (.cells #[.int .i64 x.a.r, .int .i64 x.a.k, .bool x.a.g, .bool x.a.s] 24)).setCell ⟨w.heap.size + 1, q, none⟩ v).heap.size := fun v => by
                  simp [World.setCell]; omega
                have HQ1 := Lib.hid hq1
                have hqi : (q : Int) < 64 := by omega
                have hq0 : (0 : Int) ≤ (q : Int) := by omega
                obtain ⟨hqw, hqv⟩ := wrap_small ((q : Int) + 1) (by omega) (by omega)
                have HW2 := Lib.hid ((Below.refl wr.heap.size wr).alloc (Nat.le_refl _) (.cells #[.int .i64 x.a.r, .int .i64 x.a.k, .bool x.a.g, .bool x.a.s] 24))
                have HP2 := Lib.hid (HPQ.out.on HW2.out)
                obtain ⟨⟨v0, hv0⟩, hfz⟩ := HP2.out.cell hq64
                have hszq := HPQ.out.size
                have HPT : Hid (PtA (wr.alloc (.cells #[.int .i64 x.a.r, .int .i64 x.a.k, .bool x.a.g, .bool x.a.s] 24)) (w.heap.size + 1 < ·) (.pointer (some ⟨wr.heap.size, 0, none⟩)) (some x.a)) := Lib.hid ⟨_, _, rfl, by simp, by show w.heap.size + 1 < wr.heap.size; omega, fun j u hj => by
                  have := alloc_cells (W := wr) (T := 24) j u hj
                  rw [addr_add, Nat.zero_add] at this
                  rw [Nat.zero_add]; exact this⟩
                have HP3 := Lib.hid (HP2.out.put hq64 HPT.out)
                have hne1 : ¬ (wo.heap.size = w.heap.size + 1) := by omega
                go_wp2
                go_roundw
                case rel => exact ⟨q + 1, hq3, hq4, by go_num, hws _, Lib.hid (HP3.out.congr fun i _ => ite_next x _ q HQ1.out i), Lib.hid (fun j u hj => by
                    rw [World.cell?_of_block (w := wr.alloc (.cells #[.int .i64 x.a.r, .int .i64 x.a.k, .bool x.a.g, .bool x.a.s] 24)) (Below.heap_setCell _ ⟨w.heap.size + 1, q, none⟩ _ wo.heap.size hne1)]
                    exact (HW2.out.cell (p := ⟨wo.heap.size, j, none⟩) hwr).trans (HBX.out j u hj))⟩
                case measure => simpa [intOf] using hms
              · have hqe : (q : Int) = x.t := by omega
                have HPE := Lib.hid (HPQ.out.congr fun i _ => (show _ = gAt (xs.take (k + 1)) i from by rw [HGN2.out i, hqe]))
                have hqx : x.t ≤ (q : Int) := by omega
                clear hqe
                have hbig := HBG.out
                go_wp2
                go_roundw
                case rel => exact ⟨k + 1, by omega, by go_num, by rw [HLK1.out, HN2.out], HN1, HPE⟩
                case measure => simp [intOf]; omega
    · have hkn : k = n := by omega
      subst hkn
      have HAT := Lib.hid (show ascB 0 xs = true from by have := HAS.out; rwa [HTN.out] at this)
      have HPN : Hid (HPs w wr (gAt xs)) := Lib.hid (by have := HPP.out; rwa [HTN.out] at this)
      obtain ⟨arr, z, HPG, hz64, hzb, hab⟩ := HPN.out.open
      have harr := HPG.size
      have HRZ : Hid (RowAt wr w.heap.size) := Lib.hid ⟨z, hzb, hz64⟩
      have HLD : Hid (wr.rangeAt (w.heap.size + 1) 0 arr.toList) := Lib.hid (range_of hab)
      have HON := Lib.hid HPG.one
      have HLV := Lib.hid (setRow_load hzb hz64 harr)
      have FIN : Hid (PagesRet (ascB 0 xs) (gAt xs) w (.returned (.tuple #[.agg arr, .bool true])) (wr.setRow w.heap.size arr)) := Lib.hid (by rw [HAT.out]; exact pages_fin HPN.out HPG (fun _ _ _ => rfl))
      clear HPG hz64 hzb hab
      go_wp2_with (first
      | ((with_reducible (refine ld60 (w.heap.size + 1) arr ?_ ?_ harr ?_)); rfl; exact HLD.out)
      | ((with_reducible (refine st60g w.heap.size arr ?_ ?_ HRZ.out harr HON.out ?_)); rfl; rfl))
      try simp only [Exit.inBlock, Exit.then]
      refine bodyPost_ret (v := .tuple #[.agg arr, .bool true]) ?_ rfl (FIN.out)
      rw [results_cell_tmp rfl]
      simp [asAddr, Result.andThen, HLV.out]
end Go.Proofs.Ytnpmbjplmollkaa
