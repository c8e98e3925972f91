/- buddy.Take. -/
import Derived.Test.YtnbhchfpfbbngaaBdb
import Derived.Test.YtnbhchfpfbbngaaBso
namespace Go.Proofs.Ytnbhchfpfbbngaa
open Go.ChangeShapes Go.WideShapes Go.ChangeAt Go.RowKit Go.Joins Go.Sort
set_option linter.unusedVariables false
theorem Os.set_other {α : Type} {f : α → List Value} {sz : Nat} {T : TypeId} {w : World} {base : Nat} {v : Value} {xs : List α} (h : Os f sz T w base v xs) {p : Addr} (hp : p.block < base) (u : Value) : Os f sz T (w.setCell p u) base v xs := by
  obtain ⟨h1, h | ⟨g, cap, cur, e, hg, hh, hn, hm, hz, hx⟩⟩ := h
  · exact ⟨h1, .inl h⟩
  · refine ⟨h1, .inr ⟨g, cap, cur, e, hg, ?_, hn, hm, hz, hx⟩⟩
    rw [World.setCell]
    simp only [Array.getElem?_modify]
    rw [if_neg (by omega)]; exact hh
theorem len_sum : ∀ {l : List Blk}, (l.length : Int) ≤ sumO l
  | [] => by simp [sumO]
  | x :: l => by
    have := len_sum (l := l)
    have := szO_pos x.o
    simp only [sumO, List.map_cons, List.sum_cons, List.length_cons] at *
    omega
theorem cnt_le (p : Nat → Bool) : ∀ n : Nat, cnt p n ≤ n
  | 0 => by simp [cnt]
  | n + 1 => by
    have := cnt_le p n
    unfold cnt
    split <;> omega
theorem rp_len {l : List Blk} (h : Rp l) : l.length ≤ 64 := by
  have h1 := len_sum (l := l)
  have h2 := cnt_sum h
  have h3 := cnt_le (covB l) 64
  omega
/-- The best one of the first k. -/
def bestUp (xs : List Blk) (ord : Int) (k i : Nat) (b : Blk) : Prop := xs[i]? = some b ∧ i < k ∧ ord ≤ b.o ∧ ∀ j c, j < k → xs[j]? = some c → ord ≤ c.o → b.o ≤ c.o ∧ (j < i → b.o < c.o)
def noneUp (xs : List Blk) (ord : Int) (k : Nat) : Prop := ∀ j c, j < k → xs[j]? = some c → c.o < ord
theorem noneUp.more {xs : List Blk} {ord : Int} {k : Nat} {x : Blk} (h : noneUp xs ord k) (hx : xs[k]? = some x) (hl : x.o < ord) : noneUp xs ord (k + 1) := fun j c hj hc => by
  by_cases e : j = k
  · subst e; rw [hx] at hc; cases hc; exact hl
  · exact h j c (by omega) hc
theorem noneUp.first {xs : List Blk} {ord : Int} {k : Nat} {x : Blk} (h : noneUp xs ord k) (hx : xs[k]? = some x) (hl : ord ≤ x.o) : bestUp xs ord (k + 1) k x := ⟨hx, by omega, hl, fun j c hj hc ho => by
  by_cases e : j = k
  · subst e; rw [hx] at hc; cases hc; exact ⟨Int.le_refl _, fun h => by omega⟩
  · have := h j c (by omega) hc; omega⟩
theorem bestUp.keep {xs : List Blk} {ord : Int} {k i : Nat} {x b : Blk} (h : bestUp xs ord k i b) (hx : xs[k]? = some x) (hl : x.o < ord ∨ b.o ≤ x.o) : bestUp xs ord (k + 1) i b := ⟨h.1, by have := h.2.1; omega, h.2.2.1, fun j c hj hc ho => by
  by_cases e : j = k
  · subst e; rw [hx] at hc; cases hc
    have := h.2.1
    exact ⟨by omega, fun h => by omega⟩
  · exact h.2.2.2 j c (by omega) hc ho⟩
theorem bestUp.take {xs : List Blk} {ord : Int} {k i : Nat} {x b : Blk} (h : bestUp xs ord k i b) (hx : xs[k]? = some x) (ho : ord ≤ x.o) (hl : x.o < b.o) : bestUp xs ord (k + 1) k x := ⟨hx, by omega, ho, fun j c hj hc hoc => by
  by_cases e : j = k
  · subst e; rw [hx] at hc; cases hc; exact ⟨Int.le_refl _, fun h => by omega⟩
  · have := (h.2.2.2 j c (by omega) hc hoc).1; exact ⟨by omega, fun _ => by omega⟩⟩
theorem bestUp.all {xs : List Blk} {ord : Int} {i : Nat} {b : Blk} (h : bestUp xs ord xs.length i b) : isBest xs ord i b := ⟨h.1, h.2.2.1, fun j c hc ho => h.2.2.2 j c (List.getElem?_eq_some_iff.1 hc).1 hc ho⟩
theorem noneUp.all {xs : List Blk} {ord : Int} (h : noneUp xs ord xs.length) : ∀ c ∈ xs, c.o < ord := fun c hc => by
  obtain ⟨j, hj⟩ := List.getElem?_of_mem hc
  exact h j c (List.getElem?_eq_some_iff.1 hj).1 hj
theorem takeS_eq (l : List Blk) (ord : Int) : takeS l ord =
  if rightB l then (if 0 ≤ ord ∧ ord ≤ 6 then (match bestB l ord with
    | none => (([], 0, 4) : List Blk × Int × Int)
    | some b => (takeC l b.a ord, b.a, 0)) else ([], 0, 2)) else ([], 0, 1) := rfl
/-- What Take hands back. -/
def GivesT (w : World) (r : List Blk × Int × Int) (e : Ending) (w' : World) : Prop := ∃ v, e = .returned (.tuple #[v, .int .i64 r.2.1, .int .i64 r.2.2]) ∧ Os fB 2 30 w' w.heap.size v r.1 ∧ Below w.heap.size w w'
def cellI (w : World) (a : Addr) : Int := match w.cell? a with | some (.int _ z) => z | _ => 0
theorem cellI_eq {w : World} {a : Addr} {k : IntKind} {z : Int} (h : w.cell? a = some (.int k z)) : cellI w a = z := by unfold cellI; rw [h]

set_option maxHeartbeats 4000000 in
set_option maxRecDepth 100000 in
theorem take_any (A : Option Addr) (n c : Nat) (xs : List Blk) (ord : Int) (hord : I64 ord) (w : World) (B : Nat) (hz : Rw fB 2 w B A n xs) (hf : ∀ x ∈ xs, x.fits) (hB : B ≤ w.heap.size) (hbig : n ≤ 140737488355328) :
    Calls Try.prog 11 #[.slice A n c, .int .i64 ord] w (GivesT w (takeS xs ord)) := by
  have hright := right_any A n c xs w B hz hf hB hbig
  have HTS := Lib.hid (takeS_eq xs ord)
  have HZ := Lib.hid hz
  cases hr : rightB xs with
  | false =>
    rw [hr] at hright
    have HRES : Hid (takeS xs ord = ([], 0, 1)) := Lib.hid (by rw [HTS.out, hr]; rfl)
    clear HTS hz hf hr
    generalize takeS xs ord = rs at *
    go_enter Try.func11, Try.ntmps11
    go_wp2_with (go_at_call 14; refine hright.mono ?_; rintro e w1 ⟨rfl, hb1⟩)
    go_ret3
    exact ⟨_, by rw [HRES.out]; rfl, by rw [HRES.out]; exact Os.nil, hb1⟩
  | true =>
    rw [hr] at hright
    have HRP := Lib.hid (right_rp hr)
    by_cases ho1 : ord < 0
    · have HRES : Hid (takeS xs ord = ([], 0, 2)) := Lib.hid (by rw [HTS.out, hr, if_pos rfl, if_neg (by omega)])
      clear HTS hz hf hr
      generalize takeS xs ord = rs at *
      go_enter Try.func11, Try.ntmps11
      go_wp2_with (go_at_call 14; refine hright.mono ?_; rintro e w1 ⟨rfl, hb1⟩)
      go_ret3
      exact ⟨_, by rw [HRES.out]; rfl, by rw [HRES.out]; exact Os.nil, hb1⟩
    by_cases ho2 : 6 < ord
    · have HRES : Hid (takeS xs ord = ([], 0, 2)) := Lib.hid (by rw [HTS.out, hr, if_pos rfl, if_neg (by omega)])
      clear HTS hz hf hr
      generalize takeS xs ord = rs at *
      go_enter Try.func11, Try.ntmps11
      go_wp2_with (go_at_call 14; refine hright.mono ?_; rintro e w1 ⟨rfl, hb1⟩)
      go_ret3
      exact ⟨_, by rw [HRES.out]; rfl, by rw [HRES.out]; exact Os.nil, hb1⟩
    have hn64 : n ≤ 64 := by rw [← hz.1]; exact rp_len HRP.out
    have HLN := Lib.hid hz.1
    have HT1 : Hid (noneUp xs ord n → takeS xs ord = ([], 0, 4)) := Lib.hid (fun h => by
      rw [HTS.out, hr, if_pos rfl, if_pos ⟨by omega, by omega⟩, best_none (noneUp.all (by rw [HLN.out]; exact h))])
    have HT2 : Hid (∀ i b, bestUp xs ord n i b → takeS xs ord = (takeC xs b.a ord, b.a, 0)) := Lib.hid (fun i b h => by
      have h' : isBest xs ord i b := bestUp.all (by rw [HLN.out]; exact h)
      have : b.o ≤ 6 := by have := okB_cases (HRP.out.1 b (List.mem_of_getElem? h.1)); omega
      rw [HTS.out, hr, if_pos rfl, if_pos ⟨by omega, by omega⟩, best_is this h'])
    have HX := Lib.hid (fun (i : Nat) (hi : i < n) => (⟨xs[i]'(by rw [hz.1]; exact hi), List.getElem?_eq_getElem _⟩ : ∃ x, xs[i]? = some x))
    have HA : Hid (0 < n → ∃ b off, A = some ⟨b, off, none⟩ ∧ b < B) := Lib.hid (fun h => HZ.out.open h)
    clear HTS hz hf hr
    generalize takeS xs ord = rs at *
    go_enter Try.func11, Try.ntmps11
    go_wp2_with (go_at_call 14; refine hright.mono ?_; rintro e w1 ⟨rfl, hb1⟩)
    have HB1 := Lib.hid hb1
    clear hb1 hright
    go_loopw [7, 23] (fun v7 i wr => ∃ k : Nat, k ≤ n ∧ i = .int .i64 k ∧ Hid (Below w.heap.size w wr) ∧ ((v7 = .int .i64 (-1) ∧ Hid (noneUp xs ord k)) ∨ ∃ (i : Nat) (b : Blk), v7 = .int .i64 i ∧ Hid (bestUp xs ord k i b) ∧ i < k)) (fun _ i _ => n - (intOf i).toNat)
    case atStart => exact ⟨0, by omega, rfl, HB1, .inl ⟨rfl, Lib.hid (fun j c hj => absurd hj (Nat.not_lt_zero _))⟩⟩
    case round =>
      obtain ⟨k, hk, rfl, HB, hst⟩ := hrel
      have hsz := HB.out.size
      by_cases hlt : k < n
      · obtain ⟨x, hx⟩ := HX.out k hlt
        obtain ⟨b, off, hAe, hb⟩ := HA.out (by omega)
        subst hAe
        have hcs := (HZ.out.below (HB.out.mono hB)).at_ fB_len hx
        have xc0 : wr.cell? ⟨b, off + k * 2, none⟩ = some (.int .i64 x.a) := hcs 0 _ rfl
        have xc1 : wr.cell? ⟨b, off + k * 2 + 1, none⟩ = some (.int .i64 x.o) := hcs 1 _ rfl
        have HX0 := Lib.hid hx
        have HBA := Lib.hid (fun q => (HB.out.alloc hsz (.cells #[.int .i64 x.a, .int .i64 x.o] 30)).trans (below_drewN w.heap.size _ q))
        clear hcs hx
        by_cases hxo : x.o < ord
        · have hd : decide (ord ≤ x.o) = false := decide_eq_false (by omega)
          rcases hst with ⟨rfl, HN⟩ | ⟨i, bb, rfl, HU, hik⟩
          · go_wp2
            go_quiet (fail)
            go_wp2
            go_roundw
            case rel => exact ⟨k + 1, by omega, by go_num, Lib.hid (HBA.out _), .inl ⟨rfl, Lib.hid (HN.out.more HX0.out hxo)⟩⟩
            case measure => simp [intOf]; omega
          · go_wp2
            go_quiet (fail)
            go_wp2
            go_roundw
            case rel => exact ⟨k + 1, by omega, by go_num, Lib.hid (HBA.out _), .inr ⟨i, bb, rfl, Lib.hid (HU.out.keep HX0.out (.inl hxo)), by omega⟩⟩
            case measure => simp [intOf]; omega
        · have hxo' : ord ≤ x.o := by omega
          have hd : decide (ord ≤ x.o) = true := decide_eq_true hxo'
          rcases hst with ⟨rfl, HN⟩ | ⟨i, bb, rfl, HU, hik⟩
          · go_wp2
            go_quiet (fail)
            go_wp2
            go_roundw
            case rel => exact ⟨k + 1, by omega, by go_num, Lib.hid (HBA.out _), .inr ⟨k, x, by go_num, Lib.hid (HN.out.first HX0.out hxo'), by omega⟩⟩
            case measure => simp [intOf]; omega
          · have hcb := (HZ.out.below (HB.out.mono hB)).at_ fB_len HU.out.1
            have bc1 : wr.cell? ⟨b, off + i * 2 + 1, none⟩ = some (.int .i64 bb.o) := hcb 1 _ rfl
            have hin : (i : Int) < (n : Int) := by omega
            have hi0 : (0 : Int) ≤ (i : Int) := by omega
            have hin2 : i < n := by omega
            have hi00 : decide ((i : Int) < 0) = false := decide_eq_false (by omega)
            have hbw : b < wr.heap.size := by omega
            clear hcb
            by_cases hbo : x.o < bb.o
            · have hd2 : decide (x.o < bb.o) = true := decide_eq_true hbo
              go_wp2
              go_quiet (fail)
              go_wp2
              go_roundw
              case rel => exact ⟨k + 1, by omega, by go_num, Lib.hid (HBA.out _), .inr ⟨k, x, by go_num, Lib.hid (HU.out.take HX0.out hxo' hbo), by omega⟩⟩
              case measure => simp [intOf]; omega
            · have hd2 : decide (x.o < bb.o) = false := decide_eq_false hbo
              go_wp2
              go_quiet (fail)
              go_wp2
              go_roundw
              case rel => exact ⟨k + 1, by omega, by go_num, Lib.hid (HBA.out _), .inr ⟨i, bb, rfl, Lib.hid (HU.out.keep HX0.out (.inr (by omega))), by omega⟩⟩
              case measure => simp [intOf]; omega
      · have hkn : k = n := by omega
        subst hkn
        rcases hst with ⟨rfl, HN⟩ | ⟨i, bb, rfl, HU, hik⟩
        · go_wp2
          go_ret3
          exact ⟨_, by rw [HT1.out HN.out]; rfl, by rw [HT1.out HN.out]; exact Os.nil, HB.out⟩
        · have HRES := Lib.hid (HT2.out i bb HU.out)
          have HXI := Lib.hid HU.out.1
          have HUO := Lib.hid HU.out.2.2.1
          clear HT1 HT2 HU
          obtain ⟨b, off, hAe, hb⟩ := HA.out (by omega)
          subst hAe
          have hcb := (HZ.out.below (HB.out.mono hB)).at_ fB_len HXI.out
          have bc0 : wr.cell? ⟨b, off + i * 2, none⟩ = some (.int .i64 bb.a) := hcb 0 _ rfl
          have bc1 : wr.cell? ⟨b, off + i * 2 + 1, none⟩ = some (.int .i64 bb.o) := hcb 1 _ rfl
          have hin : (i : Int) < (k : Int) := by omega
          have hi0 : (0 : Int) ≤ (i : Int) := by omega
          have hi00 : decide ((i : Int) < 0) = false := decide_eq_false (by omega)
          have hbw : b < wr.heap.size := by omega
          obtain ⟨wo, hwo⟩ : ∃ wo, wo = wr := ⟨_, rfl⟩
          subst hwo
          have HBA := Lib.hid (HB.out.alloc hsz (.cells #[.int .i64 bb.a, .int .i64 bb.o] 30))
          have hclone := clone_B (some ⟨b, off, none⟩) k c xs (wo.alloc (.cells #[.int .i64 bb.a, .int .i64 bb.o] 30)) B (HZ.out.below (HBA.out.mono hB)) (by simp; omega) (by omega)
          have hlx : i < xs.length := by rw [HLN.out]; exact hik
          have hlx2 : xs.length ≤ 64 := by rw [HLN.out]; exact hn64
          have HTK := Lib.hid (TkI.start HRP.out HXI.out)
          have HSZ0 : Hid (wo.heap.size + 1 = (wo.alloc (.cells #[.int .i64 bb.a, .int .i64 bb.o] 30)).heap.size) := Lib.hid (by simp)
          have hbo6 : bb.o ≤ 6 := by have := okB_cases (HRP.out.1 bb (List.mem_of_getElem? HXI.out)); omega
          clear hcb
          go_wp2_with (first
            | (go_at_call 31
               refine (delete_B v2 xs i hlx w2 (wo.heap.size + 1) HO2.out (by have := HB2.out.size; have := HSZ0.out; omega) (by omega)).mono ?_
               rintro e w3 ⟨v3, rfl, ho3, hb3⟩)
            | (go_at_call 32
               refine hclone.mono ?_
               rintro e w2 ⟨v2, rfl, ho2, hb2⟩
               have HO2 : Hid (Os fB 2 30 w2 (wo.heap.size + 1) v2 xs) := Lib.hid (by rw [HSZ0.out]; exact ho2)
               have HB2 := Lib.hid hb2
               clear ho2 hb2 hclone))
          have HO3 := Lib.hid ho3
          have HB3 : Hid (Below (wo.heap.size + 1) (wo.alloc (.cells #[.int .i64 bb.a, .int .i64 bb.o] 30)) w3) := Lib.hid (by
            have h2 := HB2.out
            rw [← HSZ0.out] at h2
            exact h2.trans hb3)
          clear ho3 hb3
          have hs3 : wo.heap.size < w3.heap.size := by have := HB3.out.size; have := HSZ0.out; omega
          have g0 : w3.cell? ⟨wo.heap.size, 0, none⟩ = some (.int .i64 bb.a) := by rw [HB3.out.cell (p := ⟨wo.heap.size, 0, none⟩) (Nat.lt_succ_self _)]; simp [go_sem]
          have g1 : w3.cell? ⟨wo.heap.size, 1, none⟩ = some (.int .i64 bb.o) := by rw [HB3.out.cell (p := ⟨wo.heap.size, 1, none⟩) (Nat.lt_succ_self _)]; simp [go_sem]
          have g2 : w3.frozen? ⟨wo.heap.size, 1, none⟩ = false := by rw [HB3.out.frozen (p := ⟨wo.heap.size, 1, none⟩) (Nat.lt_succ_self _)]; simp [go_sem]
          have HBW := Lib.hid (HBA.out.trans (HB3.out.mono (by omega)))
          clear bc0 bc1
          go_loopw [11] (fun v11 wr => ∃ (o : Int) (out : List Blk), Hid (TkI xs bb.a out o) ∧ Hid (Os fB 2 30 wr (wo.heap.size + 1) v11 out) ∧ Hid (Below w.heap.size w wr) ∧ wo.heap.size < wr.heap.size ∧ wr.cell? ⟨wo.heap.size, 0, none⟩ = some (.int .i64 bb.a) ∧ wr.cell? ⟨wo.heap.size, 1, none⟩ = some (.int .i64 o) ∧ wr.frozen? ⟨wo.heap.size, 1, none⟩ = false ∧ ord ≤ o ∧ o ≤ 6 ∧ out.length + o ≤ 70) (fun _ wr => (cellI wr ⟨wo.heap.size, 1, none⟩ - ord).toNat)
          case atStart => exact ⟨bb.o, xs.eraseIdx i, HTK, HO3, HBW, hs3, g0, g1, g2, HUO.out, hbo6, by rw [List.length_eraseIdx, if_pos hlx]; omega⟩
          case round =>
            obtain ⟨o, out, HT, HO, HBr, hsr, c0, c1, c2, hoo, ho6, hol⟩ := hrel
            obtain ⟨A2, cp, rfl, hcp1, hcp2⟩ := HO.out.form
            by_cases hgt : ord < o
            · have hs1 := size_any (o - 1) (by omega) (by omega)
              have HT2 := Lib.hid (HT.out.step (by omega))
              obtain ⟨q1, q2⟩ : 0 ≤ bb.a ∧ bb.a ≤ 64 := by
                obtain ⟨h1, h2, _⟩ := okB_cases HT.out.1
                have := szO_pos o
                simp only at h1 h2
                exact ⟨h1, by omega⟩
              obtain ⟨s1, s2⟩ := szO_le (o := o - 1) (by omega) (by omega)
              generalize szO (o - 1) = s at *
              have hm1 : cellI wr ⟨wo.heap.size, 1, none⟩ = o := cellI_eq c1
              obtain ⟨i0, hi, hz0, hz1, hz2⟩ := info_parts info_B
              have hWs : (wr.setCell ⟨wo.heap.size, 1, none⟩ (.int .i64 (o - 1))).heap.size = wr.heap.size := by simp
              have HOs : Hid (Os fB 2 30 (wr.setCell ⟨wo.heap.size, 1, none⟩ (.int .i64 (o - 1))) (wo.heap.size + 1) (.slice A2 out.length cp) out) := Lib.hid (HO.out.set_other (Nat.lt_succ_self _) _)
              go_wp2
              have HWR : Hid (IntKind.i64.wrap (bb.a + s) = bb.a + s) := Lib.hid (by rw [IntKind.wrap_i64]; omega)
              have HNC : Hid (∀ j u, (fB ⟨IntKind.i64.wrap (bb.a + s), o - 1⟩)[j]? = some u → ((wr.setCell ⟨wo.heap.size, 1, none⟩ (.int .i64 (o - 1))).alloc (.cells #[.int .i64 (IntKind.i64.wrap (bb.a + s)), .int .i64 (o - 1)] 30)).drew.cell? ((⟨wr.heap.size, 0, none⟩ : Addr).add j) = some u) := Lib.hid (fun j u h => by
                have := alloc_cells (T := 30) (vs := fB ⟨IntKind.i64.wrap (bb.a + s), o - 1⟩) (W := wr.setCell ⟨wo.heap.size, 1, none⟩ (.int .i64 (o - 1))) j u h
                rw [hWs] at this
                exact this)
              have HOW : Hid (Os fB 2 30 (((wr.setCell ⟨wo.heap.size, 1, none⟩ (.int .i64 (o - 1))).alloc (.cells #[.int .i64 (IntKind.i64.wrap (bb.a + s)), .int .i64 (o - 1)] 30)).drew) (wo.heap.size + 1) (.slice A2 out.length cp) out) := Lib.hid (HOs.out.below (((Below.refl _ _).alloc (Nat.le_refl _) _).trans (below_drew _ _)) (Nat.le_refl _))
              have hWz : wo.heap.size + 1 ≤ (((wr.setCell ⟨wo.heap.size, 1, none⟩ (.int .i64 (o - 1))).alloc (.cells #[.int .i64 (IntKind.i64.wrap (bb.a + s)), .int .i64 (o - 1)] 30)).drew).heap.size := by simp; omega
              have hWb : wo.heap.size < wr.heap.size := hsr
              have hW0 : Hid ((((wr.setCell ⟨wo.heap.size, 1, none⟩ (.int .i64 (o - 1))).alloc (.cells #[.int .i64 (IntKind.i64.wrap (bb.a + s)), .int .i64 (o - 1)] 30)).drew).cell? ⟨wo.heap.size, 0, none⟩ = some (.int .i64 bb.a)) := Lib.hid (by simp [go_sem, c0, hWb])
              have hW1 : Hid ((((wr.setCell ⟨wo.heap.size, 1, none⟩ (.int .i64 (o - 1))).alloc (.cells #[.int .i64 (IntKind.i64.wrap (bb.a + s)), .int .i64 (o - 1)] 30)).drew).cell? ⟨wo.heap.size, 1, none⟩ = some (.int .i64 (o - 1))) := Lib.hid (by simp [go_sem, c1, hWb])
              have hW2 : Hid ((((wr.setCell ⟨wo.heap.size, 1, none⟩ (.int .i64 (o - 1))).alloc (.cells #[.int .i64 (IntKind.i64.wrap (bb.a + s)), .int .i64 (o - 1)] 30)).drew).frozen? ⟨wo.heap.size, 1, none⟩ = false) := Lib.hid (by simp [go_sem, c2, hWb])
              have HBX : Hid (Below w.heap.size w (((wr.setCell ⟨wo.heap.size, 1, none⟩ (.int .i64 (o - 1))).alloc (.cells #[.int .i64 (IntKind.i64.wrap (bb.a + s)), .int .i64 (o - 1)] 30)).drew)) := Lib.hid (((HBr.out.setCell (by exact hsz) _).alloc (by simp; omega) _).trans (below_drew _ _))
              go_region_law (first
                | (refine step_append_own rfl (.tmp 68) (.tmp 78) 22 rfl (wo.heap.size + 1) 30 i0 (.agg #[.int .i64 0, .int .i64 0]) 2 16 Try.underlying22 hi hz0 hz1 hz2 rfl (by decide) (.slice A2 out.length cp) out.length (out.flatMap fB) (by simp [Act.eval]) HOW.out ⟨wr.heap.size, 0, none⟩ 1 1 (fB ⟨IntKind.i64.wrap (bb.a + s), o - 1⟩) (by simp [Act.eval]) rfl HNC.out (fB_one1 _) (by unfold maxLen; omega) (by omega) (by first | (simp; omega) | omega) ?_
                   intro v' w' hown hgrow
                   have HON : Hid (Os fB 2 30 w' (wo.heap.size + 1) v' (out ++ [⟨bb.a + s, o - 1⟩])) := Lib.hid (by
                     have := os_append (ys := [(⟨IntKind.i64.wrap (bb.a + s), o - 1⟩ : Blk)]) (by simpa using hown) (by simp)
                     rw [HWR.out] at this; exact this)
                   have HBN := Lib.hid (grown_below hgrow HOW.out (Nat.le_refl _) hWz)
                   clear hown hgrow)
                | (refine step_call 33 #[.int .i64 (o - 1)] rfl ?_ (hs1 _) (fun e w' h => ⟨_, h.1⟩) ?_
                   · (go_simp; done)
                   rintro v w2 ⟨e, rfl⟩
                   injection e with e
                   subst e))
              all_goals
                go_wp2
                go_roundw
                case rel =>
                  exact ⟨v', _, _, _, _, _, _, _, _, _, _, _, _, _, _, _, _, _, _, _, _, ⟨o - 1, _, HT2, HON, Lib.hid (HBX.out.trans (HBN.out.mono (by omega))), (by have := HBN.out.size; omega), (by rw [HBN.out.cell (p := ⟨wo.heap.size, 0, none⟩) (Nat.lt_succ_self _)]; exact hW0.out), (by rw [HBN.out.cell (p := ⟨wo.heap.size, 1, none⟩) (Nat.lt_succ_self _)]; exact hW1.out), (by rw [HBN.out.frozen (p := ⟨wo.heap.size, 1, none⟩) (Nat.lt_succ_self _)]; exact hW2.out), by omega, by omega, by simp; omega⟩, rfl⟩
                case measure =>
                  have e1 : cellI _ ⟨wo.heap.size, 1, none⟩ = o - 1 := cellI_eq (by rw [HBN.out.cell (p := ⟨wo.heap.size, 1, none⟩) (Nat.lt_succ_self _)]; exact hW1.out)
                  rw [hm1, e1]; omega
            · have hoe : o = ord := by omega
              subst hoe
              have hd : decide (o < o) = false := by simp
              have hgd := HT.out.2.1.1
              have hsort := sort_Bk (.slice A2 out.length cp) out wr (wo.heap.size + 1) HO.out (fun x hx => by
                obtain ⟨h1, h2, _⟩ := okB_cases (hgd x hx)
                have := szO_pos x.o
                exact ⟨h1, by omega⟩) (by omega) (by omega)
              clear hgd
              go_wp2_with (go_at_call 34; refine hsort.mono ?_; rintro e w4 ⟨rfl, ys, hp, hsr2, ho4, hb4⟩)
              have HO4 := Lib.hid ho4
              have HB4 := Lib.hid hb4
              have HYS : Hid (ys = takeC xs bb.a o) := Lib.hid (HT.out.end hp.symm hsr2)
              have d0 : w4.cell? ⟨wo.heap.size, 0, none⟩ = some (.int .i64 bb.a) := by rw [HB4.out.cell (p := ⟨wo.heap.size, 0, none⟩) (Nat.lt_succ_self _)]; exact c0
              clear ho4 hb4 hp hsr2 hsort
              go_quiet (fail)
              go_wp2
              go_ret3
              refine ⟨_, by rw [HRES.out]; rfl, ?_, HBr.out.trans ((HB4.out.mono (by omega)).trans (below_drewN _ _ _))⟩
              rw [HRES.out, ← HYS.out]
              exact (HO4.out.below (below_drewN _ _ _) (Nat.le_refl _)).rebase (by omega)
end Go.Proofs.Ytnbhchfpfbbngaa
