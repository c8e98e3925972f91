/- The reference: BRight, BTake, BGive. -/
import Derived.Test.YtnbhchfpfbbngaaBdf
namespace Go.Proofs.Ytnbhchfpfbbngaa
open Go.ChangeShapes Go.WideShapes Go.ChangeAt Go.RowKit Go.Joins Go.Sort
set_option linter.unusedVariables false
theorem bfree_v {w : World} {v : Value} {xs : List Blk} (h : Bv w v xs) : Calls Try.prog 38 #[v] w (GivesF w xs) := by
  obtain ⟨A, n, c, rfl, hr, hn⟩ := h
  exact bfree_any A n c xs w _ hr (Nat.le_refl _) hn
theorem bblocks_v {w : World} {g : Nat} {fl : Nat → Bool} (h : Fr w g fl) : Calls Try.prog 39 #[.slice (some ⟨g, 0, none⟩) 64 64] w fun e w' => ∃ v, e = .returned v ∧ Bv w' v (canon fl) ∧ Below w.heap.size w w' :=
  (bblocks_any g fl w h).mono fun e w' ⟨v, h1, h2, h3⟩ => ⟨v, h1, Bv.of h2 (by have := rp_len (canon_rp fl); omega), h3⟩
theorem bf_same {xs : List Blk} (h : BfP xs) : sameL eqB (canon (covB xs)) xs = rightB xs := by
  rw [Bool.eq_iff_iff, sameL_iff (fun a b => eqB_iff), right_bf]
  exact ⟨fun e => ⟨h, e⟩, fun e => e.2⟩
set_option maxHeartbeats 4000000 in
theorem bright_v {w : World} {v : Value} {xs : List Blk} (h : Bv w v xs) : Calls Try.prog 19 #[v] w fun e w' => e = .returned (.bool (rightB xs)) ∧ Below w.heap.size w w' := by
  have hfr := bfree_v h
  have HV := Lib.hid h
  have HBB := Lib.hid (fun (W : World) (g : Nat) (h : Fr W g (covB xs)) => bblocks_v h)
  have HEQ := Lib.hid (fun (W : World) (u : Value) (hp : BfP xs) (h1 : Bv W u (canon (covB xs))) (h2 : Bv W v xs) => (by
    have := equal_v h1 h2
    rw [bf_same hp] at this; exact this : Calls Try.prog 13 #[u, v] W fun e w' => e = .returned (.bool (rightB xs)) ∧ Below W.heap.size W w'))
  have HRF : Hid (¬ BfP xs → rightB xs = false) := Lib.hid (fun h => by
    rw [← Bool.not_eq_true, right_bf]
    exact fun h2 => h h2.1)
  clear h
  obtain ⟨rb, hrb⟩ : ∃ r, r = rightB xs := ⟨_, rfl⟩
  rw [← hrb] at HEQ HRF ⊢
  clear hrb
  unfold GivesF at hfr
  by_cases hp : BfP xs
  · have HP := Lib.hid hp
    have hfr2 : Calls Try.prog 38 #[v] w fun e w' => ∃ g, e = .returned (.tuple #[.slice (some ⟨g, 0, none⟩) 64 64, .bool true]) ∧ w.heap.size ≤ g ∧ Fr w' g (covB xs) ∧ Below w.heap.size w w' := hfr.mono fun e w' h => by
      rcases h with ⟨_, h⟩ | ⟨h, _⟩
      · exact h
      · exact absurd hp h
    clear hfr hp HRF
    go_enter Try.func19, Try.ntmps19
    go_wp2_with (first
      | (go_at_call 13
         refine (HEQ.out w2 u2 HP.out B2.out (HV.out.below K2.out)).mono ?_
         rintro e w3 ⟨rfl, hb3⟩
         have K3 := Lib.hid (K2.out.trans (hb3.mono K2.out.size))
         clear hb3)
      | (go_at_call 39
         refine (HBB.out w1 g F1.out).mono ?_
         rintro e w2 ⟨u2, rfl, hu2, hb2⟩
         have B2 := Lib.hid hu2
         have K2 := Lib.hid (K1.out.trans (hb2.mono K1.out.size))
         clear hu2 hb2)
      | (go_at_call 38
         refine hfr2.mono ?_
         rintro e w1 ⟨g, rfl, hg1, hf1, hb1⟩
         have F1 := Lib.hid hf1
         have K1 := Lib.hid hb1
         clear hf1 hb1))
    go_ret
    exact ⟨by first | rfl | simp, K3.out⟩
  · have hfr2 : Calls Try.prog 38 #[v] w fun e w' => e = .returned (.tuple #[.slice none 0 0, .bool false]) ∧ Below w.heap.size w w' := hfr.mono fun e w' h => by
      rcases h with ⟨h, _⟩ | ⟨_, h⟩
      · exact absurd h hp
      · exact h
    have HR0 := Lib.hid (HRF.out hp)
    clear hfr hp HRF
    go_enter Try.func19, Try.ntmps19
    go_wp2_with (go_at_call 38; refine hfr2.mono ?_; rintro e w1 ⟨rfl, hb1⟩)
    go_ret
    exact ⟨ret_b (by rw [HR0.out]), hb1⟩
/-- A special operation that gives blocks. -/
def Sp.bv (at_ : Nat) (xs : List Blk) : Sp :=
  ⟨at_, fun _ => True, fun v w => Bv w v xs, ⟨.bool true, trivial⟩, fun _ _ _ h hb => h.below hb⟩
/-- What the reference's Take hands back. -/
def GivesV (w : World) (r : List Blk × Int × Int) (e : Ending) (w' : World) : Prop := ∃ v, e = .returned (.tuple #[v, .int .i64 r.2.1, .int .i64 r.2.2]) ∧ Bv w' v r.1 ∧ Below w.heap.size w w'
theorem Bv.nil {w : World} : Bv w (.slice none 0 0) [] := ⟨none, 0, 0, rfl, Rw.nil, by omega⟩
theorem bestF_no {xs : List Blk} {f : Nat} {o : Int} (h : ∀ j x, j < xs.length → xs[j]? = some x → ¬ x.o = o) : bestF xs (f + 1) o = bestF xs f (o + 1) := by
  rw [bestF, List.find?_eq_none.2 fun c hc => ?_]
  obtain ⟨j, hj⟩ := List.getElem?_of_mem hc
  have := h j c (List.getElem?_eq_some_iff.1 hj).1 hj
  simpa using this
theorem bestF_yes {xs : List Blk} {f k : Nat} {o : Int} {x : Blk} (hx : xs[k]? = some x) (ho : x.o = o) (h : ∀ j y, j < k → xs[j]? = some y → ¬ y.o = o) : bestF xs (f + 1) o = some x := by
  rw [bestF, find_first hx (by simp [ho]) fun j c hj hc => by simpa using h j c hj hc]
set_option maxHeartbeats 8000000 in
set_option maxRecDepth 100000 in
theorem btake_v {w : World} {v : Value} {xs : List Blk} (h : Bv w v xs) (ord : Int) (hord : I64 ord) : Calls Try.prog 17 #[v, .int .i64 ord] w (GivesV w (takeS xs ord)) := by
  have hbr := bright_v h
  have HFR := Lib.hid (fun (W : World) (h2 : Below w.heap.size w W) => bfree_v (h.below h2))
  have HBB := Lib.hid (fun (W : World) (g : Nat) (fl : Nat → Bool) (h : Fr W g fl) => bblocks_v h)
  have HTS := Lib.hid (takeS_eq xs ord)
  cases hr : rightB xs with
  | false =>
    rw [hr] at hbr
    have HRES : Hid (takeS xs ord = ([], 0, 1)) := Lib.hid (by rw [HTS.out, hr]; rfl)
    clear HTS h hr
    generalize takeS xs ord = rs at *
    go_enter Try.func17, Try.ntmps17
    go_wp2_with (go_at_call 19; refine hbr.mono ?_; rintro e w1 ⟨rfl, hb1⟩)
    have KB1 := Lib.hid hb1
    clear hb1 hbr
    go_ret3
    exact ⟨_, by rw [HRES.out]; rfl, by rw [HRES.out]; exact Bv.nil, KB1.out⟩
  | true =>
    rw [hr] at hbr
    have HRP := Lib.hid (right_rp hr)
    by_cases ho1 : ord < 0
    · have HRES : Hid (takeS xs ord = ([], 0, 2)) := Lib.hid (by rw [HTS.out, hr, if_pos rfl, if_neg (by omega)])
      clear HTS h hr
      generalize takeS xs ord = rs at *
      go_enter Try.func17, Try.ntmps17
      go_wp2_with (go_at_call 19; refine hbr.mono ?_; rintro e w1 ⟨rfl, hb1⟩)
      have KB1 := Lib.hid hb1
      clear hb1 hbr
      go_ret3
      exact ⟨_, by rw [HRES.out]; rfl, by rw [HRES.out]; exact Bv.nil, KB1.out⟩
    by_cases ho2 : 6 < ord
    · have HRES : Hid (takeS xs ord = ([], 0, 2)) := Lib.hid (by rw [HTS.out, hr, if_pos rfl, if_neg (by omega)])
      clear HTS h hr
      generalize takeS xs ord = rs at *
      go_enter Try.func17, Try.ntmps17
      go_wp2_with (go_at_call 19; refine hbr.mono ?_; rintro e w1 ⟨rfl, hb1⟩)
      have KB1 := Lib.hid hb1
      clear hb1 hbr
      go_ret3
      exact ⟨_, by rw [HRES.out]; rfl, by rw [HRES.out]; exact Bv.nil, KB1.out⟩
    have HT1 : Hid (bestB xs ord = none → takeS xs ord = ([], 0, 4)) := Lib.hid (fun h => by rw [HTS.out, hr, if_pos rfl, if_pos ⟨by omega, by omega⟩, h])
    have HT2 : Hid (∀ b, bestB xs ord = some b → takeS xs ord = (takeC xs b.a ord, b.a, 0)) := Lib.hid (fun b h => by rw [HTS.out, hr, if_pos rfl, if_pos ⟨by omega, by omega⟩, h])
    have HB0 : Hid (bestB xs ord = bestF xs (7 - ord).toNat ord) := Lib.hid rfl
    obtain ⟨A, n, c, rfl, hz, hn⟩ := h
    have HZ := Lib.hid hz
    have HLN := Lib.hid hz.1
    have hn64 : n ≤ 64 := by rw [← hz.1]; exact rp_len HRP.out
    have HX := Lib.hid (fun (i : Nat) (hi : i < n) => (⟨xs[i]'(by rw [hz.1]; exact hi), List.getElem?_eq_getElem _⟩ : ∃ x, xs[i]? = some x))
    have HA : Hid (0 < n → ∃ b off, A = some ⟨b, off, none⟩ ∧ b < w.heap.size) := Lib.hid (fun h => HZ.out.open h)
    clear HTS hr hz
    generalize takeS xs ord = rs at *
    generalize bestB xs ord = bb at *
    go_enter Try.func17, Try.ntmps17
    go_wp2_with (go_at_call 19; refine hbr.mono ?_; rintro e w1 ⟨rfl, hb1⟩)
    have KB1 := Lib.hid hb1
    clear hb1 hbr
    go_loopw [7] (fun v7 wr => ∃ o : Int, ord ≤ o ∧ o ≤ 7 ∧ v7 = .int .i64 o ∧ Hid (bb = bestF xs (7 - o).toNat o) ∧ Hid (Below w.heap.size w wr)) (fun v7 _ => (7 - intOf v7).toNat)
    case atStart => exact ⟨ord, by omega, by omega, rfl, HB0, KB1⟩
    case round =>
      obtain ⟨o, hoo, ho7, rfl, HBE, HB⟩ := hrel
      have hsz := HB.out.size
      by_cases hlo : o < 7
      · obtain ⟨wp, hwp⟩ : ∃ wp, wp = wr := ⟨_, rfl⟩
        subst hwp
        have hd6 : decide (o ≤ 6) = true := decide_eq_true (by omega)
        obtain ⟨f, hf⟩ : ∃ f, (7 - o).toNat = f + 1 := ⟨(7 - o).toNat - 1, by omega⟩
        have HBF : Hid (bb = bestF xs (f + 1) o) := Lib.hid (by rw [HBE.out, hf])
        have HFE : Hid ((7 - (o + 1)).toNat = f) := Lib.hid (by omega)
        clear hf
        go_wp2
        go_loopw [29] (fun i wr => ∃ k : Nat, k ≤ n ∧ i = .int .i64 k ∧ Hid (∀ j x, j < k → xs[j]? = some x → ¬ x.o = o) ∧ Hid (Below w.heap.size w wr)) (fun i _ => n - (intOf i).toNat)
        case atStart => exact ⟨0, by omega, rfl, Lib.hid (fun j x hj => absurd hj (Nat.not_lt_zero _)), HB⟩
        case round =>
          obtain ⟨k, hk, rfl, HN, HBr⟩ := hrel
          have hszr := HBr.out.size
          by_cases hlt : k < n
          · obtain ⟨x, hx⟩ := HX.out k hlt
            obtain ⟨b, off, hAe, hb⟩ := HA.out (by omega)
            subst hAe
            have hcs := (HZ.out.below HBr.out).at_ fB_len hx
            have xc0 : wr.cell? ⟨b, off + k * 2, none⟩ = some (.int .i64 x.a) := hcs 0 _ rfl
            have xc1 : wr.cell? ⟨b, off + k * 2 + 1, none⟩ = some (.int .i64 x.o) := hcs 1 _ rfl
            have HX0 := Lib.hid hx
            have HBA := Lib.hid (HBr.out.alloc hszr (.cells #[.int .i64 x.a, .int .i64 x.o] 30))
            clear hcs hx
            by_cases hxo : x.o = o
            · have heq : (x.o == o) = true := by rw [hxo]; simp
              have HRES := Lib.hid (HT2.out x (by rw [HBF.out, bestF_yes HX0.out hxo HN.out]))
              obtain ⟨x1, x2, x3, x4⟩ := okB_cases (HRP.out.1 x (List.mem_of_getElem? HX0.out))
              obtain ⟨u1, u2⟩ := sub_ok (HRP.out.1 x (List.mem_of_getElem? HX0.out)) (show 0 ≤ ord by omega) (by omega)
              have hsh := shl_one (o := ord) (by omega) (by omega)
              obtain ⟨s1, s2⟩ := szO_le (o := ord) (by omega) (by omega)
              have HTC : Hid (∀ n : Nat, inBB ⟨x.a, ord⟩ n = (decide (x.a ≤ n) && decide ((n : Int) < x.a + szO ord))) := Lib.hid (fun n => rfl)
              have HSE : Hid (szO ord = 2 ^ ord.toNat) := Lib.hid rfl
              obtain ⟨xa, hxa⟩ := Int.eq_ofNat_of_zero_le x1
              have HXO := Lib.hid hxo
              clear hxo
              obtain ⟨wq, hwq⟩ : ∃ wp, wp = wr := ⟨_, rfl⟩
              subst hwq
              have hfr := HFR.out (wq.alloc (.cells #[.int .i64 x.a, .int .i64 x.o] 30)) HBA.out
              have hfr2 : Calls Try.prog 38 #[.slice (some ⟨b, off, none⟩) n c] (wq.alloc (.cells #[.int .i64 x.a, .int .i64 x.o] 30)) fun e w' => ∃ g, e = .returned (.tuple #[.slice (some ⟨g, 0, none⟩) 64 64, .bool true]) ∧ (wq.alloc (.cells #[.int .i64 x.a, .int .i64 x.o] 30)).heap.size ≤ g ∧ Fr w' g (covB xs) ∧ Below (wq.alloc (.cells #[.int .i64 x.a, .int .i64 x.o] 30)).heap.size (wq.alloc (.cells #[.int .i64 x.a, .int .i64 x.o] 30)) w' := hfr.mono fun e w' h => by
                rcases h with ⟨_, h⟩ | ⟨h, _⟩
                · exact h
                · exact absurd ⟨HRP.out.1, HRP.out.2.1⟩ h
              have hxs : x.a + szO ord ≤ 64 := by omega
              obtain ⟨s, hs⟩ : ∃ s, s = szO ord := ⟨_, rfl⟩
              rw [← hs] at hsh s1 s2 HTC HSE hxs
              have hw64 : wrap64 (2 ^ ord.toNat) = s := by rw [← HSE.out]; unfold wrap64; omega
              have HXA := Lib.hid hxa
              clear hs hfr x2 x3 x4 u1 u2 hxa
              go_wp2_with (go_at_call 38; refine hfr2.mono ?_; rintro e w2 ⟨g, rfl, hg2, hf2, hb2⟩)
              simp only [hw64]
              clear hw64 hsh HSE
              have HF2 := Lib.hid hf2
              have HB2 := Lib.hid hb2
              have hqg : wq.heap.size < g := by simp at hg2; omega
              have hqz : wq.heap.size < w2.heap.size := by have := hf2.lt; omega
              have y0 : w2.cell? ⟨wq.heap.size, 0, none⟩ = some (.int .i64 xa) := by rw [hb2.cell (p := ⟨wq.heap.size, 0, none⟩) (by simp), ← HXA.out]; simp [go_sem]
              have KBQ := Lib.hid (HBA.out.trans (hb2.mono (by simp; omega)))
              rw [HXA.out] at hxs
              clear hf2 hb2 hg2 hfr2 xc0 xc1
              go_loopw [44] (fun i wr => ∃ q : Nat, (q : Int) ≤ s ∧ i = .int .i64 q ∧ Hid (Fr wr g (fun m => covB xs m && !(decide ((xa : Int) ≤ m) && decide ((m : Int) < xa + q)))) ∧ Hid (Below w.heap.size w wr) ∧ wq.heap.size < wr.heap.size ∧ wr.cell? ⟨wq.heap.size, 0, none⟩ = some (.int .i64 xa)) (fun i _ => 64 - (intOf i).toNat)
              case atStart => exact ⟨0, by omega, rfl, Lib.hid (HF2.out.congr fun i hi => by simp; omega), KBQ, hqz, y0⟩
              case round =>
                obtain ⟨q, hq, rfl, HFq, HBq, hqs, bc0⟩ := hrel
                by_cases hql : (q : Int) < s
                · have hdq : decide ((q : Int) < s) = true := decide_eq_true hql
                  have hix : ((xa : Int) + (q : Int)).toNat = xa + q := by omega
                  have hi64 : xa + q < 64 := by omega
                  have hi64' : (xa : Int) + (q : Int) < 64 := by omega
                  have hi0 : (0 : Int) ≤ (xa : Int) + (q : Int) := by omega
                  have hfc := HFq.out.at_ (xa + q) hi64
                  have hff := HFq.out.free (xa + q) hi64
                  go_wp2
                  go_roundw
                  case rel => exact ⟨q + 1, by omega, by go_num, Lib.hid ((HFq.out.set hi64 false).congr fun i hi => by
                      unfold upd
                      by_cases e : i = xa + q
                      · subst e; simp; intro _; omega
                      · rw [if_neg e]
                        congr 2
                        rw [Bool.eq_iff_iff]
                        simp
                        omega), Lib.hid (HBq.out.setCell (p := ⟨g, xa + q, none⟩) (by show w.heap.size ≤ g; omega) _), by simpa using hqs, by simp [go_sem, bc0]⟩
                  case measure => simp [intOf]; omega
                · have hqe : (q : Int) = s := by omega
                  have hdq : decide ((q : Int) < s) = false := decide_eq_false hql
                  have HFT : Hid (canon (fun m => covB xs m && !(decide ((xa : Int) ≤ m) && decide ((m : Int) < xa + q))) = takeC xs x.a ord) := Lib.hid (by
                    unfold takeC
                    refine canon_congr fun m hm => ?_
                    rw [HTC.out, HXA.out, hqe])
                  have HBB2 : Hid (∀ W, Below wr.heap.size wr W → Calls Try.prog 39 #[.slice (some ⟨g, 0, none⟩) 64 64] W fun e w' => ∃ v, e = .returned v ∧ Bv w' v (takeC xs x.a ord) ∧ Below W.heap.size W w') := Lib.hid (fun W hb => by
                    have := HBB.out W g _ (HFq.out.below hb HFq.out.lt)
                    rw [HFT.out] at this; exact this)
                  have gc : ∀ (d : Nat) (os : Array Obj) (b o : Nat), b < wr.heap.size → (grow (redrawn wr d) os).cell? ⟨b, o, none⟩ = wr.cell? ⟨b, o, none⟩ := fun d os b o h => (below_regrown _ d os).cell (p := ⟨b, o, none⟩) h
                  go_wp2
                  refine wp_region_rel1 [Sp.bv 1 (takeC xs x.a ord)] (by kernel_rfl) (by kernel_rfl) ?_
                  intro V hV
                  repeat (refine rel_quiet rfl rfl ?_; go_big_quiet_step (fail); refine wpQuiet_nil ?_)
                  refine rel_special (Sp.bv 1 (takeC xs x.a ord)) (by kernel_rfl) rfl (fun w' hb hf => ?_) ?_
                  · refine becomes_call (f := 39) (args := #[.slice (some ⟨g, 0, none⟩) 64 64]) ?_ ((HBB2.out w' hb).mono ?_)
                    · go_simp
                    · rintro e w'' ⟨v, rfl, hv, hb2⟩
                      exact ⟨_, rfl, hb2, trivial, hv⟩
                  go_big_quiet_step (fail)
                  refine wpQuiet_nil ?_
                  repeat (refine rel_quiet rfl rfl ?_; go_big_quiet_step (fail); refine wpQuiet_nil ?_)
                  intro w3 hb3 hf
                  have HBV : Hid (Bv w3 (V 1) (takeC xs x.a ord)) := Lib.hid (hf _ (List.Mem.head _))
                  have HB3 := Lib.hid (HBq.out.trans (hb3.mono HBq.out.size))
                  clear hf hb3 gc
                  generalize V 1 = v1 at *
                  go_wp2
                  go_ret3
                  exact ⟨_, by rw [HRES.out, HXA.out]; rfl, by rw [HRES.out]; exact HBV.out, HB3.out⟩
            · have heq : (x.o == o) = false := by rw [beq_eq_false_iff_ne]; exact hxo
              go_wp2
              go_roundw
              case rel => exact ⟨k + 1, by omega, by go_num, Lib.hid (fun j y hj hy => by
                by_cases e : j = k
                · subst e; rw [HX0.out] at hy; cases hy; exact hxo
                · exact HN.out j y (by omega) hy), HBA⟩
              case measure => simp [intOf]; omega
          · have hkn : k = n := by omega
            subst hkn
            have HBN : Hid (bb = bestF xs (7 - (o + 1)).toNat (o + 1)) := Lib.hid (by rw [HBF.out, bestF_no (by rw [HLN.out]; exact HN.out), HFE.out])
            go_wp2
            go_roundw
            case rel => exact ⟨o + 1, by omega, by omega, by go_num, HBN, HBr⟩
            case measure => simp [intOf]; omega
      · have ho : o = 7 := by omega
        subst ho
        have HRES := Lib.hid (HT1.out (by rw [HBE.out]; rfl))
        go_wp2
        go_ret3
        exact ⟨_, by rw [HRES.out]; rfl, by rw [HRES.out]; exact Bv.nil, HB.out⟩
end Go.Proofs.Ytnbhchfpfbbngaa
