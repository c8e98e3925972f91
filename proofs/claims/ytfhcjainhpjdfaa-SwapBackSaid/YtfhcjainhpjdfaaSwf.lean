/- SwapBack: its walk. -/
import Derived.Test.YtfhcjainhpjdfaaSwe
namespace Go.Proofs.Ytfhcjainhpjdfaa
open Go.ChangeShapes Go.WideShapes Go.ChangeAt Go.RowKit Go.Joins Go.Sort
set_option linter.unusedVariables false
attribute [local go_sem] Oper.quiet Oper.quietAt Oper.quietUpon
/-- A slot that was dropped so often. -/
def dropJ (s : Slo) (j : Int) : Slo := if s.r - j = 0 then ⟨0, [], []⟩ else ⟨s.r - j, s.b, s.t⟩
theorem dropJ_0 {s : Slo} (h : 1 ≤ s.r) : dropJ s 0 = s := by
  unfold dropJ; rw [if_neg (by omega)]; cases s; simp
theorem dropJ_succ {s : Slo} {j : Int} (h : j < s.r) (h0 : 0 ≤ j) : bump (dropJ s j) (-1) = dropJ s (j + 1) := by
  have e : dropJ s j = ⟨s.r - j, s.b, s.t⟩ := by unfold dropJ; rw [if_neg (by omega)]
  rw [e]
  unfold bump dropJ
  by_cases hz : s.r - (j + 1) = 0
  · rw [if_pos (by show s.r - j + -1 = 0; omega), if_pos hz]
  · rw [if_neg (by show ¬ s.r - j + -1 = 0; omega), if_neg hz]
    show (⟨s.r - j + -1, s.b, s.t⟩ : Slo) = _
    rw [show s.r - j + -1 = s.r - (j + 1) by omega]
theorem dropJ_r {s : Slo} {j : Int} (h : j < s.r) : 0 < (dropJ s j).r := by
  unfold dropJ; rw [if_neg (by omega)]; show 0 < s.r - j; omega
theorem dropJ_end {s : Slo} : dropJ s s.r = ⟨0, [], []⟩ := by unfold dropJ; rw [if_pos (by omega)]
theorem free_again {ss : List Slo} {z : Slo} (h : ss.findIdx freeS < ss.length) (hz : freeS z = true) : (ss.set (ss.findIdx freeS) z).findIdx freeS = ss.findIdx freeS := by
  rw [List.findIdx_eq (by simpa using h)]
  refine ⟨by simpa using hz, fun j hj => ?_⟩
  rw [List.getElem_set_ne (by omega)]
  have := List.not_of_lt_findIdx hj
  simpa using this
theorem Rw.one {α : Type} {f : α → List Value} {sz B b off n k : Nat} {w : World} {xs : List α} {x : α} (h : Rw f sz w B (some ⟨b, off, none⟩) n xs) (hx : xs[k]? = some x) : Rw f sz w B (some ⟨b, off + k * sz, none⟩) 1 [x] := by
  have hk : k < n := by have := (List.getElem?_eq_some_iff.1 hx).1; rwa [h.1] at this
  have h1 := (h.drop k).take (m := 1) (by omega)
  have e : (xs.drop k).take 1 = [x] := by
    have hl := (List.getElem?_eq_some_iff.1 hx).1
    rw [List.drop_eq_getElem_cons hl, (List.getElem?_eq_some_iff.1 hx).2]; rfl
  rwa [e] at h1
theorem Sls.one {w : World} {B : Nat} {x : Slv} {s : Slo} (h : SlR w B x s) : Sls w B [x] [s] := ⟨rfl, fun i y t hy ht => by
  cases i with
  | zero => simp at hy ht; subst hy ht; exact h
  | succ i => simp at hy⟩

set_option maxHeartbeats 4000000 in
set_option maxRecDepth 100000 in
theorem swapBack_walk {w : World} (A : Option Addr) (n c : Nat) (xs : List Slv) (hz : Rw fS 3 w w.heap.size A n xs) (hs : ∃ ss, Sls w w.heap.size xs ss) (hnc : n ≤ c) (_ : c ≤ maxLen) (hbig : c ≤ 2513169434843)
    (bA : Option Addr) (bn bc : Nat) (bs : List Int) (hb : Row .u8 w w.heap.size bA bn bs) (_ : ∀ z ∈ bs, (Lit.int .u8 z).wf = true) (_ : bn ≤ bc) (_ : bc ≤ maxLen) (hbb : bc ≤ 140737488351232)
    (tA : Option Addr) (tn tc : Nat) (ts : List Int) (ht : Row .i64 w w.heap.size tA tn ts) (_ : ∀ z ∈ ts, (Lit.int .i64 z).wf = true) (_ : tn ≤ tc) (_ : tc ≤ maxLen) (htb : tc ≤ 17592186043904) (refs : Int) (_ : I64 refs) (other : Int) (_ : I64 other) :
    Calls Try.prog 7 #[.slice A n c, .slice bA bn bc, .slice tA tn tc, .int .i64 refs, .int .i64 other] w fun e w' => e = .returned (.bool true) ∧ Below w.heap.size w w' := by
  obtain ⟨ss, hs⟩ := hs
  have HZ := Lib.hid hz
  have HS := Lib.hid hs
  have HBr := Lib.hid hb
  have HTr := Lib.hid ht
  clear hz hs hb ht
  have HP := Lib.hid (fun W hz hs hb ht => put_any A n c xs ss bA bn bc bs tA tn tc ts refs W hz hs hb ht (by omega))
  by_cases hE : putE ss bs ts refs = 0
  · have hcond : bs.length = 64 ∧ ts.length = 4 ∧ 1 ≤ refs ∧ refs ≤ 4 ∧ ss.findIdx freeS < ss.length := by
      unfold putE at hE
      split at hE
      · cases hE
      · split at hE
        · rename_i h1 h2; exact ⟨by omega, by omega, by omega, by omega, h2⟩
        · cases hE
    obtain ⟨hb64, ht4, hr1, hr4, hff⟩ := hcond
    have eN : putN ss bs ts refs = ss.findIdx freeS := by unfold putN; rw [if_pos hE]
    have eS : putS ss bs ts refs = ss.set (ss.findIdx freeS) ⟨refs, bs, ts⟩ := by unfold putS; rw [if_pos hE]
    rw [hE, eN, eS] at HP
    have HFA := Lib.hid (free_again (z := (⟨0, [], []⟩ : Slo)) hff (by decide))
    have HB64 := Lib.hid hb64
    have HT4 := Lib.hid ht4
    have hfn : ss.findIdx freeS < n := by rw [← HZ.out.1, HS.out.1]; exact hff
    have HFF := Lib.hid hff
    clear hE eN eS hb64 ht4 hff
    generalize hfe : ss.findIdx freeS = f at *
    have HFE := Lib.hid hfe
    clear hfe
    have bn64 : bn = 64 := by rw [← HBr.out.1, HB64.out]
    have tn4 : tn = 4 := by rw [← HTr.out.1, HT4.out]
    subst bn64 tn4
    -- the list once more, with another slot at f
    have HP2 := Lib.hid (fun (A' : Option Addr) (n' c' : Nat) (ys : List Slv) (W : World) (hn' : n' ≤ 2513169434843) (hz : Rw fS 3 W W.heap.size A' n' ys) (hs : Sls W W.heap.size ys (ss.set f ⟨0, [], []⟩)) (hb : Row .u8 W W.heap.size bA 64 bs) (ht : Row .i64 W W.heap.size tA 4 ts) => (by
      have h := put_any A' n' c' ys (ss.set f ⟨0, [], []⟩) bA 64 bc bs tA 4 tc ts refs W hz hs hb ht (by omega)
      have e1 : putE (ss.set f ⟨0, [], []⟩) bs ts refs = 0 := by
        unfold putE
        rw [if_neg (by have := HB64.out; have := HT4.out; omega), HFA.out, if_pos (by rw [List.length_set]; exact HFF.out)]
      have e2 : putN (ss.set f ⟨0, [], []⟩) bs ts refs = f := by unfold putN; rw [if_pos e1, HFA.out]
      have e3 : putS (ss.set f ⟨0, [], []⟩) bs ts refs = ss.set f ⟨refs, bs, ts⟩ := by unfold putS; rw [if_pos e1, HFA.out, List.set_set]
      rw [e1, e2, e3] at h
      exact h : Calls Try.prog 21 #[.slice A' n' c', .slice bA 64 bc, .slice tA 4 tc, .int .i64 refs] W (TPutS f 0 (ss.set f ⟨refs, bs, ts⟩) W)))
    have hssn : ss.length = n := by rw [← HS.out.1, HZ.out.1]
    have HSSN := Lib.hid hssn
    have hl1 : ∀ s : Slo, (ss.set f s)[f]? = some s := fun s => List.getElem?_set_self (by rw [hssn]; exact hfn)
    have HL1 := Lib.hid hl1
    clear hl1 hssn
    go_enter Try.func7, Try.ntmps7
    go_wp2_with fail
    refine (alive12_any _).mono ?_
    rintro e w1 ⟨rfl, hb1⟩
    have HB1 := Lib.hid hb1
    clear hb1
    go_wp2_with fail
    refine (HP.out w1 (HZ.out.on HB1.out (Nat.le_refl _)) (HS.out.on HB1.out (Nat.le_refl _)) (HBr.out.on HB1.out (Nat.le_refl _)) (HTr.out.on HB1.out (Nat.le_refl _))).mono ?_
    rintro e w2 ⟨A2, n2, c2, hnc2, rfl, ys, hr2, hs2, hb2⟩
    have hn2 : n2 = n := by rw [← hr2.1, hs2.1, List.length_set]; exact HSSN.out
    subst hn2
    have HR2 := Lib.hid hr2
    have HS2 := Lib.hid hs2
    have HB2 := Lib.hid (HB1.out.trans (hb2.mono HB1.out.size))
    clear hr2 hs2 hb2
    have hget := get_yes A2 n2 c2 ys _ (f : Int) w2 HR2.out HS2.out ⟨refs, bs, ts⟩ ⟨by omega, by rw [Int.toNat_natCast]; exact HL1.out _, by show 0 < refs; omega⟩
    go_wp2_with fail
    refine hget.mono ?_
    clear hget
    rintro e w3 ⟨A3, n3, c3, A4, n4, c4, rfl, hr3, hr4', hb3⟩
    have hn3 : n3 = 64 := by rw [← hr3.1]; exact HB64.out
    have hn4 : n4 = 4 := by rw [← hr4'.1]; exact HT4.out
    subst hn3 hn4
    have HB3 := Lib.hid (HB2.out.trans (hb3.mono HB2.out.size))
    have HR23 := Lib.hid (HR2.out.on hb3 (Nat.le_refl _))
    have HS23 := Lib.hid (HS2.out.on hb3 (Nat.le_refl _))
    have q1 := conv_row (c := c3) hr3
    have q2 := conv_row (c := bc) (HBr.out.on HB3.out (Nat.le_refl _))
    have hcall := equalI_same A4 tA 4 c4 tc ts w3 w3.heap.size hr4' (HTr.out.on HB3.out (Nat.le_refl _)) (by omega)
    clear hr3 hr4' hb3
    generalize strOfNums bs = str at *
    go_wp2_with fail
    refine hcall.mono ?_
    clear hcall
    rintro e w4 ⟨rfl, hb4⟩
    have HB4 := Lib.hid (HB3.out.trans (hb4.mono HB3.out.size))
    have HR4 := Lib.hid (HR23.out.on hb4 (Nat.le_refl _))
    have HS4 := Lib.hid (HS23.out.on hb4 (Nat.le_refl _))
    clear hb4 q1 q2
    obtain ⟨b2, off2, rfl, hb2l⟩ := HR4.out.open (by omega)
    obtain ⟨b1, off1, rfl, hb1l⟩ := HZ.out.open (by omega)
    go_wp2
    go_loopw [65] (fun i wr => ∃ k : Nat, k ≤ n2 ∧ i = .int .i64 k ∧ Hid (Below w4.heap.size w4 wr)) (fun i _ => n2 - (intOf i).toNat)
    case atStart => exact ⟨0, by omega, rfl, Lib.hid (Below.refl _ _)⟩
    case round =>
      obtain ⟨k, hk, rfl, HB⟩ := hrel
      by_cases hlt : k < n2
      · have hk0 : (0 : Int) ≤ (k : Int) := by omega
        have hkw : IntKind.i64.wrap ((k : Int) + 1) = (k : Int) + 1 := by rw [IntKind.wrap_i64]; omega
        by_cases hkf : k = f
        · have hq : ((k : Int) != (f : Int)) = false := by subst hkf; simp
          clear hkf hkw
          go_wp2_with fail
          go_quiet (fail)
          go_wp2
          go_roundw
          case rel => exact ⟨k + 1, by omega, by go_num, Lib.hid (HB.out.trans (below_drewN _ _ _))⟩
          case measure => simp [intOf]; omega
        · have hq : ((k : Int) != (f : Int)) = true := by rw [bne_iff_ne]; omega
          obtain ⟨x, s, hx, hs, hr⟩ := HS4.out.get (i := k) (by rw [HR4.out.1]; exact hlt)
          rw [List.getElem?_set_ne (fun e => hkf e.symm)] at hs
          obtain ⟨x', s', hx', hs', hr'⟩ := HS.out.get (i := k) (by rw [HZ.out.1]; exact hlt)
          rw [hs] at hs'; cases hs'
          have hWk : Below w.heap.size w wr := HB4.out.trans (HB.out.mono HB4.out.size)
          have HSAME := Lib.hid (fun W (hb : Below wr.heap.size wr W) => same_yes (some ⟨b2, off2 + k * 3, none⟩) (some ⟨b1, off1 + k * 3, none⟩) 1 (c2 - k) 1 (c - k) [x] [x'] [s] W W.heap.size
            (((HR4.out.one hx).on HB.out (Nat.le_refl _)).on hb (Nat.le_refl _)) (((HZ.out.one hx').on hWk (Nat.le_refl _)).on hb (Nat.le_refl _)) (Sls.one ((hr.on HB.out (Nat.le_refl _)).on hb (Nat.le_refl _))) (Sls.one ((hr'.on hWk (Nat.le_refl _)).on hb (Nat.le_refl _))) (Nat.le_refl _) (by omega))
          clear hx hs hr hx' hr' hWk hkf
          have h1 : (0 : Int) ≤ (k : Int) + 1 := by omega
          have h2 : ((k : Int) + 1).toNat = k + 1 := by omega
          have h3 : k + 1 ≤ c2 := by omega
          have h4 : k + 1 ≤ c := by omega
          go_wp2_with fail
          refine wp_region_rel1 [Sp.call 14 (.bool true)] (by kernel_rfl) (by kernel_rfl) ?_
          intro V hV
          have e14 : V 14 = .bool true := hV 14
          repeat (refine rel_quiet rfl rfl ?_; go_big_quiet_step (fail); refine wpQuiet_nil ?_)
          refine rel_special (Sp.call 14 (.bool true)) (by kernel_rfl) rfl (fun w' hb hf => ?_) ?_
          · refine becomes_call (f := 24) (args := #[.slice (some ⟨b2, off2 + k * 3, none⟩) 1 (c2 - k), .slice (some ⟨b1, off1 + k * 3, none⟩) 1 (c - k)]) ?_ ((HSAME.out w' hb).mono ?_)
            · go_simp
            · rintro e w'' ⟨rfl, hb'⟩
              exact ⟨_, rfl, hb', rfl, trivial⟩
          go_big_quiet_step (fail)
          refine wpQuiet_nil ?_
          simp only [e14]
          repeat (refine rel_quiet rfl rfl ?_; go_big_quiet_step (fail); refine wpQuiet_nil ?_)
          intro w5 hb5 hf
          have HB5 := Lib.hid (HB.out.trans (hb5.mono HB.out.size))
          clear hf hb5 hV hkw h1 h2 h3 h4
          go_wp2
          go_roundw
          case rel => exact ⟨k + 1, by omega, by go_num, HB5⟩
          case measure => simp [intOf]; omega
      · have hkn : n2 = k := by omega
        subst hkn
        have HW4 : Hid (Below w.heap.size w wr) := Lib.hid (HB4.out.trans (HB.out.mono HB4.out.size))
        have HR6 := Lib.hid (HR4.out.on HB.out (Nat.le_refl _))
        have HS6 := Lib.hid (HS4.out.on HB.out (Nat.le_refl _))
        obtain ⟨r, rfl⟩ := Int.eq_ofNat_of_zero_le (show 0 ≤ refs by omega)
        obtain ⟨wo, hwo⟩ : ∃ wo : World, wo = wr := ⟨_, rfl⟩
        subst hwo
        have HD0 := Lib.hid (dropJ_0 (s := ⟨(r : Int), bs, ts⟩) (by show (1 : Int) ≤ r; omega))
        go_wp2
        go_loopw [11, 87] (fun s i wr => ∃ (j : Nat) (A7 : Option Addr) (c7 : Nat) (zs : List Slv), j ≤ r ∧ i = .int .i64 j ∧ s = .slice A7 n2 c7 ∧ Hid (Rw fS 3 wr wr.heap.size A7 n2 zs) ∧ Hid (Sls wr wr.heap.size zs (ss.set f (dropJ ⟨(r : Int), bs, ts⟩ j))) ∧ Hid (Below w.heap.size w wr)) (fun _ i _ => r - (intOf i).toNat)
        case atStart => exact ⟨0, _, _, ys, by omega, rfl, rfl, HR6, Lib.hid (by rw [show ((0 : Nat) : Int) = 0 from rfl, HD0.out]; exact HS6.out), HW4⟩
        case round =>
          obtain ⟨j, A7, c7, zs, hj, rfl, rfl, HR7, HS7, HB7⟩ := hrel
          by_cases hjr : j < r
          · have hlt2 : (j : Int) < (r : Int) := by omega
            have hd := sdrop_any A7 n2 c7 zs (ss.set f (dropJ ⟨(r : Int), bs, ts⟩ j)) f wr HR7.out HS7.out (by omega) 0 _ (.inr ⟨_, ⟨by omega, by rw [Int.toNat_natCast]; exact HL1.out _, dropJ_r (s := ⟨(r : Int), bs, ts⟩) hlt2⟩, rfl, rfl⟩)
            rw [Int.toNat_natCast, List.set_set, dropJ_succ (s := ⟨(r : Int), bs, ts⟩) hlt2 (by omega)] at hd
            go_wp2_with fail
            refine hd.mono ?_
            clear hd
            rintro e w8 ⟨A8, n8, c8, rfl, zs8, hr8, hs8, hb8⟩
            have hn8 : n2 = n8 := by rw [← hr8.1, hs8.1, List.length_set]; exact HSSN.out.symm
            subst hn8
            have HR8 := Lib.hid hr8
            have HS8 := Lib.hid hs8
            have HB8 := Lib.hid (HB7.out.trans (hb8.mono HB7.out.size))
            clear hr8 hs8 hb8
            go_wp2
            go_roundw
            case rel => exact ⟨j + 1, A8, c8, zs8, by omega, by go_num, rfl, HR8, Lib.hid (by rw [show ((j + 1 : Nat) : Int) = (j : Int) + 1 by omega]; exact HS8.out), HB8⟩
            case measure => simp [intOf]; omega
          · have hjr2 : r = j := by omega
            subst hjr2
            have HS9 : Hid (Sls wr wr.heap.size zs (ss.set f ⟨0, [], []⟩)) := Lib.hid (by
              have h := HS7.out
              rw [dropJ_end (s := ⟨(r : Int), bs, ts⟩)] at h
              exact h)
            have hg := get_no A7 n2 c7 zs (ss.set f ⟨0, [], []⟩) f wr HR7.out HS9.out (.inr (.inr ⟨⟨0, [], []⟩, by rw [Int.toNat_natCast]; exact HL1.out _, by show (0 : Int) < 1; omega⟩))
            go_wp2_with fail
            refine hg.mono ?_
            clear hg
            rintro e w8 ⟨A8, n8, c8, A9, n9, c9, rfl, hr8, hr9, hb8⟩
            have HB8 := Lib.hid (HB7.out.trans (hb8.mono HB7.out.size))
            have hp := HP2.out A7 n2 c7 zs w8 (by omega) (HR7.out.on hb8 (Nat.le_refl _)) (HS9.out.on hb8 (Nat.le_refl _)) (HBr.out.on HB8.out (Nat.le_refl _)) (HTr.out.on HB8.out (Nat.le_refl _))
            clear hr8 hr9 hb8
            go_wp2_with fail
            refine hp.mono ?_
            clear hp
            rintro e w9 ⟨A10, n10, c10, _, rfl, zs10, hr10, hs10, hb10⟩
            have hn10 : n10 = n2 := by rw [← hr10.1, hs10.1, List.length_set]; exact HSSN.out
            subst hn10
            clear hr10 hs10
            go_wp2
            go_ret
            exact ⟨rfl, HB8.out.trans (hb10.mono HB8.out.size)⟩
  · have hEn : (putE ss bs ts refs != 0) = true := by rw [bne_iff_ne]; exact hE
    have eS : putS ss bs ts refs = [] := by unfold putS; rw [if_neg hE]
    rw [eS] at HP
    clear hE eS
    generalize putE ss bs ts refs = E at *
    generalize putN ss bs ts refs = N at *
    go_enter Try.func7, Try.ntmps7
    go_wp2_with fail
    refine (alive12_any _).mono ?_
    rintro e w1 ⟨rfl, hb1⟩
    have HB1 := Lib.hid hb1
    clear hb1
    go_wp2_with fail
    refine (HP.out w1 (HZ.out.on HB1.out (Nat.le_refl _)) (HS.out.on HB1.out (Nat.le_refl _)) (HBr.out.on HB1.out (Nat.le_refl _)) (HTr.out.on HB1.out (Nat.le_refl _))).mono ?_
    rintro e w2 ⟨A2, n2, c2, hnc2, rfl, ys, hr2, hs2, hb2⟩
    have hn2 : n2 = 0 := by rw [← hr2.1, hs2.1]; rfl
    subst hn2
    have HB2 := Lib.hid (HB1.out.trans (hb2.mono HB1.out.size))
    clear hr2 hs2 hb2
    go_wp2
    go_ret
    exact ⟨rfl, HB2.out⟩
end Go.Proofs.Ytfhcjainhpjdfaa
